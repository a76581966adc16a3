/-
  Orders of sources, and their rows: the reference and the program tell the same.
-/
import Derived.Test.YtcgneindmpkhgaaGreatDoorRSrc
import Derived.Test.YtcgneindmpkhgaaGreatDoorRNat
import Derived.Test.YtcgneindmpkhgaaGreatDoorROk
set_option linter.unusedSimpArgs false
set_option linter.unusedVariables false
set_option autoImplicit false
namespace Go.Rf
theorem loop_marks_k {α C D:Type}{f:List α×Int×Int×Unit→Option (Step (List α×Int×Int×Unit) (List α×Int×Unit) C)}{K:(List α×Int×Unit) ⊕ C→Option D}{mk:Int→α→α}{st:α→Int} (h0:∀ x,0≤st x){P:α→Prop}{B:Int}
  (hstep:∀ pre x post m,P x→pre.length+post.length<big→0<m→m+st x≤B→f (pre++x::post,m,(pre.length:Int),())=some (.more (pre++mk m x::post,m+st x,((pre.length+1:Nat):Int),())))
  (hdone:∀ l m,f (l,m,(l.length:Int),())=some (.done (l,m,()))) (l:List α) (m:Int){N:Nat} (hP:∀ x∈l,P x) (hl:l.length<big) (hm:0<m) (hB:m+sumL st l≤B) (hN:l.length<N) :
  (iter f N (l,m,0,())).bind K=K (.inl (mkL mk st m l,m+sumL st l,())):=by
 have h:=loop_marks h0 hstep hdone l [] m N hP (by simpa using hl) hm hB hN
 simp only [List.nil_append,List.length_nil] at h
 have e0:((0:Nat):Int)=0:=rfl
 rw [e0] at h
 rw [h];rfl
theorem loop_held_k {α C D:Type}{t:List α}{f:Int×Int×Unit→Option (Step (Int×Int×Unit) (Int×Unit) C)}{K:(Int×Unit) ⊕ C→Option D}{mk:Int→α→α}{st:α→Int} (h0:∀ x,0≤st x){P:α→Prop}{B:Int}
  (hstep:∀ pre x post m,t=pre++mk m x::post→P x→pre.length+post.length<big→0<m→m+st x≤B→f (m,(pre.length:Int),())=some (.more (m+st x,((pre.length+1:Nat):Int),())))
  (hdone:∀ m,f (m,(t.length:Int),())=some (.done (m,()))) (l:List α) (m:Int){N:Nat} (ht:t=mkL mk st m l) (hP:∀ x∈l,P x) (hl:l.length<big) (hm:0<m) (hB:m+sumL st l≤B) (hN:l.length<N) :
  (iter f N (m,0,())).bind K=K (.inl (m+sumL st l,())):=by
 have h:=loop_held h0 hstep hdone l [] m N (by simpa using ht) hP (by simpa using hl) hm hB hN
 simp only [List.length_nil] at h
 have e0:((0:Nat):Int)=0:=rfl
 rw [e0] at h
 rw [h];rfl
end Go.Rf
namespace Go.Rf
def bS (s:ByteArray):List UInt8:=s.data.toList
def ltS (a b:ByteArray):Bool:=Op.bytesLess (ByteArray.toList a) (ByteArray.toList b)
theorem less_eq:∀ (x y:List UInt8),Op.bytesLess x y=decide (x<y)
 | [],[]=>by simp [Op.bytesLess]
 | _::_,[]=>by simp [Op.bytesLess]
 | [],_::_=>by simp [Op.bytesLess]
 | a::x,b::y=>by
  rw [Op.bytesLess,less_eq x y]
  simp only [List.cons_lt_cons_iff]
  by_cases h1:a<b <;> by_cases h2:a=b <;> by_cases h3:x<y <;> simp [h1,h2,h3]
theorem ltS_iff {a b:ByteArray}:ltS a b=true↔bS a<bS b:=by
 unfold ltS bS
 rw [less_eq,ByteArray.toList_eq,ByteArray.toList_eq,decide_eq_true_eq]
theorem bS_inj {a b:ByteArray} (h:bS a=bS b):a=b:=by
 obtain ⟨⟨a⟩⟩:=a
 obtain ⟨⟨b⟩⟩:=b
 simp only [bS] at h
 rw [h]
end Go.Rf
namespace Go.Rf
def namA (l:List ST):List ByteArray:=l.map (·.1)
theorem namA_len (l:List ST):(namA l).length=l.length:=by simp [namA]
theorem namA_getD {l:List ST}{i:Nat} (hi:i<l.length):(namA l).getD i eS=(l.getD i (bE,([]:List ByteArray),([]:List ByteArray),([]:List TT),([]:List DT),([]:List DT),())).1:=by
 rw [getD_lt (by rw [namA_len];exact hi),getD_lt hi];simp [namA]
def idxA (l:List ST) (n:ByteArray):Int:=match l.findIdx? (fun s=>decide (s.1=n)) with
 | some i=>(i:Int)
 | none=>-1
theorem e_at (N:Nat) (l:List ST) (n:ByteArray) (u:Unit) (hl:l.length<big) (hN:big≤N):s_l12At N (l,n,u)=some (idxA l n,()):=by
 have hb:big=1048577:=rfl
 unfold s_l12At idxA
 dsimp only
 rw [loop_find l (bE,([]:List ByteArray),([]:List ByteArray),([]:List TT),([]:List DT),([]:List DT),()) (fun s=>decide (s.1=n)) (b:=()) ?h ?hd (by omega)]
 case hd=>simp
 case h =>
  intro i hi
  simp only [lt_cast hi,decide_true,if_true,inB_nat,hi,tN,decide_eq_true_eq]
  rw [wrap_nat (by omega)]
  split <;> rfl
 cases l.findIdx? (fun s=>decide (s.1=n)) <;> rfl
theorem idxA_nonneg (l:List ST) (n:ByteArray):decide (idxA l n≥0)=sIn (namA l) n:=by
 unfold idxA sIn namA
 rw [List.any_map]
 cases e:l.findIdx? (fun s=>decide (s.1=n)) with
 | none =>
  rw [List.findIdx?_eq_none_iff] at e
  have:l.any ((fun a=>decide (a=n)) ∘ (·.1))=false:=by
   rw [List.any_eq_false];intro a ha;simp only [Function.comp];rw [e a ha];simp
  rw [this];rfl
 | some i =>
  rw [List.findIdx?_eq_some_iff_getElem] at e
  obtain ⟨hi,h1,_⟩:=e
  have:l.any ((fun a=>decide (a=n)) ∘ (·.1))=true:=List.any_eq_true.2 ⟨_,List.getElem_mem hi,h1⟩
  rw [this];simp
theorem idxA_neg (l:List ST) (n:ByteArray):decide (idxA l n<0)=!sIn (namA l) n:=by
 rw [← idxA_nonneg,← decide_not]
 exact decide_eq_decide.2 (by omega)
theorem e_all12 (N:Nat) (l m:List ByteArray) (u:Unit) (hl:l.length<big) (hm:m.length<big) (hN:big≤N):s_l12All N (l,m,u)=some (l.all (sIn m),()):=by
 have hb:big=1048577:=rfl
 unfold s_l12All
 dsimp only
 rw [loop_all l eS (sIn m) (b:=()) (c:=(false,())) (by omega) ?h ?hd (by omega)]
 case hd=>simp
 case h =>
  intro i hi
  dsimp only
  rw [if_pos (decide_eq_true (lt_cast hi)),if_pos (inB_nat.2 hi),tN,e_in N m _ () hm hN]
  dsimp only [oB]
  cases sIn m (l.getD i eS) <;> rfl
 cases l.all (sIn m) <;> rfl
theorem e_namA (N:Nat) (l:List ST) (u:Unit) (hl:l.length<big) (hN:big≤N):i_namesOfSrcs N (l,u)=some (namA l,()):=by
 have hb:big=1048577:=rfl
 unfold i_namesOfSrcs
 dsimp only
 rw [loop_names l (bE,([]:List ByteArray),([]:List ByteArray),([]:List TT),([]:List DT),([]:List DT),()) (·.1) ?h ?hd (by omega)]
 case hd=>intro s;simp
 case h =>
  intro i s hi hs
  dsimp only
  rw [if_pos (decide_eq_true (lt_cast hi)),if_pos (inB_nat.2 hi),tN,if_pos (by simp;omega),wrap_nat (by omega)]
 rfl
def okS (l:List ST) (s:ST):Bool:=srcB s && s.2.1.all (sIn (namA l))
def okL (l:List ST):Bool:=l.all (okS l) && onceB (namA l)
structure SmL (l:List ST):Prop where
 len:l.length<big
 all:∀ s∈l,SmS s
theorem e_s_ok (N:Nat) (l:List ST) (u:Unit) (h:SmL l) (hN:big≤N):s_l12Ok N (l,u)=some (okL l,()):=by
 have hb:big=1048577:=rfl
 have hl:=h.len
 unfold s_l12Ok okL
 dsimp only
 rw [iter_all (fun i=>((i:Int),())) (fun i=>srcB (l.getD i (bE,([]:List ByteArray),([]:List ByteArray),([]:List TT),([]:List DT),([]:List DT),())) && (newAt (namA l) i && (l.getD i (bE,([]:List ByteArray),([]:List ByteArray),([]:List TT),([]:List DT),([]:List DT),())).2.1.all (sIn (namA l)))) (n:=l.length) (b:=()) (c:=(false,())) ?h ?hd (by omega) (x0:=(0,())) rfl]
 case hd=>simp
 case h =>
  intro i hi
  have hs:=h.all _ (mem_getD (d:=(bE,([]:List ByteArray),([]:List ByteArray),([]:List TT),([]:List DT),([]:List DT),())) hi)
  have him:=hs.im
  simp only [lt_cast hi,decide_true,if_true,inB_nat,hi,tN]
  rw [e_s_src N _ () hs hN]
  simp only [oB]
  cases srcB (l.getD i (bE,([]:List ByteArray),([]:List ByteArray),([]:List TT),([]:List DT),([]:List DT),())) with
  | false=>rfl
  | true =>
   simp only [bN,bF,if_false,Bool.true_and]
   rw [if_pos (show cutB 0 (i:Int) l.length from ⟨by omega,by omega,by omega⟩)]
   have e0:List.drop (Int.toNat 0) (l.take i)=l.take i:=rfl
   rw [e0,e_at N (l.take i) _ () (by simp;omega) hN]
   simp only [oB]
   have e1:decide (idxA (l.take i) (l.getD i (bE,([]:List ByteArray),([]:List ByteArray),([]:List TT),([]:List DT),([]:List DT),())).1≥0)=!newAt (namA l) i:=by
    rw [idxA_nonneg,newAt,Bool.not_not,namA_getD hi]
    simp [namA]
   rw [e1]
   cases newAt (namA l) i with
   | false=>rfl
   | true =>
    simp only [bN,bF,if_false,Bool.true_and]
    rw [loop_all (l.getD i (bE,([]:List ByteArray),([]:List ByteArray),([]:List TT),([]:List DT),([]:List DT),())).2.1 eS (sIn (namA l)) (b:=()) (c:=(false,())) (by omega) ?h2 ?hd2 (by omega)]
    case hd2=>simp
    case h2 =>
     intro k hk
     dsimp only
     rw [if_pos (decide_eq_true (lt_cast hk)),if_pos (inB_nat.2 hk),tN,e_at N l _ () hl hN]
     dsimp only [oB]
     rw [idxA_neg]
     cases sIn (namA l) ((l.getD i (bE,([]:List ByteArray),([]:List ByteArray),([]:List TT),([]:List DT),([]:List DT),())).2.1.getD k eS) <;> rfl
    rw [wrap_nat (by omega)]
    cases (l.getD i (bE,([]:List ByteArray),([]:List ByteArray),([]:List TT),([]:List DT),([]:List DT),())).2.1.all (sIn (namA l)) <;> rfl
 have e:(List.range l.length).all (fun i=>srcB (l.getD i (bE,([]:List ByteArray),([]:List ByteArray),([]:List TT),([]:List DT),([]:List DT),())) && (newAt (namA l) i && (l.getD i (bE,([]:List ByteArray),([]:List ByteArray),([]:List TT),([]:List DT),([]:List DT),())).2.1.all (sIn (namA l))))=(l.all (okS l) && onceB (namA l)):=by
  unfold onceB
  rw [← range_all_getD l (bE,([]:List ByteArray),([]:List ByteArray),([]:List TT),([]:List DT),([]:List DT),()) (okS l),namA_len,← all_and']
  congr 1
  funext i
  unfold okS
  cases srcB (l.getD i (bE,([]:List ByteArray),([]:List ByteArray),([]:List TT),([]:List DT),([]:List DT),())) <;> cases newAt (namA l) i <;> simp
 rw [e]
 cases l.all (okS l) && onceB (namA l) <;> rfl
def rdy (out:List ByteArray) (s:ST):Bool:=!sIn out s.1 && s.2.1.all (sIn out)
def bestF (out:List ByteArray) (b:ByteArray) (s:ST):ByteArray:=if (rdy out s && (decide (b=eS) || ltS s.1 b))=true then s.1 else b
def bestN (out:List ByteArray) (l:List ST):ByteArray:=l.foldl (bestF out) eS
def ordF (l:List ST):Nat→List ByteArray→Option (List ByteArray)
 | 0,out=>some out
 | n+1,out=>if bestN out l=eS then none else ordF l n (out++[bestN out l])
theorem loop_ord {B D:Type}{f:List ByteArray×Unit→Option (Step (List ByteArray×Unit) (List ByteArray×Unit) (List ByteArray×Bool×Unit))}{K:(List ByteArray×Unit) ⊕ (List ByteArray×Bool×Unit)→Option D} (l:List ST)
  (h:∀ out,out.length<l.length→f (out,())=some (if bestN out l=eS then .ret ([],false,()) else .more (out++[bestN out l],()))) (hd:∀ out,out.length=l.length→f (out,())=some (.done (out,()))) :
  ∀ (n:Nat) (out:List ByteArray) (N:Nat),out.length+n=l.length→n<N→(iter f N (out,())).bind K=match ordF l n out with
   | some o=>K (.inl (o,()))
   | none=>K (.inr ([],false,())):=by
 intro n
 induction n with
 | zero =>
  intro out N hlen hN
  obtain ⟨N,rfl⟩:∃ k,N=k+1:=⟨N-1,by omega⟩
  simp only [iter,hd out (by omega),ordF,oB]
 | succ n ih =>
  intro out N hlen hN
  obtain ⟨N,rfl⟩:∃ k,N=k+1:=⟨N-1,by omega⟩
  simp only [iter,h out (by omega),ordF]
  by_cases hbe:bestN out l=eS
  ·rw [if_pos hbe,if_pos hbe];rfl
  ·rw [if_neg hbe,if_neg hbe]
   exact ih _ N (by simp;omega) (by omega)
theorem e_s_order (N:Nat) (l:List ST) (u:Unit) (h:SmL l) (hN:big≤N):s_l12Order N (l,u)=some (match ordF l l.length [] with
  | some o=>(o,true,())
  | none=>([],false,())):=by
 have hb:big=1048577:=rfl
 have hl:=h.len
 have he:(ByteArray.mk #[])=eS:=rfl
 unfold s_l12Order
 dsimp only
 rw [loop_ord (B:=Unit) l ?h ?hd l.length [] N (by simp) (by omega)]
 case hd=>intro out ho;simp [ho]
 case h =>
  intro out ho
  dsimp only
  rw [if_pos (decide_eq_true (lt_cast ho))]
  rw [(loop_foldl (fun (b:ByteArray) (i:Nat)=>(out,b,(i:Int),())) (fun _ _=>True) (bestF out) (fun b=>(out,b,())) l (bE,([]:List ByteArray),([]:List ByteArray),([]:List TT),([]:List DT),([]:List DT),()) ?h2 ?hd2 eS (out,ByteArray.mk #[],0,()) rfl trivial (by omega)).1]
  case hd2=>intro b _;simp
  case h2 =>
   intro i b hi _
   refine ⟨?_,trivial⟩
   have hs:=h.all _ (mem_getD (d:=(bE,([]:List ByteArray),([]:List ByteArray),([]:List TT),([]:List DT),([]:List DT),())) hi)
   have him:=hs.im
   dsimp only
   rw [if_pos (decide_eq_true (lt_cast hi)),if_pos (inB_nat.2 hi),tN,e_in N out _ () (by omega) hN]
   dsimp only [oB]
   rw [e_all12 N _ out () him (by omega) hN,wrap_nat (by omega),he,if_pos (inB_nat.2 hi)]
   rw [show Op.bytesLess (ByteArray.toList (l.getD i (bE,([]:List ByteArray),([]:List ByteArray),([]:List TT),([]:List DT),([]:List DT),())).1) (ByteArray.toList b)=ltS (l.getD i (bE,([]:List ByteArray),([]:List ByteArray),([]:List TT),([]:List DT),([]:List DT),())).1 b from rfl]
   unfold bestF rdy
   cases sIn out (l.getD i (bE,([]:List ByteArray),([]:List ByteArray),([]:List TT),([]:List DT),([]:List DT),())).1 with
   | true=>simp
   | false =>
    simp only [Bool.not_false,if_true,oB,Bool.true_and]
    cases (l.getD i (bE,([]:List ByteArray),([]:List ByteArray),([]:List TT),([]:List DT),([]:List DT),())).2.1.all (sIn out) with
    | false=>simp
    | true =>
     by_cases hbe:b=eS
     ·simp [hbe]
     ·cases ltS (l.getD i (bE,([]:List ByteArray),([]:List ByteArray),([]:List TT),([]:List DT),([]:List DT),())).1 b <;> simp [hbe]
  rw [show List.foldl (bestF out) eS l=bestN out l from rfl,he]
  dsimp only
  by_cases hbe:bestN out l=eS
  ·rw [if_pos (decide_eq_true hbe),if_pos hbe]
  ·rw [if_neg (fun hc=>hbe (of_decide_eq_true hc)),if_neg hbe,if_pos (by simp;omega)]
 cases ordF l l.length [] <;> rfl
def bestG (l:List ST) (out:List ByteArray) (q:Int×ByteArray×Nat) (s:ST):Int×ByteArray×Nat :=
 (if (rdy out s && (decide (q.1<0) || ltS s.1 (l.getD q.1.toNat (bE,([]:List ByteArray),([]:List ByteArray),([]:List TT),([]:List DT),([]:List DT),())).1))=true then (q.2.2:Int) else q.1,bestF out q.2.1 s,q.2.2+1)
theorem bestG_snd (l:List ST) (out:List ByteArray):∀ (m:List ST) (q:Int×ByteArray×Nat),(m.foldl (bestG l out) q).2.1=m.foldl (bestF out) q.2.1:=by
 intro m
 induction m with
 | nil=>intro q;rfl
 | cons s m ih=>intro q;simp only [List.foldl_cons];rw [ih];rfl
theorem e_i_order (N:Nat) (l:List ST) (u:Unit) (h:SmL l) (hne:∀ s∈l,s.1≠eS) (hN:big≤N):i_order N (l,u)=some (match ordF l l.length [] with
  | some o=>(o,true,())
  | none=>([],false,())):=by
 have hb:big=1048577:=rfl
 have hl:=h.len
 unfold i_order
 dsimp only
 rw [loop_ord (B:=Unit) l ?h ?hd l.length [] N (by simp) (by omega)]
 case hd=>intro out ho;simp [ho]
 case h =>
  intro out ho
  dsimp only
  rw [if_pos (decide_eq_true (lt_cast ho))]
  have key:=loop_foldl (K:=fun r=>match r with
    | .inl y7=>(if (decide (y7.2.1<0))=true then some (Step.ret (([]:List ByteArray),false,())) else
      (if inB y7.2.1 (List.length l) then
      (if List.length y7.1+List.length ([(List.getD l (Int.toNat y7.2.1) (bE,([]:List ByteArray),([]:List ByteArray),([]:List TT),([]:List DT),([]:List DT),())).1]:List (ByteArray))≤4294967296 then
      some (Step.more (A:=List ByteArray×Unit) (B:=List ByteArray×Unit) (y7.1++([(List.getD l (Int.toNat y7.2.1) (bE,([]:List ByteArray),([]:List ByteArray),([]:List TT),([]:List DT),([]:List DT),())).1]:List (ByteArray)),())) else none) else none))
    | .inr z8=>some (Step.ret (z8.1,z8.2.1,()))) (f:=fun s2:List ByteArray×Int×Int×Unit =>
(if (decide (s2.2.2.1<(List.length l:Int)))=true then
(if inB s2.2.2.1 (List.length l) then
(g_slices_Contains_string_string_ N (s2.1,(List.getD l (Int.toNat s2.2.2.1) (bE,([]:List ByteArray),([]:List ByteArray),([]:List TT),([]:List DT),([]:List DT),())).1,())).bind fun r3 =>
(if (!r3.1)=true then
(i_areIn N (((List.getD l (Int.toNat s2.2.2.1) (bE,([]:List ByteArray),([]:List ByteArray),([]:List TT),([]:List DT),([]:List DT),())).2).1,s2.1,())).bind fun r4 =>
(if r4.1=true then
(if (decide (s2.2.1<0))=true then
 some (Step.more (s2.1,s2.2.2.1,wI (s2.2.2.1+1),())) else (if inB s2.2.1 (List.length l) then
((if (Op.bytesLess (ByteArray.toList ((List.getD l (Int.toNat s2.2.2.1) (bE,([]:List ByteArray),([]:List ByteArray),([]:List TT),([]:List DT),([]:List DT),())).1)) (ByteArray.toList ((List.getD l (Int.toNat s2.2.1) (bE,([]:List ByteArray),([]:List ByteArray),([]:List TT),([]:List DT),([]:List DT),())).1)))=true then
 some (s2.1,s2.2.2.1,()) else
 some (s2.1,s2.2.1,())):Option (List (ByteArray)×Int×Unit)).bind fun j5 =>
 some (Step.more (j5.1,j5.2.1,wI (s2.2.2.1+1),())) else none)) else some (Step.more (s2.1,s2.2.1,wI (s2.2.2.1+1),()))) else some (Step.more (s2.1,s2.2.1,wI (s2.2.2.1+1),()))) else none) else
 some (Step.done (s2.1,s2.2.1,()))))
   (C:=List ByteArray×Bool×Unit) (fun (q:Int×ByteArray×Nat) (i:Nat)=>(out,q.1,(i:Int),()))
   (fun i q=>q.2.2=i∧i≤l.length∧((q.1 = -1∧q.2.1=eS)∨∃ m:Nat,m<i∧q.1=(m:Int)∧(l.getD m (bE,([]:List ByteArray),([]:List ByteArray),([]:List TT),([]:List DT),([]:List DT),())).1=q.2.1∧q.2.1≠eS)) (bestG l out) (fun q=>(out,q.1,())) l (bE,([]:List ByteArray),([]:List ByteArray),([]:List TT),([]:List DT),([]:List DT),()) ?h2 ?hd2 (N:=N) (-1,eS,0) (out,-1,0,()) rfl ⟨rfl,by omega,.inl ⟨rfl,rfl⟩⟩ (by omega)
  case hd2=>intro b _;simp
  case h2 =>
   rintro i ⟨k,b,j⟩ hi ⟨hj,_,hk⟩
   simp only at hj hk
   subst hj
   have hmem:=mem_getD (d:=(bE,([]:List ByteArray),([]:List ByteArray),([]:List TT),([]:List DT),([]:List DT),())) hi
   have hs:=h.all _ hmem
   have him:=hs.im
   have hn:=hne _ hmem
   have hnext:∀ g:Int×ByteArray×Nat,g=bestG l out (k,b,j) (l.getD j (bE,([]:List ByteArray),([]:List ByteArray),([]:List TT),([]:List DT),([]:List DT),()))→(g.2.2=j+1∧j+1≤l.length∧((g.1 = -1∧g.2.1=eS)∨∃ m:Nat,m<j+1∧g.1=(m:Int)∧(l.getD m (bE,([]:List ByteArray),([]:List ByteArray),([]:List TT),([]:List DT),([]:List DT),())).1=g.2.1∧g.2.1≠eS)):=by
    rintro g rfl
    refine ⟨rfl,hi,?_⟩
    unfold bestG bestF
    dsimp only
    rcases hk with ⟨rfl,rfl⟩ | ⟨m,hm,rfl,hm2,hm3⟩
    ·have e1:∀ c:Bool,(rdy out (l.getD j (bE,([]:List ByteArray),([]:List ByteArray),([]:List TT),([]:List DT),([]:List DT),())) && (decide ((-1:Int)<0) || c))=rdy out (l.getD j (bE,([]:List ByteArray),([]:List ByteArray),([]:List TT),([]:List DT),([]:List DT),())):=fun c=>by rw [show decide ((-1:Int)<0)=true from rfl,Bool.true_or,Bool.and_true]
     have e2:∀ c:Bool,(rdy out (l.getD j (bE,([]:List ByteArray),([]:List ByteArray),([]:List TT),([]:List DT),([]:List DT),())) && (decide (eS=eS) || c))=rdy out (l.getD j (bE,([]:List ByteArray),([]:List ByteArray),([]:List TT),([]:List DT),([]:List DT),())):=fun c=>by rw [show decide (eS=eS)=true from decide_eq_true rfl,Bool.true_or,Bool.and_true]
     rw [e1,e2]
     by_cases hr:rdy out (l.getD j (bE,([]:List ByteArray),([]:List ByteArray),([]:List TT),([]:List DT),([]:List DT),()))=true
     ·right
      rw [if_pos hr,if_pos hr]
      exact ⟨j,by omega,rfl,rfl,hn⟩
     ·left
      rw [if_neg hr,if_neg hr]
      exact ⟨rfl,rfl⟩
    ·right
     by_cases hr:(rdy out (l.getD j (bE,([]:List ByteArray),([]:List ByteArray),([]:List TT),([]:List DT),([]:List DT),())) && ltS (l.getD j (bE,([]:List ByteArray),([]:List ByteArray),([]:List TT),([]:List DT),([]:List DT),())).1 b)=true
     ·have e1:(rdy out (l.getD j (bE,([]:List ByteArray),([]:List ByteArray),([]:List TT),([]:List DT),([]:List DT),())) && (decide ((m:Int)<0) || ltS (l.getD j (bE,([]:List ByteArray),([]:List ByteArray),([]:List TT),([]:List DT),([]:List DT),())).1 (l.getD (Int.toNat (m:Int)) (bE,([]:List ByteArray),([]:List ByteArray),([]:List TT),([]:List DT),([]:List DT),())).1))=true:=by
       rw [tN,hm2,show decide ((m:Int)<0)=false from decide_eq_false (by omega),Bool.false_or];exact hr
      have e2:(rdy out (l.getD j (bE,([]:List ByteArray),([]:List ByteArray),([]:List TT),([]:List DT),([]:List DT),())) && (decide (b=eS) || ltS (l.getD j (bE,([]:List ByteArray),([]:List ByteArray),([]:List TT),([]:List DT),([]:List DT),())).1 b))=true:=by
       rw [show decide (b=eS)=false by simpa using hm3,Bool.false_or];exact hr
      rw [if_pos e1,if_pos e2]
      exact ⟨j,by omega,rfl,rfl,hn⟩
     ·have e1:¬ (rdy out (l.getD j (bE,([]:List ByteArray),([]:List ByteArray),([]:List TT),([]:List DT),([]:List DT),())) && (decide ((m:Int)<0) || ltS (l.getD j (bE,([]:List ByteArray),([]:List ByteArray),([]:List TT),([]:List DT),([]:List DT),())).1 (l.getD (Int.toNat (m:Int)) (bE,([]:List ByteArray),([]:List ByteArray),([]:List TT),([]:List DT),([]:List DT),())).1))=true:=by
       rw [tN,hm2,show decide ((m:Int)<0)=false from decide_eq_false (by omega),Bool.false_or];exact hr
      have e2:¬ (rdy out (l.getD j (bE,([]:List ByteArray),([]:List ByteArray),([]:List TT),([]:List DT),([]:List DT),())) && (decide (b=eS) || ltS (l.getD j (bE,([]:List ByteArray),([]:List ByteArray),([]:List TT),([]:List DT),([]:List DT),())).1 b))=true:=by
       rw [show decide (b=eS)=false by simpa using hm3,Bool.false_or];exact hr
      rw [if_neg e1,if_neg e2]
      exact ⟨m,by omega,rfl,hm2,hm3⟩
   refine ⟨?_,hnext _ rfl⟩
   dsimp only
   rw [if_pos (decide_eq_true (lt_cast hi)),if_pos (inB_nat.2 hi),tN,e_contains N out _ () (by omega) hN]
   dsimp only [oB]
   rw [e_areIn N _ out () him (by omega) hN,wrap_nat (by omega)]
   rw [show Op.bytesLess (ByteArray.toList (l.getD j (bE,([]:List ByteArray),([]:List ByteArray),([]:List TT),([]:List DT),([]:List DT),())).1) (ByteArray.toList (l.getD (Int.toNat k) (bE,([]:List ByteArray),([]:List ByteArray),([]:List TT),([]:List DT),([]:List DT),())).1)=ltS (l.getD j (bE,([]:List ByteArray),([]:List ByteArray),([]:List TT),([]:List DT),([]:List DT),())).1 (l.getD (Int.toNat k) (bE,([]:List ByteArray),([]:List ByteArray),([]:List TT),([]:List DT),([]:List DT),())).1 from rfl]
   unfold bestG rdy
   dsimp only
   cases sIn out (l.getD j (bE,([]:List ByteArray),([]:List ByteArray),([]:List TT),([]:List DT),([]:List DT),())).1 with
   | true=>simp
   | false =>
    simp only [Bool.not_false,if_true,oB,Bool.true_and]
    cases (l.getD j (bE,([]:List ByteArray),([]:List ByteArray),([]:List TT),([]:List DT),([]:List DT),())).2.1.all (sIn out) with
    | false=>simp
    | true =>
     simp only [if_true,Bool.true_and]
     rcases hk with ⟨rfl,rfl⟩ | ⟨m,hm,rfl,hm2,hm3⟩
     ·simp
     ·have e1:¬ (decide ((m:Int)<0)=true):=fun hc=>by have:=of_decide_eq_true hc;omega
      have e2:decide ((m:Int)<0)=false:=decide_eq_false (by omega)
      rw [if_neg e1,if_pos (inB_nat.2 (by omega)),e2,Bool.false_or]
      cases ltS (l.getD j (bE,([]:List ByteArray),([]:List ByteArray),([]:List TT),([]:List DT),([]:List DT),())).1 (l.getD (Int.toNat (m:Int)) (bE,([]:List ByteArray),([]:List ByteArray),([]:List TT),([]:List DT),([]:List DT),())).1 <;> rfl
  obtain ⟨key1,key2⟩:=key
  refine key1.trans ?_
  have hsnd:=bestG_snd l out l (-1,eS,0)
  rw [show List.foldl (bestF out) eS l=bestN out l from rfl] at hsnd
  generalize l.foldl (bestG l out) (-1,eS,0)=q at hsnd key2
  obtain ⟨k,b,j⟩:=q
  simp only at hsnd key2
  subst hsnd
  obtain ⟨_,_,hk⟩:=key2
  dsimp only
  rcases hk with ⟨rfl,hbe⟩ | ⟨m,hm,rfl,hm2,hm3⟩
  ·rw [if_pos (show decide ((-1:Int)<0)=true from rfl),if_pos hbe]
  ·rw [if_neg (fun hc=>by have:=of_decide_eq_true hc;omega),if_neg hm3,if_pos (inB_nat.2 hm),tN,if_pos (by simp;omega),hm2]
 cases ordF l l.length [] <;> rfl
end Go.Rf
namespace Go.Rf
theorem nodup_len {α:Type} [DecidableEq α]:∀ {a b:List α},a.Nodup→(∀ x∈a,x∈b)→a.length≤b.length:=by
 intro a
 induction a with
 | nil=>intro b _ _;simp
 | cons x a ih =>
  intro b hn hs
  have hx:=hs x (by simp)
  have hn':=List.nodup_cons.1 hn
  have h1:=ih (b:=b.erase x) hn'.2 (fun y hy=>(List.mem_erase_of_ne (fun e:y=x=>hn'.1 (by rw [← e];exact hy))).2 (hs y (by simp [hy])))
  have h2:=(List.perm_cons_erase hx).length_eq
  simp only [List.length_cons] at h2 ⊢
  omega
theorem nodup_perm {α:Type} [DecidableEq α]:∀ {a b:List α},a.Nodup→(∀ x∈a,x∈b)→b.length≤a.length→a.Perm b:=by
 intro a
 induction a with
 | nil =>
  intro b _ _ h
  have:b=[]:=List.eq_nil_of_length_eq_zero (by simpa using h)
  rw [this]
 | cons x a ih =>
  intro b hn hs hl
  have hx:=hs x (by simp)
  have hn':=List.nodup_cons.1 hn
  have h2:=List.perm_cons_erase hx
  have h3:=h2.length_eq
  simp only [List.length_cons] at h3 hl
  have h1:=ih (b:=b.erase x) hn'.2 (fun y hy=>(List.mem_erase_of_ne (fun e:y=x=>hn'.1 (by rw [← e];exact hy))).2 (hs y (by simp [hy]))) (by omega)
  exact (List.Perm.cons x h1).trans h2.symm
structure GoodO (l:List ST) (out:List ByteArray):Prop where
 nd:out.Nodup
 src:∀ i,i<out.length→∃ s∈l,s.1=out.getD i eS∧s.2.1.all (sIn (out.take i))=true
theorem isName_ne:isName eS=false:=by decide +kernel
def ordR (l:List ST):List ByteArray×Bool×Unit:=if okL l=true then (match ordF l l.length [] with
 | some o=>(o,true,())
 | none=>([],false,())) else ([],false,())
theorem e_s_Order (N:Nat) (l:List ST) (u:Unit) (h:SmL l) (hN:big≤N):s_Order N (l,u)=some (ordR l):=by
 unfold s_Order ordR
 dsimp only
 rw [e_s_ok N l () h hN,e_s_order N l () h hN]
 dsimp only [oB]
 cases okL l with
 | false=>rfl
 | true=>cases ordF l l.length [] <;> rfl
theorem okL_ne {l:List ST} (h:l.all (okS l)=true):∀ s∈l,s.1≠eS:=by
 intro s hs e
 have h1:=List.all_eq_true.1 h s hs
 unfold okS srcB at h1
 rw [e,isName_ne] at h1
 simp at h1
theorem e_i_Order (N:Nat) (l:List ST) (u:Unit) (h:SmL l) (hN:big≤N):i_Order N (l,u)=some (ordR l):=by
 have hb:big=1048577:=rfl
 have hl:=h.len
 unfold i_Order ordR okL
 dsimp only
 rw [e_namA N l () hl hN]
 dsimp only [oB]
 rw [loop_allS (namA l) l (bE,([]:List ByteArray),([]:List ByteArray),([]:List TT),([]:List DT),([]:List DT),()) (okS l) (b:=(namA l,())) (c:=([],false,())) (by omega) ?h ?hd (by omega)]
 case hd=>simp
 case h =>
  intro i hi
  have hs:=h.all _ (mem_getD (d:=(bE,([]:List ByteArray),([]:List ByteArray),([]:List TT),([]:List DT),([]:List DT),())) hi)
  dsimp only
  rw [if_pos (decide_eq_true (lt_cast hi)),if_pos (inB_nat.2 hi),tN,e_i_src N _ () hs hN]
  dsimp only [oB]
  rw [e_areIn N _ (namA l) () hs.im (by rw [namA_len];exact hl) hN]
  unfold okS
  cases srcB (l.getD i (bE,([]:List ByteArray),([]:List ByteArray),([]:List TT),([]:List DT),([]:List DT),())) with
  | false=>rfl
  | true=>cases (l.getD i (bE,([]:List ByteArray),([]:List ByteArray),([]:List TT),([]:List DT),([]:List DT),())).2.1.all (sIn (namA l)) <;> rfl
 cases ha:l.all (okS l) with
 | false=>rfl
 | true =>
  simp only [if_true,oB,Bool.true_and]
  rw [e_isOnce N (namA l) () (by rw [namA_len];exact hl) hN,e_i_order N l () h (okL_ne ha) hN]
  dsimp only [oB]
  cases onceB (namA l) with
  | false=>rfl
  | true=>cases ordF l l.length [] <;> rfl
structure Ord (l:List ST) (o:List ByteArray):Prop where
 good:GoodO l o
 len:o.length=l.length
 once:onceB (namA l)=true
theorem Ord.mem {l:List ST}{o:List ByteArray} (h:Ord l o):∀ x∈o,x∈namA l:=by
 intro x hx
 obtain ⟨i,hi,rfl⟩:=List.mem_iff_getElem.1 hx
 obtain ⟨s,h1,h2,_⟩:=h.good.src i hi
 rw [getD_lt hi] at h2
 exact List.mem_map.2 ⟨s,h1,h2⟩
theorem Ord.perm {l:List ST}{o:List ByteArray} (h:Ord l o):o.Perm (namA l) :=
 nodup_perm h.good.nd h.mem (by rw [namA_len,h.len];exact Nat.le_refl _)
theorem Ord.names {l:List ST}{o:List ByteArray} (h:Ord l o):(namA l).Nodup:=h.perm.nodup_iff.1 h.good.nd
structure DoneOK (l:List ST) (done:List ByteArray):Prop where
 nd:done.Nodup
 mem:∀ x∈done,x∈namA l
theorem DoneOK.len {l:List ST}{done:List ByteArray} (h:DoneOK l done):done.length≤l.length:=by
 have:=nodup_len h.nd h.mem
 rwa [namA_len] at this
end Go.Rf
namespace Go.Rf
end Go.Rf
