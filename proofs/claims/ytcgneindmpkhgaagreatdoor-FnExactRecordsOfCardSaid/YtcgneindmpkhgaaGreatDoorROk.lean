/-
  What a right source is: the reference and the program tell the same.
-/
import Derived.Test.YtcgneindmpkhgaaGreatDoorRSrc
set_option linter.unusedSimpArgs false
set_option linter.unusedVariables false
set_option autoImplicit false
namespace Go.Rf
def sIn (l:List ByteArray) (s:ByteArray):Bool:=l.any fun a=>decide (a=s)
abbrev eS:ByteArray:=bE
theorem e_in (N:Nat) (l:List ByteArray) (s:ByteArray) (u:Unit) (hl:l.length<big) (hN:big≤N):s_l3In N (l,s,u)=some (sIn l s,()):=by
 have hb:big=1048577:=rfl
 unfold s_l3In sIn
 dsimp only
 rw [loop_any l bE (fun a=>decide (a=s)) (b:=()) (c:=(true,())) (by omega) ?h ?hd (by omega)]
 case hd=>simp
 case h =>
  intro i hi
  simp only [lt_cast hi,decide_true,if_true,inB_nat,hi,tN,decide_eq_true_eq]
  split <;> rfl
 cases l.any (fun a=>decide (a=s)) <;> rfl
def idxS (l:List ByteArray) (s:ByteArray):Int:=match l.findIdx? (fun a=>decide (a=s)) with
 | some i=>(i:Int)
 | none=>-1
theorem loop_find {α B C:Type}{f:Int×Unit→Option (Step (Int×Unit) B (Int×Unit))}{K:B ⊕ (Int×Unit)→Option C} (l:List α) (d:α) (p:α→Bool){N:Nat}{b:B}
  (h:∀ i,i<l.length→f ((i:Int),())=some (if p (l.getD i d)=true then .ret ((i:Int),()) else .more (((i+1:Nat):Int),())))
  (hd:f ((l.length:Int),())=some (.done b)) (hN:l.length<N):(iter f N (0,())).bind K=match l.findIdx? p with
   | some i=>K (.inr ((i:Int),()))
   | none=>K (.inl b):=by
 cases e:l.findIdx? p with
 | none =>
  rw [List.findIdx?_eq_none_iff] at e
  rw [iter_done (fun i=>((i:Int),())) (x0:=(0,())) (b:=b) (k:=0) (n:=l.length) (fun i _ hi=>?_) (Nat.zero_le _) hd (by omega) rfl]
  ·rfl
  ·rw [h i hi,if_neg (by rw [e _ (mem_getD hi)];simp)]
 | some i =>
  rw [List.findIdx?_eq_some_iff_getElem] at e
  obtain ⟨hi,h1,h2⟩:=e
  rw [iter_ret (fun i=>((i:Int),())) (x0:=(0,())) (c:=((i:Int),())) (k:=0) (n:=i) (fun j _ hj=>?_) (Nat.zero_le _) ?_ (by omega) rfl]
  ·rfl
  ·rw [h i hi,if_pos ?_]
   rw [getD_lt hi];exact h1
  ·rw [h j (by omega),if_neg ?_]
   rw [getD_lt (by omega)];exact h2 j hj
theorem e_index (N:Nat) (l:List ByteArray) (s:ByteArray) (u:Unit) (hl:l.length<big) (hN:big≤N):g_slices_Index_string_string_ N (l,s,u)=some (idxS l s,()):=by
 have hb:big=1048577:=rfl
 unfold g_slices_Index_string_string_ idxS
 dsimp only
 rw [loop_find l bE (fun a=>decide (s=a)) (b:=()) ?h ?hd (by omega)]
 case hd=>simp
 case h =>
  intro i hi
  simp only [lt_cast hi,decide_true,if_true,inB_nat,hi,tN,decide_eq_true_eq]
  rw [wrap_nat (by omega)]
  split <;> rfl
 have e:(fun a=>decide (s=a))=(fun a=>decide (a=s)):=by funext a;exact decide_eq_decide.2 eq_comm
 rw [e]
 cases l.findIdx? (fun a=>decide (a=s)) <;> rfl
theorem e_contains (N:Nat) (l:List ByteArray) (s:ByteArray) (u:Unit) (hl:l.length<big) (hN:big≤N):g_slices_Contains_string_string_ N (l,s,u)=some (sIn l s,()):=by
 unfold g_slices_Contains_string_string_
 dsimp only
 rw [e_index N l s () hl hN]
 dsimp only [oB]
 congr 2
 unfold idxS sIn
 cases e:l.findIdx? (fun a=>decide (a=s)) with
 | none =>
  rw [List.findIdx?_eq_none_iff] at e
  have:l.any (fun a=>decide (a=s))=false:=by
   rw [List.any_eq_false];intro a ha;rw [e a ha];simp
  rw [this];rfl
 | some i =>
  rw [List.findIdx?_eq_some_iff_getElem] at e
  obtain ⟨hi,h1,_⟩:=e
  have:l.any (fun a=>decide (a=s))=true:=List.any_eq_true.2 ⟨_,List.getElem_mem hi,h1⟩
  rw [this];simp
def newAt (l:List ByteArray) (i:Nat):Bool:=!sIn (l.take i) (l.getD i eS)
def onceB (l:List ByteArray):Bool:=(List.range l.length).all (newAt l)
theorem idx_new {l:List ByteArray}{i:Nat} (hi:i<l.length):decide (idxS l (l.getD i eS)=(i:Int))=newAt l i:=by
 have hg:l.getD i eS=l[i]:=getD_lt hi
 unfold idxS newAt sIn
 rw [hg]
 cases e:l.findIdx? (fun a=>decide (a=l[i])) with
 | none =>
  rw [List.findIdx?_eq_none_iff] at e
  have:=e _ (List.getElem_mem hi)
  simp at this
 | some j =>
  rw [List.findIdx?_eq_some_iff_getElem] at e
  obtain ⟨hj,h1,h2⟩:=e
  dsimp only
  by_cases hij:j=i
  ·subst hij
   have:(l.take j).any (fun a=>decide (a=l[j]))=false:=by
    rw [List.any_eq_false]
    intro a ha
    obtain ⟨k,hk,rfl⟩:=List.mem_iff_getElem.1 ha
    simp only [List.length_take] at hk
    rw [List.getElem_take]
    have:=h2 k (by omega)
    simpa using this
   rw [this];simp
  ·have hlt:j<i:=by
    rcases Nat.lt_trichotomy j i with h | h | h
    ·exact h
    ·exact absurd h hij
    ·have:=h2 i h
     simp at this
   have:(l.take i).any (fun a=>decide (a=l[i]))=true:=by
    rw [List.any_eq_true]
    refine ⟨l[j],?_,h1⟩
    rw [List.mem_iff_getElem]
    exact ⟨j,by simp;omega,by simp⟩
   rw [this]
   simp;omega
theorem e_isOnce (N:Nat) (l:List ByteArray) (u:Unit) (hl:l.length<big) (hN:big≤N):i_isOnce N (l,u)=some (onceB l,()):=by
 have hb:big=1048577:=rfl
 unfold i_isOnce onceB
 dsimp only
 rw [iter_all (fun i=>((i:Int),())) (newAt l) (n:=l.length) (b:=()) (c:=(false,())) ?h ?hd (by omega) (x0:=(0,())) rfl]
 case hd=>simp
 case h =>
  intro i hi
  simp only [lt_cast hi,decide_true,if_true,inB_nat,hi,tN]
  rw [e_index N l _ () hl hN]
  simp only [oB]
  rw [idx_new hi,wrap_nat (by omega)]
  cases newAt l i <;> rfl
 cases (List.range l.length).all (newAt l) <;> rfl
theorem e_twice (N:Nat) (l:List ByteArray) (u:Unit) (hl:l.length<big) (hN:big≤N):s_l11Twice N (l,u)=some (!onceB l,()):=by
 have hb:big=1048577:=rfl
 unfold s_l11Twice onceB
 dsimp only
 rw [iter_all (fun i=>((i:Int),())) (newAt l) (n:=l.length) (b:=()) (c:=(true,())) ?h ?hd (by omega) (x0:=(0,())) rfl]
 case hd=>simp
 case h =>
  intro i hi
  simp only [lt_cast hi,decide_true,if_true,inB_nat,hi,tN]
  rw [if_pos (show cutB 0 (i:Int) l.length from ⟨by omega,by omega,by omega⟩)]
  have e0:List.drop (Int.toNat 0) (l.take i)=l.take i:=rfl
  rw [e0,e_in N (l.take i) _ () (by simp;omega) hN]
  simp only [oB]
  rw [wrap_nat (by omega)]
  unfold newAt
  cases sIn (l.take i) (l.getD i eS) <;> rfl
 cases (List.range l.length).all (newAt l) <;> rfl
def namesB (l:List ByteArray):Bool:=(List.range l.length).all fun i=>isName (l.getD i eS) && newAt l i
theorem e_namesOk (N:Nat) (l:List ByteArray) (m:Int) (u:Unit) (hl:l.length<big) (hs:∀ s∈l,s.size<big) (hN:big≤N):i_namesOk N (l,m,u)=some (decide ((l.length:Int)≤m) && namesB l,()):=by
 have hb:big=1048577:=rfl
 unfold i_namesOk namesB
 dsimp only
 rw [iter_all (fun i=>((i:Int),())) (fun i=>isName (l.getD i eS) && newAt l i) (n:=l.length) (b:=()) (c:=(false,())) ?h ?hd (by omega) (x0:=(0,())) rfl]
 case hd=>simp
 case h =>
  intro i hi
  have h2:=hs _ (mem_getD (d:=eS) hi)
  simp only [lt_cast hi,decide_true,if_true,inB_nat,hi,tN]
  rw [e_i_IsName N (l.getD i eS,()) (show (l.getD i eS).size<_ by omega) (show (l.getD i eS).size<N by omega),e_index N l _ () hl hN]
  simp only [oB]
  rw [idx_new hi,wrap_nat (by omega)]
  cases isName (l.getD i eS) <;> cases newAt l i <;> rfl
 cases (List.range l.length).all (fun i=>isName (l.getD i eS) && newAt l i) <;> simp
theorem e_s_names (N:Nat) (l:List ByteArray) (m:Int) (u:Unit) (hl:l.length<big) (hs:∀ s∈l,s.size<big) (hN:big≤N):s_l3Names N (l,m,u)=some (decide ((l.length:Int)≤m) && namesB l,()):=by
 have hb:big=1048577:=rfl
 unfold s_l3Names namesB
 dsimp only
 by_cases hm:(l.length:Int)>m
 ·rw [if_pos (by simpa using hm)]
  have:decide ((l.length:Int)≤m)=false:=by simp;omega
  rw [this];rfl
 ·rw [if_neg (by simpa using hm)]
  rw [iter_all (fun i=>((i:Int),())) (fun i=>isName (l.getD i eS) && newAt l i) (n:=l.length) (b:=()) (c:=(false,())) ?h ?hd (by omega) (x0:=(0,())) rfl]
  case hd=>simp
  case h =>
   intro i hi
   have h2:=hs _ (mem_getD (d:=eS) hi)
   simp only [lt_cast hi,decide_true,if_true,inB_nat,hi,tN]
   rw [e_s_IsName N (l.getD i eS,()) (show (l.getD i eS).size<_ by omega) (show (l.getD i eS).size<N by omega) (by omega)]
   simp only [oB]
   rw [if_pos (show cutB 0 (i:Int) l.length from ⟨by omega,by omega,by omega⟩)]
   have e0:List.drop (Int.toNat 0) (l.take i)=l.take i:=rfl
   rw [e0,e_in N (l.take i) _ () (by simp;omega) hN]
   simp only [oB]
   rw [wrap_nat (by omega)]
   unfold newAt
   cases isName (l.getD i eS) <;> cases sIn (l.take i) (l.getD i eS) <;> rfl
  have:decide ((l.length:Int)≤m)=true:=by simp;omega
  rw [this]
  cases (List.range l.length).all (fun i=>isName (l.getD i eS) && newAt l i) <;> rfl
end Go.Rf
namespace Go.Rf
def oneN (nm:List ByteArray):Bool:=decide ((nm.length:Int)=1) && isName (nm.getD 0 eS)
def primB (x:NT):Bool :=
 if x.2.2.1=(ByteArray.mk #[109,97,107,101]) then oneN x.2.2.2.1 && decide ((x.2.2.2.2.1.length:Int)≤8) && decide (x.2.1=0)
 else if x.2.2.1=(ByteArray.mk #[102,105,101,108,100]) then oneN x.2.2.2.1 && decide ((x.2.2.2.2.1.length:Int)=1) && inI x.2.1 0 7
 else if x.2.2.1=(ByteArray.mk #[105,115]) then oneN x.2.2.2.1 && decide ((x.2.2.2.2.1.length:Int)=1) && decide (x.2.1=0)
 else decide ((x.2.2.2.1.length:Int)=0) && decide (arity x.2.2.1=(x.2.2.2.2.1.length:Int)) && decide (x.2.1=0)
theorem nm_if {B:Bool}{nm:List ByteArray}{f:ByteArray×Unit→Option (Bool×Unit)} (hB:B=true→(nm.length:Int)=1) (hf:nm.length=1→f (nm.getD 0 eS,())=some (isName (nm.getD 0 eS),())) :
  (if B=true then (if inB 0 nm.length then (f (nm.getD (Int.toNat 0) bE,())).bind fun r=>some r.1 else none) else some false)=some (B && isName (nm.getD 0 eS)):=by
 cases B with
 | false=>rfl
 | true =>
  have h1:=hB rfl
  have e0:Int.toNat 0=0:=rfl
  rw [if_pos rfl,if_pos (show inB 0 nm.length from ⟨by omega,by omega⟩),e0,hf (by omega)]
  rfl
theorem nm_small {x:NT} (hw:w_Node x<big):(∀ s∈x.2.2.2.1,s.size<big)∧x.2.2.1.size<big∧x.2.2.2.1.length<big∧x.2.2.2.2.1.length<big:=by
 have hw:x.2.2.1.size+(wL wStr x.2.2.2.1+(x.2.2.2.2.1.length+0))<big:=hw
 have e0:wL wStr x.2.2.2.1=x.2.2.2.1.length+sumW wStr x.2.2.2.1:=rfl
 refine ⟨fun s hs=>?_,by omega,by omega,by omega⟩
 have:=sumW_mem (w:=wStr) hs
 have e1:wStr s=s.size:=rfl
 omega
theorem e_s_prim (N:Nat) (x:NT) (u:Unit) (hw:w_Node x<big) (hN:big≤N):s_l3Prim N (x,u)=some (primB x,()):=by
 have hb:big=1048577:=rfl
 obtain ⟨h1,h2,h3,h4⟩:=nm_small hw
 obtain ⟨k,n,s,nm,ar,u'⟩:=x
 dsimp only at h1 h2 h3 h4
 have hf:nm.length=1→s_IsName N (nm.getD 0 eS,())=some (isName (nm.getD 0 eS),()):=fun h=>by
  have:=h1 _ (mem_getD (d:=eS) (show 0<nm.length by omega))
  exact e_s_IsName N (nm.getD 0 eS,()) (show (nm.getD 0 eS).size<_ by omega) (show (nm.getD 0 eS).size<N by omega) (by omega)
 unfold s_l3Prim primB
 dsimp only
 rw [nm_if (B:=decide ((nm.length:Int)=1)) (by simp) hf]
 simp only [e_s_l1In,e_s_Arity,and_some,oB,decide_eq_true_eq,Bool.decide_eq_true]
 by_cases q1:s=(ByteArray.mk #[109,97,107,101])
 ·simp only [if_pos q1,oneN]
 ·by_cases q2:s=(ByteArray.mk #[102,105,101,108,100])
  ·simp only [if_neg q1,if_pos q2,oneN,inI]
  ·by_cases q3:s=(ByteArray.mk #[105,115])
   ·simp only [if_neg q1,if_neg q2,if_pos q3,oneN]
   ·simp only [if_neg q1,if_neg q2,if_neg q3]
theorem ar_field:arity (ByteArray.mk #[102,105,101,108,100])=1:=by decide
theorem ar_is:arity (ByteArray.mk #[105,115])=1:=by decide
theorem e_i_prim (N:Nat) (x:NT) (u:Unit) (hw:w_Node x<big) (hN:big≤N):i_primOk N (x,u)=some (primB x,()):=by
 have hb:big=1048577:=rfl
 obtain ⟨h1,h2,h3,h4⟩:=nm_small hw
 obtain ⟨k,n,s,nm,ar,u'⟩:=x
 dsimp only at h1 h2 h3 h4
 have hf:nm.length=1→i_IsName N (nm.getD 0 eS,())=some (isName (nm.getD 0 eS),()):=fun h=>by
  have:=h1 _ (mem_getD (d:=eS) (show 0<nm.length by omega))
  exact e_i_IsName N (nm.getD 0 eS,()) (show (nm.getD 0 eS).size<_ by omega) (show (nm.getD 0 eS).size<N by omega)
 unfold i_primOk primB
 dsimp only
 rw [e_i_Arity N (s,()) (show s.size<_ by omega)]
 simp only [oB]
 by_cases q1:s=(ByteArray.mk #[109,97,107,101])
 ·simp only [if_pos q1,decide_eq_true_eq,and_some,oB]
  rw [nm_if (fun h=>by simp at h;omega) hf]
  simp only [oB,oneN,if_pos q1]
  congr 2
  generalize decide (n=0)=a
  generalize decide ((ar.length:Int)≤8)=b
  generalize decide ((nm.length:Int)=1)=c
  generalize isName (nm.getD 0 eS)=d
  cases a <;> cases b <;> cases c <;> cases d <;> rfl
 ·have hty:i_isTyped N (s,())=some (decide (s=(ByteArray.mk #[102,105,101,108,100])) || decide (s=(ByteArray.mk #[105,115])),()):=by
   unfold i_isTyped
   dsimp only
   simp only [decide_eq_true_eq,if_neg q1,oB,or_some,Bool.decide_eq_true]
  have hone:(if decide ((nm.length:Int)=1)=true then (if inB 0 nm.length then (i_IsName N (nm.getD (Int.toNat 0) bE,())).bind fun r=>some r.1 else none) else some false)=some (oneN nm) :=
   nm_if (B:=decide ((nm.length:Int)=1)) (by simp) hf
  rw [hty,e_i_inRange]
  simp only [oB]
  rw [hone]
  simp only [if_neg q1,decide_eq_true_eq,oB]
  by_cases ha:arity s<0
  ·have q2:s≠(ByteArray.mk #[102,105,101,108,100]):=fun e=>by rw [e,ar_field] at ha;omega
   have q3:s≠(ByteArray.mk #[105,115]):=fun e=>by rw [e,ar_is] at ha;omega
   have hne:¬ arity s=(ar.length:Int):=by omega
   simp only [if_pos ha,if_neg q2,if_neg q3,oB,if_true,decide_eq_false hne,Bool.and_false,Bool.false_and]
  ·simp only [if_neg ha,oB]
   by_cases hl:(ar.length:Int)=arity s
   ·simp only [hl,decide_true,bN,bF,if_false]
    by_cases q2:s=(ByteArray.mk #[102,105,101,108,100])
    ·simp only [if_pos q2,q2,decide_true,Bool.true_or,if_true,bN,bF,if_false,ar_field,Bool.and_true,inI,oB]
     cases (decide (n≥0) && decide (n≤7)) <;> simp
    ·by_cases q3:s=(ByteArray.mk #[105,115])
     ·simp only [q3,ar_is,decide_true,Bool.and_true,oB,Bool.or_true,if_true]
      have q4:¬ ((ByteArray.mk #[105,115])=(ByteArray.mk #[102,105,101,108,100])):=by decide
      simp only [if_neg q4,decide_eq_false q4,Bool.not_false,if_true,oB,bF,if_false]
      by_cases hn:n=0 <;> simp [hn]
     ·simp only [if_neg q2,if_neg q3,decide_eq_false q2,decide_eq_false q3,Bool.not_false,if_true,oB,bF,if_false,Bool.or_false,decide_true,Bool.and_true]
      by_cases hn:n=0 <;> simp [hn]
   ·have hl':¬ arity s=(ar.length:Int):=fun e=>hl e.symm
    simp only [decide_eq_false hl,Bool.not_false,if_true,decide_eq_false hl',Bool.and_false,Bool.false_and]
    by_cases q2:s=(ByteArray.mk #[102,105,101,108,100])
    ·have:¬ (ar.length:Int)=1:=fun e=>hl (by rw [e,q2,ar_field])
     simp [q2,this]
    ·by_cases q3:s=(ByteArray.mk #[105,115])
     ·have:¬ (ar.length:Int)=1:=fun e=>hl (by rw [e,q3,ar_is])
      simp [q3,this]
     ·simp [q2,q3]
end Go.Rf
namespace Go.Rf
def nodeB (x:NT):Bool :=
 if x.1=1 then decide ((x.2.2.2.1.length:Int)=0) && decide ((x.2.2.2.2.1.length:Int)=0) && decide (x.2.2.1=(ByteArray.mk #[])) && inI x.2.1 (-1000000) 1000000
 else if x.1=2 then decide ((x.2.2.2.1.length:Int)=0) && decide ((x.2.2.2.2.1.length:Int)=0) && decide (x.2.2.1=(ByteArray.mk #[])) && inI x.2.1 0 1
 else if x.1=3 then decide ((x.2.2.2.1.length:Int)=0) && decide ((x.2.2.2.2.1.length:Int)=0) && decide (x.2.2.1=(ByteArray.mk #[])) && decide (x.2.1=0)
 else if x.1=4 then decide ((x.2.2.2.1.length:Int)=0) && decide ((x.2.2.2.2.1.length:Int)=0) && symOk x.2.2.1 && decide (x.2.1=0)
 else if x.1=5 then decide ((x.2.2.2.1.length:Int)=0) && decide ((x.2.2.2.2.1.length:Int)=0) && isName x.2.2.1 && decide (x.2.1=0)
 else if x.1=6 then decide ((x.2.2.2.1.length:Int)=0) && decide ((x.2.2.2.2.1.length:Int)=3) && decide (x.2.2.1=(ByteArray.mk #[])) && decide (x.2.1=0)
 else if x.1=7 then (decide ((x.2.2.2.1.length:Int)≤8) && namesB x.2.2.2.1) && decide ((x.2.2.2.2.1.length:Int)=1) && decide (x.2.2.1=(ByteArray.mk #[])) && decide (x.2.1=0)
 else if x.1=8 then decide ((x.2.2.2.1.length:Int)=0) && inI x.2.2.2.2.1.length 1 9 && decide (x.2.2.1=(ByteArray.mk #[])) && decide (x.2.1=0)
 else if x.1=10 then decide ((x.2.2.2.1.length:Int)=0) && decide ((x.2.2.2.2.1.length:Int)=1) && isName x.2.2.1 && decide (x.2.1=0)
 else if x.1=11 then decide ((x.2.2.2.1.length:Int)=0) && decide ((x.2.2.2.2.1.length:Int)≥2) && decide (x.2.2.1=(ByteArray.mk #[])) && decide (x.2.1=0)
 else if x.1=9 then primB x
 else false
theorem and_some' {c d:Bool}:(if c=true then some d else some false)=some (c && d):=by cases c <;> rfl
theorem e_s_node (N:Nat) (x:NT) (u:Unit) (hw:w_Node x<big) (hN:big≤N):s_l3Node N (x,u)=some (nodeB x,()):=by
 have hb:big=1048577:=rfl
 obtain ⟨h1,h2,h3,h4⟩:=nm_small hw
 have hp:=e_s_prim N x () hw hN
 obtain ⟨k,n,s,nm,ar,u'⟩:=x
 dsimp only at h1 h2 h3 h4
 have e1:=e_s_IsName N (s,()) (show s.size<_ by omega) (show s.size<N by omega) (by omega)
 have e2:=e_s_l2Sym N (s,()) (show s.size<_ by omega) (show s.size<N by omega) (by omega)
 have e3:=e_s_names N nm 8 () h3 h1 hN
 unfold s_l3Node nodeB
 dsimp only at e1 e2 e3 hp ⊢
 simp only [e1,e2,e3,hp,e_s_l1In,oB,and_some,and_some',decide_eq_true_eq,Bool.decide_eq_true,inI]
 by_cases k1:k=1
 ·simp only [if_pos k1]
 by_cases k2:k=2
 ·simp only [if_neg k1,if_pos k2]
 by_cases k3:k=3
 ·simp only [if_neg k1,if_neg k2,if_pos k3]
 by_cases k4:k=4
 ·simp only [if_neg k1,if_neg k2,if_neg k3,if_pos k4]
 by_cases k5:k=5
 ·simp only [if_neg k1,if_neg k2,if_neg k3,if_neg k4,if_pos k5]
 by_cases k6:k=6
 ·simp only [if_neg k1,if_neg k2,if_neg k3,if_neg k4,if_neg k5,if_pos k6]
 by_cases k7:k=7
 ·simp only [if_neg k1,if_neg k2,if_neg k3,if_neg k4,if_neg k5,if_neg k6,if_pos k7]
 by_cases k8:k=8
 ·simp only [if_neg k1,if_neg k2,if_neg k3,if_neg k4,if_neg k5,if_neg k6,if_neg k7,if_pos k8]
 by_cases k10:k=10
 ·simp only [if_neg k1,if_neg k2,if_neg k3,if_neg k4,if_neg k5,if_neg k6,if_neg k7,if_neg k8,if_pos k10]
 by_cases k11:k=11
 ·simp only [if_neg k1,if_neg k2,if_neg k3,if_neg k4,if_neg k5,if_neg k6,if_neg k7,if_neg k8,if_neg k10,if_pos k11]
 by_cases k9:k=9
 ·simp only [if_neg k1,if_neg k2,if_neg k3,if_neg k4,if_neg k5,if_neg k6,if_neg k7,if_neg k8,if_neg k10,if_neg k11,if_pos k9]
 ·simp only [if_neg k1,if_neg k2,if_neg k3,if_neg k4,if_neg k5,if_neg k6,if_neg k7,if_neg k8,if_neg k10,if_neg k11,if_neg k9]
theorem e_i_node (N:Nat) (x:NT) (u:Unit) (hw:w_Node x<big) (hN:big≤N):i_nodeOk N (x,u)=some (nodeB x,()):=by
 have hb:big=1048577:=rfl
 obtain ⟨h1,h2,h3,h4⟩:=nm_small hw
 have hp:=e_i_prim N x () hw hN
 obtain ⟨k,n,s,nm,ar,u'⟩:=x
 dsimp only at h1 h2 h3 h4
 have e1:=e_i_IsName N (s,()) (show s.size<_ by omega) (show s.size<N by omega)
 have e2:=e_i_symOk N (s,()) (show s.size<_ by omega) (show s.size<N by omega)
 have e3:=e_namesOk N nm 8 () h3 h1 hN
 unfold i_nodeOk nodeB
 dsimp only at e1 e2 e3 hp ⊢
 simp only [e1,e2,e3,hp,e_i_inRange,oB,and_some,and_some',decide_eq_true_eq,Bool.decide_eq_true,inI]
 by_cases k1:k=1
 ·simp only [if_pos k1];congr 2;ac_rfl
 by_cases k2:k=2
 ·simp only [if_neg k1,if_pos k2];congr 2;ac_rfl
 by_cases k3:k=3
 ·simp only [if_neg k1,if_neg k2,if_pos k3];congr 2;ac_rfl
 by_cases k4:k=4
 ·simp only [if_neg k1,if_neg k2,if_neg k3,if_pos k4];congr 2;ac_rfl
 by_cases k5:k=5
 ·simp only [if_neg k1,if_neg k2,if_neg k3,if_neg k4,if_pos k5];congr 2;ac_rfl
 by_cases k6:k=6
 ·simp only [if_neg k1,if_neg k2,if_neg k3,if_neg k4,if_neg k5,if_pos k6];congr 2;ac_rfl
 by_cases k7:k=7
 ·simp only [if_neg k1,if_neg k2,if_neg k3,if_neg k4,if_neg k5,if_neg k6,if_pos k7];congr 2;ac_rfl
 by_cases k8:k=8
 ·simp only [if_neg k1,if_neg k2,if_neg k3,if_neg k4,if_neg k5,if_neg k6,if_neg k7,if_pos k8];congr 2;ac_rfl
 by_cases k9:k=9
 ·simp only [if_neg k1,if_neg k2,if_neg k3,if_neg k4,if_neg k5,if_neg k6,if_neg k7,if_neg k8,if_pos k9,k9]
  simp
 by_cases k10:k=10
 ·simp only [if_neg k1,if_neg k2,if_neg k3,if_neg k4,if_neg k5,if_neg k6,if_neg k7,if_neg k8,if_neg k9,if_pos k10];congr 2;ac_rfl
 by_cases k11:k=11
 ·simp only [if_neg k1,if_neg k2,if_neg k3,if_neg k4,if_neg k5,if_neg k6,if_neg k7,if_neg k8,if_neg k9,if_neg k10,if_pos k11];congr 2;ac_rfl
 ·simp only [if_neg k1,if_neg k2,if_neg k3,if_neg k4,if_neg k5,if_neg k6,if_neg k7,if_neg k8,if_neg k10,if_neg k11,if_neg k9]
end Go.Rf
namespace Go.Rf
def foldO {σ α:Type} (g:Nat→σ→α→Option σ):Nat→σ→List α→Option σ
 | _,s,[]=>some s
 | i,s,x::xs=>(g i s x).bind fun s'=>foldO g (i+1) s' xs
theorem loop_fold {α σ A B C D:Type}{f:A→Option (Step A B C)}{K:B ⊕ C→Option D} (enc:σ→Nat→A) (J:Nat→σ→Prop) (g:Nat→σ→α→Option σ) (b:σ→B) (c:C) (l:List α) (d:α)
  (h0:∀ i s,i<l.length→J i s→g i s (l.getD i d)=none→f (enc s i)=some (.ret c))
  (h1:∀ i s s',i<l.length→J i s→g i s (l.getD i d)=some s'→f (enc s i)=some (.more (enc s' (i+1)))∧J (i+1) s')
  (hd:∀ s,J l.length s→f (enc s l.length)=some (.done (b s))){N:Nat} (s:σ) (x0:A) (hx:x0=enc s 0) (hJ:J 0 s) (hN:l.length<N) :
  (iter f N x0).bind K=match foldO g 0 s l with
   | some s'=>K (.inl (b s'))
   | none=>K (.inr c):=by
 have key:∀ (suf:List α) (i:Nat) (s:σ) (N:Nat),i≤l.length→l.drop i=suf→J i s→suf.length<N→iter f N (enc s i)=some (match foldO g i s suf with
   | some s'=>.inl (b s')
   | none=>.inr c)∧∀ s',foldO g i s suf=some s'→J l.length s':=by
  intro suf
  induction suf with
  | nil =>
   intro i s N hi hdr hJ hN
   obtain ⟨N,rfl⟩:∃ k,N=k+1:=⟨N-1,by simp at hN;omega⟩
   have:i=l.length:=by
    have:=congrArg List.length hdr
    simp at this;omega
   subst this
   refine ⟨by simp only [iter,hd s hJ,foldO],fun s' h=>?_⟩
   simp only [foldO,sI] at h
   subst h;exact hJ
  | cons x suf ih =>
   intro i s N hi hdr hJ hN
   obtain ⟨N,rfl⟩:∃ k,N=k+1:=⟨N-1,by simp at hN;omega⟩
   have hil:i<l.length:=by
    have:=congrArg List.length hdr
    simp at this;omega
   have hx:l.getD i d=x:=by
    rw [getD_lt hil]
    have:=List.drop_eq_getElem_cons hil
    rw [hdr] at this
    exact (List.cons.inj this).1.symm
   have hdr':l.drop (i+1)=suf:=by
    have:=List.drop_eq_getElem_cons hil
    rw [hdr] at this
    exact (List.cons.inj this).2.symm
   cases e:g i s x with
   | none =>
    have:=h0 i s hil hJ (by rw [hx];exact e)
    refine ⟨by simp only [iter,this,foldO,e,Option.bind_none],fun s' h=>by simp [foldO,e] at h⟩
   | some s1 =>
    obtain ⟨e1,hJ1⟩:=h1 i s s1 hil hJ (by rw [hx];exact e)
    obtain ⟨k1,k2⟩:=ih (i+1) s1 N hil hdr' hJ1 (by simp at hN;omega)
    refine ⟨by simp only [iter,e1,foldO,e,oB];exact k1,fun s' h=>k2 s' (by simpa [foldO,e] using h)⟩
 subst hx
 obtain ⟨k,_⟩:=key l 0 s N (Nat.zero_le _) rfl hJ hN
 rw [k]
 cases foldO g 0 s l <;> rfl
theorem loop_foldM {α σ A B C D:Type}{f:A→Option (Step A B C)}{K:B ⊕ C→Option D} (enc:σ→Nat→A) (J:Nat→σ→Prop) (g:Nat→σ→α→Option σ) (b:σ→B) (c:C) (l:List α) (d:α)
  (h:∀ i s,i<l.length→J i s→f (enc s i)=some (match g i s (l.getD i d) with
   | some s'=>.more (enc s' (i+1))
   | none=>.ret c)) (hs:∀ i s s',i<l.length→J i s→g i s (l.getD i d)=some s'→J (i+1) s')
  (hd:∀ s,J l.length s→f (enc s l.length)=some (.done (b s))){N:Nat} (s:σ) (x0:A) (hx:x0=enc s 0) (hJ:J 0 s) (hN:l.length<N) :
  (iter f N x0).bind K=match foldO g 0 s l with
   | some s'=>K (.inl (b s'))
   | none=>K (.inr c) :=
 loop_fold enc J g b c l d (fun i s hi hj e=>by rw [h i s hi hj,e]) (fun i s s' hi hj e=>⟨by rw [h i s hi hj,e],hs i s s' hi hj e⟩) hd s x0 hx hJ hN
theorem foldO_inv {σ α:Type}{g:Nat→σ→α→Option σ}{J:Nat→σ→Prop}:∀ (l:List α) (i:Nat) (s s':σ),(∀ j s s' x,i≤j→j<i+l.length→x∈l→J j s→g j s x=some s'→J (j+1) s')→J i s→foldO g i s l=some s'→J (i+l.length) s':=by
 intro l
 induction l with
 | nil=>intro i s s' _ hJ h;simp only [foldO,sI] at h;subst h;exact hJ
 | cons x l ih =>
  intro i s s' hs hJ h
  simp only [foldO] at h
  obtain ⟨s1,e,h⟩:=Option.bind_eq_some_iff.1 h
  have:=ih (i+1) s1 s' (fun j s s' y h1 h2 h3=>hs j s s' y (by omega) (by simp;omega) (by simp [h3])) (hs i s s1 x (Nat.le_refl _) (by simp) (by simp) hJ e) h
  rw [List.length_cons,show i+(l.length+1)=i+1+l.length by omega]
  exact this
def argG (i:Nat) (_:Nat) (n:List Int) (a:Int):Option (List Int) :=
 if 0≤a∧a<(i:Int) then some (n.set a.toNat (wI (n.getD a.toNat 0+1))) else none
def nodeG (i:Nat) (n:List Int) (x:NT):Option (List Int) :=
 if nodeB x=true then foldO (argG i) 0 n x.2.2.2.2.1 else none
def progB (p:PT):Bool :=
 inI p.1.length 1 400 && decide (p.2.1=(p.1.length:Int)-1) && match foldO nodeG 0 (List.replicate p.1.length 0) p.1 with
  | none=>false
  | some n=>(n.take (p.1.length-1)).all fun v=>decide (v=1)
theorem argG_len {i j:Nat}{n n':List Int}{a:Int} (h:argG i j n a=some n'):n'.length=n.length:=by
 unfold argG at h
 split at h
 ·cases h;simp
 ·cases h
theorem nodeG_len {i:Nat}{n n':List Int}{x:NT} (h:nodeG i n x=some n'):n'.length=n.length:=by
 unfold nodeG at h
 split at h
 ·exact foldO_inv (J:=fun _ m=>m.length=n.length) _ 0 n n' (fun j s s' y _ _ _ hs e=>(argG_len e).trans hs) rfl h
 ·cases h
theorem e_s_prog (N:Nat) (p:PT) (u:Unit) (hw:w_Prog p<big) (hN:big≤N):s_ProgOk N (p,u)=some (progB p,()):=by
 have hb:big=1048577:=rfl
 obtain ⟨l,r,u'⟩:=p
 have hw':wL w_Node l+0<big:=hw
 have hl:l.length<big:=by simp only [wL] at hw';omega
 have hnd:∀ i,i<l.length→w_Node (l.getD i ((0:Int),(0:Int),bE,([]:List ByteArray),([]:List Int),()))<big:=fun i hi=>by
  have:=sumW_getD (w:=w_Node) (d:=((0:Int),(0:Int),bE,([]:List ByteArray),([]:List Int),())) hi
  simp only [wL] at hw';omega
 have hW:wI ((l.length:Int)-1)=(l.length:Int)-1:=wrap_id (by omega) (by omega)
 unfold s_ProgOk progB
 dsimp only
 rw [e_s_l1In]
 dsimp only [oB]
 rw [hW]
 by_cases hA:(decide ((l.length:Int)≥1) && decide ((l.length:Int)≤400))=true
 rotate_left
 ·rw [Bool.not_eq_true] at hA
  rw [hA,show inI (l.length:Int) 1 400=false from hA]
  rfl
 have hA':=hA
 rw [bA,decide_eq_true_eq,decide_eq_true_eq] at hA'
 rw [hA,show inI (l.length:Int) 1 400=true from hA]
 by_cases hR:r=(l.length:Int)-1
 rotate_left
 ·rw [decide_eq_false hR]
  rfl
 rw [decide_eq_true hR]
 simp only [bN,bF,if_false,oB,Bool.true_and]
 rw [if_pos (show mkB (l.length:Int) (l.length:Int) from ⟨by omega,by omega,by omega⟩),tN]
 rw [loop_foldM (fun (s:List Int) (i:Nat)=>((l,r,u'),s,(i:Int),())) (fun _ s=>s.length=l.length) nodeG (fun s=>(s,())) (false,()) l ((0:Int),(0:Int),bE,([]:List ByteArray),([]:List Int),()) ?h ?hs ?hd (List.replicate l.length 0) ((l,r,u'),List.replicate l.length 0,0,()) rfl (by simp) (by omega)]
 case hs=>intro i s s' hi hs e;exact (nodeG_len e).trans hs
 case hd=>intro s hs;simp
 case h =>
  intro i s hi hs
  have hwi:=hnd i hi
  dsimp only
  rw [if_pos (decide_eq_true (lt_cast hi)),if_pos (inB_nat.2 hi),tN]
  generalize hx:l.getD i ((0:Int),(0:Int),bE,([]:List ByteArray),([]:List Int),())=x at hwi
  have hlen:=(nm_small hwi).2.2.2
  rw [e_s_node N x () hwi hN]
  dsimp only [oB]
  cases hB:nodeB x with
  | false =>
   have e:nodeG i s x=none:=by simp [nodeG,hB]
   rw [e];rfl
  | true =>
   have e:nodeG i s x=foldO (argG i) 0 s x.2.2.2.2.1:=by simp [nodeG,hB]
   rw [e]
   simp only [bN,bF,if_false]
   rw [loop_foldM (fun (s:List Int) (k:Nat)=>((l,r,u'),s,(k:Int),())) (fun _ s=>s.length=l.length) (argG i) (fun s=>((l,r,u'),s,())) (false,()) x.2.2.2.2.1 (0:Int) ?h2 ?hs2 ?hd2 s ((l,r,u'),s,0,()) rfl hs (by omega)]
   case hs2=>intro k s s' hk hs e;exact (argG_len e).trans hs
   case hd2=>intro s hs;dsimp only;rw [if_pos (inB_nat.2 hi),tN,hx];simp
   case h2 =>
    intro k s hk hs
    dsimp only
    rw [if_pos (inB_nat.2 hi)]
    simp only [tN,hx]
    rw [if_pos (decide_eq_true (lt_cast hk)),if_pos (inB_nat.2 hi),if_pos (inB_nat.2 hk)]
    generalize x.2.2.2.2.1.getD k 0=a
    unfold argG
    by_cases ha:a<0
    ·rw [if_neg (show ¬ (0≤a∧a<(i:Int)) by omega)]
     simp [ha]
    ·by_cases hai:a≥(i:Int)
     ·rw [if_neg (show ¬ (0≤a∧a<(i:Int)) by omega)]
      simp [ha,hai]
     ·rw [if_pos (show 0≤a∧a<(i:Int) by omega)]
      have hb:inB a s.length:=⟨by omega,by omega⟩
      rw [wrap_nat (by omega)]
      simp [ha,hai,hb]
      exact hb
   rw [wrap_nat (by omega)]
   cases foldO (argG i) 0 s x.2.2.2.2.1 <;> rfl
 cases hF:foldO nodeG 0 (List.replicate l.length 0) l with
 | none=>rfl
 | some n =>
  have hn:n.length=l.length:=by
   have:=foldO_inv (J:=fun _ (m:List Int)=>m.length=l.length) l 0 _ n (fun j s s' x _ _ _ hs e=>(nodeG_len e).trans hs) (by simp) hF
   exact this
  dsimp only
  rw [iter_all (fun i=>(n,(i:Int),())) (fun i=>decide (n.getD i 0=1)) (n:=l.length-1) (b:=()) (c:=(false,())) ?h ?hd (by omega) (x0:=(n,0,())) rfl]
  case hd =>
   dsimp only
   rw [hn,hW,if_neg (by simp;omega)]
  case h =>
   intro i hi
   dsimp only
   rw [hn,hW,if_pos (decide_eq_true (show (i:Int)<(l.length:Int)-1 by omega)),if_pos (inB_nat.2 (show i<l.length by omega)),tN,wrap_nat (by omega)]
   cases decide (n.getD i 0=1) <;> rfl
  have e:(List.range (l.length-1)).all (fun i=>decide (n.getD i 0=1))=(n.take (l.length-1)).all fun v=>decide (v=1):=by
   rw [← range_all_getD (n.take (l.length-1)) 0 (fun v=>decide (v=1))]
   have hlt:(n.take (l.length-1)).length=l.length-1:=by simp;omega
   rw [hlt]
   have hg:∀ i,i<l.length-1→n.getD i 0=(n.take (l.length-1)).getD i 0:=fun i hi=>by
    rw [getD_lt (by omega),getD_lt (by rw [hlt];exact hi),List.getElem_take]
   rw [Bool.eq_iff_iff]
   simp only [List.all_eq_true,List.mem_range]
   exact ⟨fun h i hi=>by rw [← hg i hi];exact h i hi,fun h i hi=>by rw [hg i hi];exact h i hi⟩
  rw [e]
  cases (n.take (l.length-1)).all (fun v=>decide (v=1)) <;> rfl
end Go.Rf
namespace Go.Rf
theorem argG_last {i j L:Nat}{n n':List Int}{a:Int} (hi:i≤L) (h:argG i j n a=some n'):n'.getD L 0=n.getD L 0:=by
 unfold argG at h
 split at h
 ·rename_i ha
  cases h
  rw [List.getD_eq_getElem?_getD,List.getElem?_set_ne (by omega),← List.getD_eq_getElem?_getD]
 ·cases h
theorem nodeG_last {i L:Nat}{n n':List Int}{x:NT} (hi:i≤L) (h:nodeG i n x=some n'):n'.getD L 0=n.getD L 0:=by
 unfold nodeG at h
 split at h
 ·exact foldO_inv (J:=fun _ m=>m.getD L 0=n.getD L 0) _ 0 n n' (fun j s s' y _ _ _ hs e=>(argG_last hi e).trans hs) rfl h
 ·cases h
theorem e_i_prog (N:Nat) (p:PT) (u:Unit) (hw:w_Prog p<big) (hN:big≤N):i_ProgOk N (p,u)=some (progB p,()):=by
 have hb:big=1048577:=rfl
 obtain ⟨l,r,u'⟩:=p
 have hw':wL w_Node l+0<big:=hw
 have hl:l.length<big:=by simp only [wL] at hw';omega
 have hnd:∀ i,i<l.length→w_Node (l.getD i ((0:Int),(0:Int),bE,([]:List ByteArray),([]:List Int),()))<big:=fun i hi=>by
  have:=sumW_getD (w:=w_Node) (d:=((0:Int),(0:Int),bE,([]:List ByteArray),([]:List Int),())) hi
  simp only [wL] at hw';omega
 have hW:wI ((l.length:Int)-1)=(l.length:Int)-1:=wrap_id (by omega) (by omega)
 unfold i_ProgOk progB
 dsimp only
 rw [e_i_inRange]
 dsimp only [oB]
 rw [hW]
 by_cases hA:(decide ((l.length:Int)≥1) && decide ((l.length:Int)≤400))=true
 rotate_left
 ·rw [Bool.not_eq_true] at hA
  rw [hA,show inI (l.length:Int) 1 400=false from hA]
  rfl
 have hA':=hA
 rw [bA,decide_eq_true_eq,decide_eq_true_eq] at hA'
 rw [hA,show inI (l.length:Int) 1 400=true from hA]
 by_cases hR:r=(l.length:Int)-1
 rotate_left
 ·rw [decide_eq_false hR]
  rfl
 rw [decide_eq_true hR]
 simp only [bN,bF,if_false,oB,Bool.true_and]
 rw [if_pos (show mkB (l.length:Int) (l.length:Int) from ⟨by omega,by omega,by omega⟩),tN]
 rw [loop_foldM (fun (s:List Int) (i:Nat)=>(s,(i:Int),())) (fun _ s=>s.length=l.length) nodeG (fun s=>(s,())) (false,()) l ((0:Int),(0:Int),bE,([]:List ByteArray),([]:List Int),()) ?h ?hs ?hd (List.replicate l.length 0) (List.replicate l.length 0,0,()) rfl (by simp) (by omega)]
 case hs=>intro i s s' hi hs e;exact (nodeG_len e).trans hs
 case hd=>intro s hs;simp
 case h =>
  intro i s hi hs
  have hwi:=hnd i hi
  dsimp only
  rw [if_pos (decide_eq_true (lt_cast hi)),if_pos (inB_nat.2 hi),tN]
  generalize hx:l.getD i ((0:Int),(0:Int),bE,([]:List ByteArray),([]:List Int),())=x at hwi
  have hlen:=(nm_small hwi).2.2.2
  rw [e_i_node N x () hwi hN]
  dsimp only [oB]
  cases hB:nodeB x with
  | false =>
   have e:nodeG i s x=none:=by simp [nodeG,hB]
   rw [e];rfl
  | true =>
   have e:nodeG i s x=foldO (argG i) 0 s x.2.2.2.2.1:=by simp [nodeG,hB]
   rw [e]
   simp only [bN,bF,if_false]
   rw [loop_foldM (fun (s:List Int) (k:Nat)=>(s,(k:Int),())) (fun _ s=>s.length=l.length) (argG i) (fun s=>(s,())) (false,()) x.2.2.2.2.1 (0:Int) ?h2 ?hs2 ?hd2 s (s,0,()) rfl hs (by omega)]
   case hs2=>intro k s s' hk hs e;exact (argG_len e).trans hs
   case hd2=>intro s hs;simp
   case h2 =>
    intro k s hk hs
    dsimp only
    rw [tN,if_pos (decide_eq_true (lt_cast hk)),if_pos (inB_nat.2 hk)]
    generalize x.2.2.2.2.1.getD k 0=a
    rw [e_i_inRange,wrap_id (n:=(i:Int)-1) (by omega) (by omega)]
    dsimp only [oB]
    unfold argG
    by_cases ha:0≤a∧a<(i:Int)
    ·rw [if_pos ha]
     have hc:(decide (a≥0) && decide (a≤(i:Int)-1))=true:=by simp;omega
     have hb:inB a s.length:=⟨by omega,by omega⟩
     rw [hc,if_pos hb,if_pos hb,wrap_nat (by omega)]
     rfl
    ·rw [if_neg ha]
     have hc:(decide (a≥0) && decide (a≤(i:Int)-1))=false:=by
      rw [← Bool.not_eq_true,bA,decide_eq_true_eq,decide_eq_true_eq];omega
     rw [hc]
     rfl
   rw [wrap_nat (by omega)]
   cases foldO (argG i) 0 s x.2.2.2.2.1 <;> rfl
 cases hF:foldO nodeG 0 (List.replicate l.length 0) l with
 | none=>rfl
 | some n =>
  have hn:n.length=l.length:=by
   have:=foldO_inv (J:=fun _ (m:List Int)=>m.length=l.length) l 0 _ n (fun j s s' x _ _ _ hs e=>(nodeG_len e).trans hs) (by simp) hF
   exact this
  have h0:n.getD (l.length-1) 0=0:=by
   have:=foldO_inv (J:=fun _ (m:List Int)=>m.getD (l.length-1) 0=0) l 0 _ n (fun j s s' x _ hj _ hs e=>(nodeG_last (by omega) e).trans hs) (by rw [List.getD_eq_getElem?_getD,List.getElem?_replicate];split <;> rfl) hF
   exact this
  dsimp only
  have e1:Int.toNat ((l.length:Int)-1)=l.length-1:=by omega
  have e2:List.drop (Int.toNat 0) (n.take (l.length-1))=n.take (l.length-1):=rfl
  have hlt:(n.take (l.length-1)).length=l.length-1:=by simp;omega
  rw [if_pos (show cutB 0 ((l.length:Int)-1) n.length from ⟨by omega,by omega,by omega⟩),e1,e2]
  rw [loop_all (n.take (l.length-1)) 0 (fun v=>decide (v=1)) (b:=()) (c:=(false,())) (by omega) ?h ?hd (by omega)]
  case hd=>simp
  case h =>
   intro i hi
   dsimp only
   rw [if_pos (decide_eq_true (lt_cast hi)),if_pos (inB_nat.2 hi),tN]
   cases decide ((n.take (l.length-1)).getD i 0=1) <;> rfl
  rw [if_pos (show inB ((l.length:Int)-1) n.length from ⟨by omega,by omega⟩),h0]
  cases (n.take (l.length-1)).all (fun v=>decide (v=1)) <;> rfl
end Go.Rf
namespace Go.Rf
def namD (l:List DT):List ByteArray:=l.map (·.1)
def namT (l:List TT):List ByteArray:=l.map (·.1)
theorem loop_names {α C D:Type}{f:List ByteArray×Int×Unit→Option (Step (List ByteArray×Int×Unit) (List ByteArray×Unit) C)}{K:(List ByteArray×Unit) ⊕ C→Option D} (l:List α) (d:α) (nm:α→ByteArray){N:Nat}
  (h:∀ i s,i<l.length→s.length=i→f (s,(i:Int),())=some (.more (s++[nm (l.getD i d)],((i+1:Nat):Int),()))) (hd:∀ s,f (s,(l.length:Int),())=some (.done (s,()))) (hN:l.length<N) :
  (iter f N ([],0,())).bind K=K (.inl (l.map nm,())):=by
 rw [iter_done (fun i=>((l.take i).map nm,(i:Int),())) (x0:=([],0,())) (b:=(l.map nm,())) (k:=0) (n:=l.length) (fun i _ hi=>?_) (Nat.zero_le _) ?_ (by omega) rfl]
 ·rfl
 ·rw [hd,List.take_length]
 ·rw [h i _ hi (by simp;omega)]
  have e:(l.take (i+1)).map nm=(l.take i).map nm++[nm (l.getD i d)]:=by
   have e2:l.take (i+1)=l.take i++[l[i]]:=by rw [List.take_add_one,List.getElem?_eq_getElem hi];rfl
   rw [e2,getD_lt hi,List.map_append];rfl
  rw [e]
theorem e_i_namD (N:Nat) (l:List DT) (u:Unit) (hl:l.length<big) (hN:big≤N):i_namesOfDefs N (l,u)=some (namD l,()):=by
 have hb:big=1048577:=rfl
 unfold i_namesOfDefs
 dsimp only
 rw [loop_names l (bE,(([]:List NT),(0:Int),()),()) (·.1) ?h ?hd (by omega)]
 case hd=>intro s;simp
 case h =>
  intro i s hi hs
  dsimp only
  rw [if_pos (decide_eq_true (lt_cast hi)),if_pos (inB_nat.2 hi),tN,if_pos (by simp;omega),wrap_nat (by omega)]
 rfl
theorem e_s_namD (N:Nat) (l:List DT) (u:Unit) (hl:l.length<big) (hN:big≤N):s_l11DefNames N (l,u)=some (namD l,()):=by
 have hb:big=1048577:=rfl
 unfold s_l11DefNames
 dsimp only
 rw [loop_names l (bE,(([]:List NT),(0:Int),()),()) (·.1) ?h ?hd (by omega)]
 case hd=>intro s;simp
 case h =>
  intro i s hi hs
  dsimp only
  rw [if_pos (decide_eq_true (lt_cast hi)),if_pos (inB_nat.2 hi),tN,if_pos (by simp;omega),wrap_nat (by omega)]
 rfl
theorem e_i_namT (N:Nat) (l:List TT) (u:Unit) (hl:l.length<big) (hN:big≤N):i_namesOfTypes N (l,u)=some (namT l,()):=by
 have hb:big=1048577:=rfl
 unfold i_namesOfTypes
 dsimp only
 rw [loop_names l (bE,(0:Int),()) (·.1) ?h ?hd (by omega)]
 case hd=>intro s;simp
 case h =>
  intro i s hi hs
  dsimp only
  rw [if_pos (decide_eq_true (lt_cast hi)),if_pos (inB_nat.2 hi),tN,if_pos (by simp;omega),wrap_nat (by omega)]
 rfl
theorem e_s_namT (N:Nat) (l:List TT) (u:Unit) (hl:l.length<big) (hN:big≤N):s_l11TypeNames N (l,u)=some (namT l,()):=by
 have hb:big=1048577:=rfl
 unfold s_l11TypeNames
 dsimp only
 rw [loop_names l (bE,(0:Int),()) (·.1) ?h ?hd (by omega)]
 case hd=>intro s;simp
 case h =>
  intro i s hi hs
  dsimp only
  rw [if_pos (decide_eq_true (lt_cast hi)),if_pos (inB_nat.2 hi),tN,if_pos (by simp;omega),wrap_nat (by omega)]
 rfl
theorem namD_len (l:List DT):(namD l).length=l.length:=by simp [namD]
theorem namT_len (l:List TT):(namT l).length=l.length:=by simp [namT]
theorem loop_allS {X α B C:Type}{f:X×Int×Unit→Option (Step (X×Int×Unit) B C)} (x:X) (l:List α) (d:α) (p:α→Bool){N:Nat}{b:B}{c:C}
  (hl:l.length<4611686018427387904) (h:∀ i,i<l.length→f (x,(i:Int),())=some (if p (l.getD i d)=true then .more (x,wI ((i:Int)+1),()) else .ret c))
  (hd:f (x,(l.length:Int),())=some (.done b)) (hN:l.length<N):iter f N (x,0,())=some (if l.all p=true then .inl b else .inr c):=by
 rw [← range_all_getD l d p]
 refine iter_all (fun i=>(x,(i:Int),())) _ (fun i hi=>?_) hd hN rfl
 rw [h i hi,wrap_nat (by omega)]
structure SmS (x:ST):Prop where
 nm:x.1.size<big
 im:x.2.1.length<big
 imS:∀ s∈x.2.1,s.size<big
 ex:x.2.2.1.length<big
 exS:∀ s∈x.2.2.1,s.size<big
 ty:x.2.2.2.1.length<big
 tyS:∀ t∈x.2.2.2.1,t.1.size<big
 de:x.2.2.2.2.1.length<big
 deS:∀ t∈x.2.2.2.2.1,t.1.size<big∧w_Prog t.2.1<big
 co:x.2.2.2.2.2.1.length<big
 coS:∀ t∈x.2.2.2.2.2.1,t.1.size<big∧w_Prog t.2.1<big
theorem wL_len {α:Type} (w:α→Nat) (l:List α):l.length≤wL w l:=Nat.le_add_right _ _
theorem wL_mem {α:Type}{w:α→Nat}{l:List α}{x:α} (h:x∈l):w x≤wL w l:=by
 have:=sumW_mem (w:=w) h
 simp only [wL];omega
theorem smS {x:ST} (h:w_Src x<big):SmS x:=by
 have h:(x.1.size+(wL wStr x.2.1+(wL wStr x.2.2.1+(wL w_Type x.2.2.2.1+(wL w_Def x.2.2.2.2.1+(wL w_Def x.2.2.2.2.2.1+0))))))<big:=h
 have l1:=wL_len wStr x.2.1
 have l2:=wL_len wStr x.2.2.1
 have l3:=wL_len w_Type x.2.2.2.1
 have l4:=wL_len w_Def x.2.2.2.2.1
 have l5:=wL_len w_Def x.2.2.2.2.2.1
 have hd:∀ t:DT,w_Def t=t.1.size+(w_Prog t.2.1+0):=fun _=>rfl
 have ht:∀ t:TT,w_Type t=t.1.size+0:=fun _=>rfl
 have hs:∀ s:ByteArray,wStr s=s.size:=fun _=>rfl
 refine ⟨by omega,by omega,fun s m=>?_,by omega,fun s m=>?_,by omega,fun t m=>?_,by omega,fun t m=>?_,by omega,fun t m=>?_⟩
 ·have:=wL_mem (w:=wStr) m;have:=hs s;omega
 ·have:=wL_mem (w:=wStr) m;have:=hs s;omega
 ·have:=wL_mem (w:=w_Type) m;have:=ht t;omega
 ·have:=wL_mem (w:=w_Def) m;have:=hd t;omega
 ·have:=wL_mem (w:=w_Def) m;have:=hd t;omega
theorem namD_small {l:List DT} (h:∀ t∈l,t.1.size<big∧w_Prog t.2.1<big):∀ s∈namD l,s.size<big:=by
 intro s hs
 obtain ⟨t,ht,rfl⟩:=List.mem_map.1 hs
 exact (h t ht).1
theorem namT_small {l:List TT} (h:∀ t∈l,t.1.size<big):∀ s∈namT l,s.size<big:=by
 intro s hs
 obtain ⟨t,ht,rfl⟩:=List.mem_map.1 hs
 exact h t ht
def fewB (x:ST):Bool:=decide ((x.2.1.length:Int)≤30) && decide ((x.2.2.1.length:Int)≤30) && decide ((x.2.2.2.2.1.length:Int)≤30) && decide ((x.2.2.2.1.length:Int)≤8) && decide ((x.2.2.2.2.2.1.length:Int)≤8)
def unlikeB (x:ST):Bool:=onceB x.2.1 && (onceB x.2.2.1 && (onceB (namT x.2.2.2.1) && (onceB (namD x.2.2.2.2.1) && (onceB (namD x.2.2.2.2.2.1) && !sIn x.2.1 x.1))))
def fitB (x:ST):Bool:=x.2.2.1.all (sIn (namD x.2.2.2.2.1)) && (namD x.2.2.2.2.2.1).all (sIn (namT x.2.2.2.1))
theorem e_few (N:Nat) (x:ST) (u:Unit):i_Src_isFew N (x,u)=some (fewB x,()):=by
 unfold i_Src_isFew fewB
 dsimp only
 simp only [and_some,and_some',oB,Bool.decide_eq_true]
theorem e_many (N:Nat) (x:ST) (u:Unit):s_l11Many N (x,u)=some (!fewB x,()):=by
 unfold s_l11Many fewB
 dsimp only
 have e:∀ (n m:Int),decide (n>m)=!decide (n≤m):=fun n m=>by
  rw [← decide_not];exact decide_eq_decide.2 (by omega)
 simp only [or_some,oB,Bool.decide_eq_true,decide_eq_true_eq,e]
 simp only [Bool.not_and]
theorem e_unlike (N:Nat) (x:ST) (u:Unit) (h:SmS x) (hN:big≤N):i_Src_isUnlike N (x,u)=some (unlikeB x,()):=by
 unfold i_Src_isUnlike unlikeB
 dsimp only
 rw [e_isOnce N _ () h.im hN,e_isOnce N _ () h.ex hN,e_i_namT N _ () h.ty hN,e_i_namD N _ () h.de hN,e_i_namD N _ () h.co hN,e_contains N _ _ () h.im hN]
 dsimp only [oB]
 rw [e_isOnce N _ () (by rw [namT_len];exact h.ty) hN,e_isOnce N _ () (by rw [namD_len];exact h.de) hN,e_isOnce N _ () (by rw [namD_len];exact h.co) hN]
 dsimp only [oB]
 cases onceB x.2.1 <;> cases onceB x.2.2.1 <;> cases onceB (namT x.2.2.2.1) <;> cases onceB (namD x.2.2.2.2.1) <;> cases onceB (namD x.2.2.2.2.2.1) <;> rfl
theorem e_dup (N:Nat) (x:ST) (u:Unit) (h:SmS x) (hN:big≤N):s_l11Dup N (x,u)=some (!unlikeB x,()):=by
 unfold s_l11Dup unlikeB
 dsimp only
 rw [e_twice N _ () h.im hN,e_twice N _ () h.ex hN,e_s_namT N _ () h.ty hN,e_s_namD N _ () h.de hN,e_s_namD N _ () h.co hN,e_in N _ _ () h.im hN]
 dsimp only [oB]
 rw [e_twice N _ () (by rw [namT_len];exact h.ty) hN,e_twice N _ () (by rw [namD_len];exact h.de) hN,e_twice N _ () (by rw [namD_len];exact h.co) hN]
 dsimp only [oB]
 cases onceB x.2.1 <;> cases onceB x.2.2.1 <;> cases onceB (namT x.2.2.2.1) <;> cases onceB (namD x.2.2.2.2.1) <;> cases onceB (namD x.2.2.2.2.2.1) <;> simp
theorem e_areIn (N:Nat) (l m:List ByteArray) (u:Unit) (hl:l.length<big) (hm:m.length<big) (hN:big≤N):i_areIn N (l,m,u)=some (l.all (sIn m),()):=by
 have hb:big=1048577:=rfl
 unfold i_areIn
 dsimp only
 rw [loop_all l eS (sIn m) (b:=()) (c:=(false,())) (by omega) ?h ?hd (by omega)]
 case hd=>simp
 case h =>
  intro i hi
  dsimp only
  rw [if_pos (decide_eq_true (lt_cast hi)),if_pos (inB_nat.2 hi),tN,e_contains N m _ () hm hN]
  dsimp only [oB]
  cases sIn m (l.getD i eS) <;> rfl
 cases l.all (sIn m) <;> rfl
theorem e_fit (N:Nat) (x:ST) (u:Unit) (h:SmS x) (hN:big≤N):i_Src_isFit N (x,u)=some (fitB x,()):=by
 unfold i_Src_isFit fitB
 dsimp only
 rw [e_i_namD N _ () h.de hN,e_i_namD N _ () h.co hN,e_i_namT N _ () h.ty hN]
 dsimp only [oB]
 rw [e_areIn N _ _ () h.ex (by rw [namD_len];exact h.de) hN,e_areIn N _ _ () (by rw [namD_len];exact h.co) (by rw [namT_len];exact h.ty) hN]
 dsimp only [oB]
 cases x.2.2.1.all (sIn (namD x.2.2.2.2.1)) <;> rfl
theorem e_lacks (N:Nat) (x:ST) (u:Unit) (h:SmS x) (hN:big≤N):s_l11Lacks N (x,u)=some (!fitB x,()):=by
 have hb:big=1048577:=rfl
 have h1:=h.ex
 have h2:=h.co
 unfold s_l11Lacks fitB
 dsimp only
 rw [loop_allS x x.2.2.1 eS (sIn (namD x.2.2.2.2.1)) (b:=(x,())) (c:=(true,())) (by omega) ?h ?hd (by omega)]
 case hd=>simp
 case h =>
  intro i hi
  dsimp only
  rw [if_pos (decide_eq_true (lt_cast hi)),if_pos (inB_nat.2 hi),tN,e_s_namD N _ () h.de hN]
  dsimp only [oB]
  rw [e_in N _ _ () (by rw [namD_len];exact h.de) hN]
  dsimp only [oB]
  cases sIn (namD x.2.2.2.2.1) (x.2.2.1.getD i eS) <;> rfl
 cases x.2.2.1.all (sIn (namD x.2.2.2.2.1)) with
 | false=>rfl
 | true =>
  simp only [if_true,oB,Bool.true_and]
  rw [loop_allS x x.2.2.2.2.2.1 (bE,(([]:List NT),(0:Int),()),()) (fun t=>sIn (namT x.2.2.2.1) t.1) (b:=()) (c:=(true,())) (by omega) ?h ?hd (by omega)]
  case hd=>simp
  case h =>
   intro i hi
   dsimp only
   rw [if_pos (decide_eq_true (lt_cast hi)),if_pos (inB_nat.2 hi),tN,e_s_namT N _ () h.ty hN]
   dsimp only [oB]
   rw [e_in N _ _ () (by rw [namT_len];exact h.ty) hN]
   dsimp only [oB]
   cases sIn (namT x.2.2.2.1) (x.2.2.2.2.2.1.getD i (bE,(([]:List NT),(0:Int),()),())).1 <;> rfl
  have e:(namD x.2.2.2.2.2.1).all (sIn (namT x.2.2.2.1))=x.2.2.2.2.2.1.all (fun t=>sIn (namT x.2.2.2.1) t.1):=by
   unfold namD;rw [List.all_map];rfl
  rw [e]
  cases x.2.2.2.2.2.1.all (fun t=>sIn (namT x.2.2.2.1) t.1) <;> rfl
end Go.Rf
namespace Go.Rf
theorem namesB_eq (l:List ByteArray):namesB l=(l.all isName && onceB l):=by
 unfold namesB onceB
 rw [all_and',range_all_getD l eS isName]
theorem foldO_all {α β:Type} (p:α→Bool) (nm:α→β):∀ (l:List α) (i:Nat) (s:List β),foldO (fun _ s x=>if p x=true then some (s++[nm x]) else none) i s l=if l.all p=true then some (s++l.map nm) else none:=by
 intro l
 induction l with
 | nil=>intro i s;simp [foldO]
 | cons x l ih =>
  intro i s
  simp only [foldO]
  by_cases hp:p x=true
  ·have e1:(x::l).all p=l.all p:=by simp [hp]
   rw [if_pos hp,e1]
   simp only [oB]
   rw [ih]
   simp
  ·have e1:(x::l).all p=false:=by simp [hp]
   rw [if_neg hp,e1];rfl
def sizB (t:TT):Bool:=inI t.2.1 0 8
theorem e_typesOk (N:Nat) (l:List TT) (u:Unit) (hl:l.length<big) (hs:∀ t∈l,t.1.size<big) (hN:big≤N):i_typesOk N (l,u)=some (l.all sizB && (decide ((l.length:Int)≤8) && namesB (namT l)),()):=by
 have hb:big=1048577:=rfl
 unfold i_typesOk
 dsimp only
 rw [loop_foldM (fun (s:List ByteArray) (i:Nat)=>(s,(i:Int),())) (fun i s=>s.length=i) (fun _ s x=>if sizB x=true then some (s++[x.1]) else none) (fun s=>(s,())) (false,()) l (bE,(0:Int),()) ?h ?hs ?hd [] ([],0,()) rfl rfl (by omega)]
 case hs =>
  intro i s s' hi hs e
  split at e
  ·cases e;simp [hs]
  ·cases e
 case hd=>intro s hs;simp
 case h =>
  intro i s hi hs
  dsimp only
  rw [if_pos (decide_eq_true (lt_cast hi)),if_pos (inB_nat.2 hi),tN,if_pos (by simp;omega),e_i_inRange]
  dsimp only [oB]
  rw [wrap_nat (by omega),show (decide ((l.getD i (bE,(0:Int),())).2.1≥0) && decide ((l.getD i (bE,(0:Int),())).2.1≤8))=sizB (l.getD i (bE,(0:Int),())) from rfl]
  cases sizB (l.getD i (bE,(0:Int),())) <;> rfl
 rw [foldO_all]
 cases l.all sizB with
 | false=>rfl
 | true =>
  simp only [if_true,List.nil_append,Bool.true_and]
  have h1:(List.map (fun x=>x.1) l)=namT l:=rfl
  rw [h1,e_namesOk N (namT l) 8 () (by rw [namT_len];exact hl) (namT_small hs) hN,namT_len]
  rfl
theorem e_progsOk (N:Nat) (l:List DT) (u:Unit) (hl:l.length<big) (hs:∀ t∈l,t.1.size<big∧w_Prog t.2.1<big) (hN:big≤N):i_progsOk N (l,u)=some (l.all (fun t=>progB t.2.1),()):=by
 have hb:big=1048577:=rfl
 unfold i_progsOk
 dsimp only
 rw [loop_all l (bE,(([]:List NT),(0:Int),()),()) (fun t=>progB t.2.1) (b:=()) (c:=(false,())) (by omega) ?h ?hd (by omega)]
 case hd=>simp
 case h =>
  intro i hi
  dsimp only
  rw [if_pos (decide_eq_true (lt_cast hi)),if_pos (inB_nat.2 hi),tN,e_i_prog N _ () (hs _ (mem_getD (d:=(bE,(([]:List NT),(0:Int),()),())) hi)).2 hN]
  dsimp only [oB]
  cases progB (l.getD i (bE,(([]:List NT),(0:Int),()),())).2.1 <;> rfl
 cases l.all (fun t=>progB t.2.1) <;> rfl
theorem e_all (N:Nat) (l:List ByteArray) (u:Unit) (hl:l.length<big) (hs:∀ s∈l,s.size<big) (hN:big≤N):s_l11All N (l,u)=some (l.all isName,()):=by
 have hb:big=1048577:=rfl
 unfold s_l11All
 dsimp only
 rw [loop_all l bE isName (b:=()) (c:=(false,())) (by omega) ?h ?hd (by omega)]
 case hd=>simp
 case h =>
  intro i hi
  have h2:=hs _ (mem_getD (d:=bE) hi)
  simp only [lt_cast hi,decide_true,if_true,inB_nat,hi,tN]
  rw [e_s_IsName N _ (show (l.getD i bE).size<_ by omega) (show (l.getD i bE).size<N by omega) (by omega)]
  simp only [oB]
  cases isName (l.getD i bE) <;> rfl
 cases l.all isName <;> rfl
def srcB (x:ST):Bool:=isName x.1 && (fewB x && (unlikeB x && (fitB x && (x.2.1.all isName && (x.2.2.1.all isName && ((namT x.2.2.2.1).all isName && ((namD x.2.2.2.2.1).all isName && ((namD x.2.2.2.2.2.1).all isName && (x.2.2.2.1.all sizB && (x.2.2.2.2.1.all (fun t=>progB t.2.1) && x.2.2.2.2.2.1.all (fun t=>progB t.2.1)))))))))))
theorem few_types {x:ST} (h:fewB x=true):decide ((x.2.2.2.1.length:Int)≤8)=true:=by
 unfold fewB at h
 simp only [bA] at h
 exact h.1.2
theorem unlike_types {x:ST} (h:unlikeB x=true):onceB (namT x.2.2.2.1)=true:=by
 unfold unlikeB at h
 simp only [bA] at h
 exact h.2.2.1
theorem e_i_src (N:Nat) (x:ST) (u:Unit) (h:SmS x) (hN:big≤N):i_SrcOk N (x,u)=some (srcB x,()):=by
 have hb:big=1048577:=rfl
 have h1:=h.nm
 unfold i_SrcOk srcB
 dsimp only
 rw [e_i_IsName N (x.1,()) (show x.1.size<_ by omega) (show x.1.size<N by omega),e_few,e_unlike N x () h hN,e_fit N x () h hN,e_i_allNames N (x.2.1,()) h.im h.imS hN,e_i_allNames N (x.2.2.1,()) h.ex h.exS hN,
  e_i_namD N _ () h.de hN,e_i_namD N _ () h.co hN,e_typesOk N _ () h.ty h.tyS hN,e_progsOk N _ () h.de h.deS hN,e_progsOk N _ () h.co h.coS hN]
 dsimp only [oB]
 rw [e_i_allNames N (namD x.2.2.2.2.1,()) (by rw [namD_len];exact h.de) (namD_small h.deS) hN,e_i_allNames N (namD x.2.2.2.2.2.1,()) (by rw [namD_len];exact h.co) (namD_small h.coS) hN]
 dsimp only [oB]
 rw [namesB_eq]
 cases hf:fewB x with
 | false=>cases isName x.1 <;> rfl
 | true =>
  cases hu:unlikeB x with
  | false=>cases isName x.1 <;> rfl
  | true =>
   rw [few_types hf,unlike_types hu]
   simp only [Bool.true_and,Bool.and_true,bN,bF,if_false]
   cases isName x.1 <;> cases fitB x <;> cases x.2.1.all isName <;> cases x.2.2.1.all isName <;> cases (namD x.2.2.2.2.1).all isName <;> cases (namD x.2.2.2.2.2.1).all isName <;> cases (namT x.2.2.2.1).all isName <;> cases x.2.2.2.1.all sizB <;> first | rfl | (cases x.2.2.2.2.1.all (fun t=>progB t.2.1) <;> rfl)
theorem e_s_src (N:Nat) (x:ST) (u:Unit) (h:SmS x) (hN:big≤N):s_SrcOk N (x,u)=some (srcB x,()):=by
 have hb:big=1048577:=rfl
 have h1:=h.nm
 have h2:=h.ty
 have h3:=h.de
 have h4:=h.co
 unfold s_SrcOk srcB
 dsimp only
 rw [e_s_IsName N (x.1,()) (show x.1.size<_ by omega) (show x.1.size<N by omega) (by omega),e_many,e_dup N x () h hN,e_lacks N x () h hN,e_all N x.2.1 () h.im h.imS hN,e_all N x.2.2.1 () h.ex h.exS hN,
  e_s_namT N _ () h.ty hN,e_s_namD N _ () h.de hN,e_s_namD N _ () h.co hN]
 dsimp only [oB]
 rw [e_all N (namT x.2.2.2.1) () (by rw [namT_len];exact h.ty) (namT_small h.tyS) hN,e_all N (namD x.2.2.2.2.1) () (by rw [namD_len];exact h.de) (namD_small h.deS) hN,e_all N (namD x.2.2.2.2.2.1) () (by rw [namD_len];exact h.co) (namD_small h.coS) hN]
 dsimp only [oB]
 rw [loop_allS x x.2.2.2.1 (bE,(0:Int),()) sizB (b:=(x,())) (c:=(false,())) (by omega) ?h ?hd (by omega)]
 case hd=>simp
 case h =>
  intro i hi
  dsimp only
  rw [if_pos (decide_eq_true (lt_cast hi)),if_pos (inB_nat.2 hi),tN,e_s_l1In]
  dsimp only [oB]
  rw [show (decide ((x.2.2.2.1.getD i (bE,(0:Int),())).2.1≥0) && decide ((x.2.2.2.1.getD i (bE,(0:Int),())).2.1≤8))=sizB (x.2.2.2.1.getD i (bE,(0:Int),())) from rfl]
  cases sizB (x.2.2.2.1.getD i (bE,(0:Int),())) <;> rfl
 have hrest:(Option.bind (if x.2.2.2.1.all sizB=true then some (Sum.inl (x,())) else some (Sum.inr (false,())):Option ((ST×Unit) ⊕ (Bool×Unit))) fun r=>some r)=some (if x.2.2.2.1.all sizB=true then .inl (x,()) else .inr (false,())):=by
  split <;> rfl
 clear hrest
 cases hz:x.2.2.2.1.all sizB with
 | false =>
  simp only [bF,if_false,oB,Bool.false_and,Bool.and_false]
  cases isName x.1 <;> cases fewB x <;> cases unlikeB x <;> cases fitB x <;> cases x.2.1.all isName <;> cases x.2.2.1.all isName <;> cases (namT x.2.2.2.1).all isName <;> cases (namD x.2.2.2.2.1).all isName <;> cases (namD x.2.2.2.2.2.1).all isName <;> rfl
 | true =>
  simp only [if_true,oB,Bool.true_and]
  rw [loop_allS x x.2.2.2.2.1 (bE,(([]:List NT),(0:Int),()),()) (fun t=>progB t.2.1) (b:=(x,())) (c:=(false,())) (by omega) ?h ?hd (by omega)]
  case hd=>simp
  case h =>
   intro i hi
   dsimp only
   rw [if_pos (decide_eq_true (lt_cast hi)),if_pos (inB_nat.2 hi),tN,e_s_prog N _ () (h.deS _ (mem_getD (d:=(bE,(([]:List NT),(0:Int),()),())) hi)).2 hN]
   dsimp only [oB]
   cases progB (x.2.2.2.2.1.getD i (bE,(([]:List NT),(0:Int),()),())).2.1 <;> rfl
  cases hp:x.2.2.2.2.1.all (fun t=>progB t.2.1) with
  | false =>
   simp only [bF,if_false,oB,Bool.false_and,Bool.and_false]
   cases isName x.1 <;> cases fewB x <;> cases unlikeB x <;> cases fitB x <;> cases x.2.1.all isName <;> cases x.2.2.1.all isName <;> cases (namT x.2.2.2.1).all isName <;> cases (namD x.2.2.2.2.1).all isName <;> cases (namD x.2.2.2.2.2.1).all isName <;> rfl
  | true =>
   simp only [if_true,oB,Bool.true_and]
   rw [loop_allS x x.2.2.2.2.2.1 (bE,(([]:List NT),(0:Int),()),()) (fun t=>progB t.2.1) (b:=()) (c:=(false,())) (by omega) ?h ?hd (by omega)]
   case hd=>simp
   case h =>
    intro i hi
    dsimp only
    rw [if_pos (decide_eq_true (lt_cast hi)),if_pos (inB_nat.2 hi),tN,e_s_prog N _ () (h.coS _ (mem_getD (d:=(bE,(([]:List NT),(0:Int),()),())) hi)).2 hN]
    dsimp only [oB]
    cases progB (x.2.2.2.2.2.1.getD i (bE,(([]:List NT),(0:Int),()),())).2.1 <;> rfl
   cases isName x.1 <;> cases fewB x <;> cases unlikeB x <;> cases fitB x <;> cases x.2.1.all isName <;> cases x.2.2.1.all isName <;> cases (namT x.2.2.2.1).all isName <;> cases (namD x.2.2.2.2.1).all isName <;> first | rfl | (cases (namD x.2.2.2.2.2.1).all isName <;> cases x.2.2.2.2.2.1.all (fun t=>progB t.2.1) <;> rfl)
end Go.Rf
namespace Go.Rf
theorem loop_foldl {α σ A B C D:Type}{f:A→Option (Step A B C)}{K:B ⊕ C→Option D} (enc:σ→Nat→A) (J:Nat→σ→Prop) (g:σ→α→σ) (b:σ→B) (l:List α) (d:α)
  (h:∀ i s,i<l.length→J i s→f (enc s i)=some (.more (enc (g s (l.getD i d)) (i+1)))∧J (i+1) (g s (l.getD i d)))
  (hd:∀ s,J l.length s→f (enc s l.length)=some (.done (b s))){N:Nat} (s:σ) (x0:A) (hx:x0=enc s 0) (hJ:J 0 s) (hN:l.length<N) :
  (iter f N x0).bind K=K (.inl (b (l.foldl g s)))∧J l.length (l.foldl g s):=by
 have key:∀ (suf:List α) (i:Nat) (s:σ) (N:Nat),i≤l.length→l.drop i=suf→J i s→suf.length<N→iter f N (enc s i)=some (.inl (b (suf.foldl g s)))∧J l.length (suf.foldl g s):=by
  intro suf
  induction suf with
  | nil =>
   intro i s N hi hdr hJ hN
   obtain ⟨N,rfl⟩:∃ k,N=k+1:=⟨N-1,by simp at hN;omega⟩
   have:i=l.length:=by
    have:=congrArg List.length hdr
    simp at this;omega
   subst this
   exact ⟨by simp only [iter,hd s hJ,List.foldl_nil],hJ⟩
  | cons x suf ih =>
   intro i s N hi hdr hJ hN
   obtain ⟨N,rfl⟩:∃ k,N=k+1:=⟨N-1,by simp at hN;omega⟩
   have hil:i<l.length:=by
    have:=congrArg List.length hdr
    simp at this;omega
   have hx:l.getD i d=x:=by
    rw [getD_lt hil]
    have:=List.drop_eq_getElem_cons hil
    rw [hdr] at this
    exact (List.cons.inj this).1.symm
   have hdr':l.drop (i+1)=suf:=by
    have:=List.drop_eq_getElem_cons hil
    rw [hdr] at this
    exact (List.cons.inj this).2.symm
   obtain ⟨e1,hJ1⟩:=h i s hil hJ
   rw [hx] at e1 hJ1
   obtain ⟨k1,k2⟩:=ih (i+1) (g s x) N hil hdr' hJ1 (by simp at hN;omega)
   exact ⟨by simp only [iter,e1,List.foldl_cons];exact k1,k2⟩
 subst hx
 obtain ⟨k1,k2⟩:=key l 0 s N (Nat.zero_le _) rfl hJ hN
 exact ⟨by rw [k1];rfl,k2⟩
end Go.Rf
