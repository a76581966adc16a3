/-
  Sources of libraries: their weight, their copies, their likeness, their marks.
-/
import Derived.Test.YtcgneindmpkhgaaGreatDoorRLaw
import Derived.Test.YtcgneindmpkhgaaGreatDoorRNat
set_option linter.unusedSimpArgs false
set_option linter.unusedVariables false
set_option autoImplicit false
namespace Go.Rf
def Ok {α:Type} (o:Option α) (R:α→Prop):Prop:=∃ y,o=some y∧R y
theorem Ok.some {α:Type}{x:α}{R:α→Prop} (h:R x):Ok (some x) R:=⟨x,rfl,h⟩
theorem Ok.mono {α:Type}{o:Option α}{R R':α→Prop} (h:Ok o R) (hR:∀ x,R x→R' x):Ok o R':=by
 obtain ⟨y,e,hy⟩:=h;exact ⟨y,e,hR y hy⟩
theorem Ok.bind {α β:Type}{o:Option α}{K:α→Option β}{R:β→Prop}{P:α→Prop} (h:Ok o P) (hK:∀ y,P y→Ok (K y) R):Ok (o.bind K) R:=by
 obtain ⟨y,rfl,hy⟩:=h;exact hK y hy
theorem Ok.ite {α:Type}{c:Prop}{i:Decidable c}{a b:Option α}{R:α→Prop} (h1:c→Ok a R) (h2:¬ c→Ok b R):Ok (if c then a else b) R:=by
 by_cases h:c
 ·rw [if_pos h];exact h1 h
 ·rw [if_neg h];exact h2 h
theorem Ok.pos {α:Type}{c:Prop}{i:Decidable c}{a b:Option α}{R:α→Prop} (hc:c) (h1:Ok a R):Ok (if c then a else b) R:=by
 rw [if_pos hc];exact h1
theorem Ok.iter {A B C D:Type}{f:A→Option (Step A B C)}{K:B ⊕ C→Option D}{R:D→Prop} (J:A→Prop) (m:A→Nat) (Q:B ⊕ C→Prop){N:Nat}{x:A}
  (h:∀ x,J x→Ok (f x) fun s=>match s with
   | .more y=>J y∧m y<m x
   | .done b=>Q (.inl b)
   | .ret c=>Q (.inr c)) (hx:J x) (hm:m x<N) (hK:∀ r,Q r→Ok (K r) R):Ok ((Rf.iter f N x).bind K) R:=by
 obtain ⟨r,e,hq⟩:=iter_inv J m Q h hx hm
 rw [e];exact hK r hq
end Go.Rf
namespace Go.Rf
def mkL {α:Type} (mk:Int→α→α) (st:α→Int):Int→List α→List α
 | _,[]=>[]
 | m,x::xs=>mk m x::mkL mk st (m+st x) xs
def sumL {α:Type} (st:α→Int):List α→Int
 | []=>0
 | x::xs=>st x+sumL st xs
theorem mkL_length {α:Type}{mk:Int→α→α}{st:α→Int}:∀ (l:List α) (m:Int),(mkL mk st m l).length=l.length:=by
 intro l
 induction l with
 | nil=>intro m;rfl
 | cons x l ih=>intro m;simp [mkL,ih]
theorem sumL_nonneg {α:Type}{st:α→Int} (h:∀ x,0≤st x):∀ l:List α,0≤sumL st l:=by
 intro l
 induction l with
 | nil=>simp [sumL]
 | cons x l ih=>have:=h x;simp only [sumL];omega
theorem loop_marks {α C:Type}{f:List α×Int×Int×Unit→Option (Step (List α×Int×Int×Unit) (List α×Int×Unit) C)}{mk:Int→α→α}{st:α→Int} (h0:∀ x,0≤st x){P:α→Prop}{B:Int}
  (hstep:∀ pre x post m,P x→pre.length+post.length<big→0<m→m+st x≤B→f (pre++x::post,m,(pre.length:Int),())=some (.more (pre++mk m x::post,m+st x,((pre.length+1:Nat):Int),())))
  (hdone:∀ l m,f (l,m,(l.length:Int),())=some (.done (l,m,()))):∀ (l pre:List α) (m:Int) (N:Nat),(∀ x∈l,P x)→pre.length+l.length<big→0<m→m+sumL st l≤B→l.length<N →
   iter f N (pre++l,m,(pre.length:Int),())=some (.inl (pre++mkL mk st m l,m+sumL st l,())):=by
 intro l
 induction l with
 | nil =>
  intro pre m N _ _ _ _ hN
  obtain ⟨N,rfl⟩:∃ k,N=k+1:=⟨N-1,by simp at hN;omega⟩
  simp only [List.append_nil,iter,hdone,mkL,sumL,Int.add_zero]
 | cons x l ih =>
  intro pre m N hP hlen hm hB hN
  obtain ⟨N,rfl⟩:∃ k,N=k+1:=⟨N-1,by simp at hN;omega⟩
  simp only [sumL] at hB
  simp only [List.length_cons] at hlen hN
  have hs:=sumL_nonneg h0 l
  have hx:=h0 x
  simp only [iter]
  rw [hstep pre x l m (hP x (by simp)) (by omega) hm (by omega)]
  simp only
  have:=ih (pre++[mk m x]) (m+st x) N (fun y hy=>hP y (by simp [hy])) (by simp;omega) (by omega) (by omega) (by omega)
  simp only [List.append_assoc,List.singleton_append,List.length_append,List.length_singleton] at this
  rw [this]
  simp only [mkL,sumL]
  rw [Int.add_assoc]
theorem loop_held {α C:Type}{t:List α}{f:Int×Int×Unit→Option (Step (Int×Int×Unit) (Int×Unit) C)}{mk:Int→α→α}{st:α→Int} (h0:∀ x,0≤st x){P:α→Prop}{B:Int}
  (hstep:∀ pre x post m,t=pre++mk m x::post→P x→pre.length+post.length<big→0<m→m+st x≤B→f (m,(pre.length:Int),())=some (.more (m+st x,((pre.length+1:Nat):Int),())))
  (hdone:∀ m,f (m,(t.length:Int),())=some (.done (m,()))):∀ (l pre:List α) (m:Int) (N:Nat),t=pre++mkL mk st m l→(∀ x∈l,P x)→pre.length+l.length<big→0<m→m+sumL st l≤B→l.length<N →
   iter f N (m,(pre.length:Int),())=some (.inl (m+sumL st l,())):=by
 intro l
 induction l with
 | nil =>
  intro pre m N ht _ _ _ _ hN
  obtain ⟨N,rfl⟩:∃ k,N=k+1:=⟨N-1,by simp at hN;omega⟩
  have e:pre.length=t.length:=by rw [ht];simp [mkL]
  simp only [iter,e,hdone,sumL,Int.add_zero]
 | cons x l ih =>
  intro pre m N ht hP hlen hm hB hN
  obtain ⟨N,rfl⟩:∃ k,N=k+1:=⟨N-1,by simp at hN;omega⟩
  simp only [sumL] at hB
  simp only [List.length_cons] at hlen hN
  have hs:=sumL_nonneg h0 l
  have hx:=h0 x
  simp only [iter]
  rw [hstep pre x (mkL mk st (m+st x) l) m ht (hP x (by simp)) (by rw [mkL_length];omega) hm (by omega)]
  simp only
  have:=ih (pre++[mk m x]) (m+st x) N (by rw [ht];simp [mkL]) (fun y hy=>hP y (by simp [hy])) (by simp;omega) (by omega) (by omega) (by omega)
  simp only [List.length_append,List.length_singleton] at this
  rw [this]
  simp only [sumL]
  rw [Int.add_assoc]
def capB:Int:=1152921504606846976
theorem p_markText (N:Nat) (m:Int) (hm:0<m) (hB:m≤capB) (hN:lim<N):Ok (l_markText N (m,())) fun _=>True:=by
 have hlim:lim=9223372036854775807:=rfl
 have hcap:capB=1152921504606846976:=rfl
 unfold l_markText
 dsimp only
 rw [if_neg (by simpa using hm)]
 refine Ok.iter (fun s=>0≤s.1∧(s.2.1.size:Int)+s.1≤capB) (fun s=>s.1.toNat) (fun r=>match r with
  | .inl y=>(y.1.size:Int)≤capB
  | .inr z=>True) ?_ ⟨by omega,by show ((ByteArray.mk #[]).size:Int)+m≤capB;simp [ByteArray.size];omega⟩ (by show m.toNat<N;omega) ?_
 ·rintro ⟨n,s,⟨⟩⟩ ⟨j1,j2⟩
  simp only at j1 j2
  dsimp only
  have hsz:(ofBytes [IntKind.wrap .u8 (wI (48+Int.tmod n 10))]).size=1:=by simp [ofBytes,ByteArray.size]
  refine Ok.ite (fun hc=>?_) (fun hc=>?_)
  ·have hc:0<n:=by simpa using hc
   have hd:wI (Int.tdiv n 10)=n / 10:=by
    rw [Int.tdiv_eq_ediv_of_nonneg j1];exact wrap_id (by omega) (by omega)
   refine Ok.pos (by rw [hsz];omega) (Ok.some ⟨⟨?_,?_⟩,?_⟩)
   ·show 0≤wI (Int.tdiv n 10)
    rw [hd];omega
   ·show (((_++s:ByteArray).size:Nat):Int)+wI (Int.tdiv n 10)≤capB
    rw [hd,ByteArray.size_append,hsz];omega
   ·show (wI (Int.tdiv n 10)).toNat<n.toNat
    rw [hd];omega
  ·exact Ok.some (by show (s.size:Int)≤capB;omega)
 ·rintro (⟨s,⟨⟩⟩ | z) hq
  ·simp only at hq
   dsimp only
   refine Ok.pos ?_ (Ok.some trivial)
   have:(ByteArray.mk #[109]).size=1:=rfl
   omega
  ·exact Ok.some trivial
def txt (N:Nat) (m:Int):ByteArray:=((l_markText N (m,())).map (·.1)).getD bE
theorem e_markText {N:Nat}{m:Int} (hm:0<m) (hB:m≤capB) (hN:lim<N):l_markText N (m,())=some (txt N m,()):=by
 obtain ⟨⟨s,⟨⟩⟩,e,_⟩:=p_markText N m hm hB hN
 unfold txt
 rw [e];rfl
theorem getD_mid {α:Type}{pre post:List α}{x d:α}:(pre++x::post).getD (Int.toNat (pre.length:Int)) d=x:=by
 rw [tN,List.getD_eq_getElem?_getD,List.getElem?_append_right (by omega)];simp
theorem set_mid {α:Type}{pre post:List α}{x y:α}:(pre++x::post).set (Int.toNat (pre.length:Int)) y=pre++y::post:=by
 rw [tN,List.set_append_right _ _ (by omega)];simp
theorem inB_mid {α:Type}{pre post:List α}{x:α}:inB (pre.length:Int) (pre++x::post).length:=inB_nat.2 (by simp)
theorem lt_mid {α:Type}{pre post:List α}{x:α}:decide ((pre.length:Int)<((pre++x::post).length:Int))=true:=by simp;omega
theorem wrap_mid {n:Nat}{k:Nat} (h:n+k<big):wI ((n:Int)+1)=((n+1:Nat):Int):=by
 have:big=1048577:=rfl
 exact wrap_nat (by omega)
theorem wrap_cap {m:Int} (h0:0≤m) (h1:m≤capB+10):wI m=m:=by
 have:capB=1152921504606846976:=rfl
 exact wrap_id (by omega) (by omega)
section
variable {N:Nat} (hN:lim<N)
include hN
def mS (N:Nat) (m:Int) (_:ByteArray):ByteArray:=txt N m
theorem e_markStringS (l:List ByteArray) (m:Int) (hm:0<m) (hB:m+sumL (fun _=>1) l≤capB) (hl:l.length<big):l_markStringS N (l,m,())=some (m+sumL (fun _=>1) l,mkL (mS N) (fun _=>1) m l,()):=by
 have hlim:lim=9223372036854775807:=rfl
 have hbig:big=1048577:=rfl
 unfold l_markStringS
 dsimp only
 have:=loop_marks (C:=Int×List ByteArray×Unit) (f:=fun s1=>(if (decide (s1.2.2.1<(List.length s1.1:Int)))=true then
   (l_markText N (s1.2.1,())).bind fun r2 =>
   (if inB s1.2.2.1 (List.length s1.1) then
   ((some (List.set s1.1 (Int.toNat s1.2.2.1) r2.1):Option (List (ByteArray)))).bind fun a3 =>
   some (Step.more (a3,wI (s1.2.1+1),wI (s1.2.2.1+1),())) else none) else
   some (Step.done (s1.1,s1.2.1,())))) (mk:=mS N) (st:=fun _=>1) (fun _=>by omega) (P:=fun _=>True) (B:=capB)
  (fun pre x post m _ hlen hm hB=>by
   dsimp only
   rw [if_pos lt_mid,e_markText hm (by omega) hN]
   dsimp only [oB]
   rw [if_pos inB_mid,set_mid,wrap_mid hlen,wrap_cap (by omega) (by omega)]
   rfl)
  (fun l m=>by dsimp only;rw [if_neg (by simp)]) l [] m N (fun _ _=>trivial) (by simpa using hl) hm hB (by omega)
 simp only [List.nil_append,List.length_nil] at this
 have e0:((0:Nat):Int)=0:=rfl
 rw [e0] at this
 rw [this]
 rfl
end
end Go.Rf
namespace Go.Rf
def sumW {α:Type} (w:α→Nat):List α→Nat
 | []=>0
 | x::xs=>w x+sumW w xs
def wL {α:Type} (w:α→Nat) (l:List α):Nat:=l.length+sumW w l
theorem sumW_mem {α:Type}{w:α→Nat}{x:α}:∀ {l:List α},x∈l→w x≤sumW w l:=by
 intro l
 induction l with
 | nil=>intro h;cases h
 | cons y l ih =>
  intro h
  simp only [sumW]
  rcases List.mem_cons.1 h with rfl | h
  ·omega
  ·have:=ih h;omega
theorem sumW_getD {α:Type}{w:α→Nat}{l:List α}{d:α}{i:Nat} (h:i<l.length):w (l.getD i d)≤sumW w l:=sumW_mem (mem_getD h)
theorem sumW_append {α:Type}{w:α→Nat}:∀ (a b:List α),sumW w (a++b)=sumW w a+sumW w b:=by
 intro a b
 induction a with
 | nil=>simp [sumW]
 | cons x a ih=>simp only [List.cons_append,sumW,ih];omega
theorem sumW_take {α:Type}{w:α→Nat}{l:List α}{d:α}{i:Nat} (h:i<l.length):sumW w (l.take (i+1))=sumW w (l.take i)+w (l.getD i d):=by
 have e:l.take (i+1)=l.take i++[l[i]]:=by rw [List.take_add_one,List.getElem?_eq_getElem h];rfl
 rw [e,sumW_append,getD_lt h]
 simp [sumW]
def Sz (o:Option (Int×Unit)) (left:Int) (w:Nat):Prop:=o=some (-1,())∨(o=some (left-(w:Int),())∧(w:Int)≤left)
theorem Sz.ret {left:Int} (h:0≤left):Sz (some (left,())) left 0:=.inr ⟨by simp,by omega⟩
theorem Sz.sub {left:Int}{n w:Nat}{K:Option (Int×Unit)} (h0:0≤left) (h:(n:Int)≤left→Sz K (left-(n:Int)) w):Sz (if decide (left-(n:Int)<0)=true then some (-1,()) else K) left (n+w):=by
 by_cases hc:left-(n:Int)<0
 ·rw [if_pos (by simpa using hc)];exact .inl rfl
 ·rw [if_neg (by simpa using hc)]
  rcases h (by omega) with e | ⟨e,h2⟩
  ·exact .inl e
  ·refine .inr ⟨?_,by omega⟩
   rw [e,show left-(n:Int)-(w:Int)=left-((n+w:Nat):Int) by omega]
theorem Sz.step {o:Option (Int×Unit)}{left:Int}{w w':Nat}{K:Int×Unit→Option (Int×Unit)} (h1:Sz o left w) (h:(w:Int)≤left→Sz (K (left-(w:Int),())) (left-(w:Int)) w') :
  Sz (o.bind fun r=>if decide (r.1<0)=true then some (-1,()) else K r) left (w+w'):=by
 rcases h1 with e | ⟨e,h2⟩
 ·rw [e];exact .inl rfl
 ·rw [e]
  dsimp only [oB]
  rw [if_neg (by simp;omega)]
  rcases h h2 with e | ⟨e,h3⟩
  ·exact .inl e
  ·refine .inr ⟨?_,by omega⟩
   rw [e,show left-(w:Int)-(w':Int)=left-((w+w':Nat):Int) by omega]
theorem Sz.loop {α:Type}{f:Int×Int×Unit→Option (Step (Int×Int×Unit) (Int×Unit) (Int×Unit))}{K:(Int×Unit) ⊕ (Int×Unit)→Option (Int×Unit)} (l:List α) (d:α) (w:α→Nat){N:Nat}{left:Int}
  (h0:0≤left) (hB:left≤1048576) (hN:l.length<N)
  (h:∀ i left,i<l.length→0≤left→left≤1048576→f (left,(i:Int),())=some (.ret (-1,()))∨(f (left,(i:Int),())=some (.more (left-(w (l.getD i d):Int),((i+1:Nat):Int),()))∧(w (l.getD i d):Int)≤left))
  (hd:∀ left,f (left,(l.length:Int),())=some (.done (left,()))) (hK1:K (.inr (-1,()))=some (-1,())) (hK2:∀ r,K (.inl (r,()))=some (r,())) :
  Sz ((iter f N (left,0,())).bind K) left (sumW w l):=by
 have key:=iter_inv (f:=f) (fun s=>∃ i:Nat,s.2.1=(i:Int)∧i≤l.length∧s.1=left-(sumW w (l.take i):Int)∧(sumW w (l.take i):Int)≤left) (fun s=>l.length-s.2.1.toNat)
  (fun r=>r=.inr (-1,())∨(r=.inl (left-(sumW w l:Int),())∧(sumW w l:Int)≤left)) (N:=N) (x:=(left,0,())) ?_ ⟨0,rfl,by omega,by simp [sumW],by simpa [sumW] using h0⟩ (by simp;omega)
 ·obtain ⟨r,hr,h1 | ⟨h1,h2⟩⟩:=key
  ·exact .inl (by rw [hr,h1];exact hK1)
  ·exact .inr ⟨by rw [hr,h1];exact hK2 _,h2⟩
 ·rintro ⟨lf,i',u⟩ ⟨i,hi,hil,hl,hle⟩
  simp only at hi hl
  subst hi hl
  rcases Nat.lt_or_ge i l.length with hlt | hge
  ·rcases h i (left-(sumW w (l.take i):Int)) hlt (by omega) (by omega) with h1 | ⟨h1,h2⟩
   ·exact ⟨_,h1,.inl rfl⟩
   ·have e:=sumW_take (w:=w) (d:=d) hlt
    refine ⟨_,h1,⟨i+1,rfl,hlt,?_,?_⟩,?_⟩
    ·simp only;rw [e];omega
    ·rw [e];omega
    ·simp only [tN];omega
  ·have:i=l.length:=by omega
   subst this
   refine ⟨_,hd _,.inr ⟨?_,?_⟩⟩
   ·rw [List.take_length]
   ·rwa [List.take_length] at hle
theorem loop_mark {α C:Type}{f:List α×Int×Int×Unit→Option (Step (List α×Int×Int×Unit) (List α×Int×Unit) C)}{c:α→Nat}{P:α→Prop}{B:Int}
  (hstep:∀ pre x post m,P x→pre.length+post.length<big→0<m→m+(c x:Int)≤B→∃ x' m',f (pre++x::post,m,(pre.length:Int),())=some (.more (pre++x'::post,m',((pre.length+1:Nat):Int),()))∧m≤m'∧m'≤m+(c x:Int))
  (hdone:∀ l m,f (l,m,(l.length:Int),())=some (.done (l,m,()))):∀ (l pre:List α) (m:Int) (N:Nat),(∀ x∈l,P x)→pre.length+l.length<big→0<m→m+(sumW c l:Int)≤B→l.length<N →
   ∃ l' m',iter f N (pre++l,m,(pre.length:Int),())=some (.inl (l',m',()))∧m≤m'∧m'≤m+(sumW c l:Int):=by
 intro l
 induction l with
 | nil =>
  intro pre m N _ _ _ _ hN
  obtain ⟨N,rfl⟩:∃ k,N=k+1:=⟨N-1,by simp at hN;omega⟩
  refine ⟨pre,m,?_,Int.le_refl _,by simp [sumW]⟩
  simp only [List.append_nil,iter,hdone]
 | cons x l ih =>
  intro pre m N hP hlen hm hB hN
  obtain ⟨N,rfl⟩:∃ k,N=k+1:=⟨N-1,by simp at hN;omega⟩
  simp only [sumW] at hB ⊢
  simp only [List.length_cons] at hlen hN
  obtain ⟨x',m1,e1,h1,h2⟩:=hstep pre x l m (hP x (by simp)) (by omega) hm (by omega)
  obtain ⟨l',m',e2,h3,h4⟩:=ih (pre++[x']) m1 N (fun y hy=>hP y (by simp [hy])) (by simp;omega) (by omega) (by omega) (by omega)
  simp only [List.append_assoc,List.singleton_append,List.length_append,List.length_singleton] at e2
  refine ⟨l',m',?_,by omega,by omega⟩
  simp only [iter]
  rw [e1]
  exact e2
theorem sumW_le {α:Type}{c w:α→Nat}{k b:Nat} (hb:b≤k) (h:∀ x,c x≤b+k*w x):∀ l:List α,sumW c l≤k*wL w l:=by
 intro l
 have key:sumW c l≤k*l.length+k*sumW w l:=by
  induction l with
  | nil=>simp [sumW]
  | cons x l ih =>
   have:=h x
   simp only [sumW,List.length_cons,Nat.mul_add,Nat.mul_one]
   omega
 simp only [wL,Nat.mul_add]
 exact key
end Go.Rf
namespace Go.Rf
def wStr (s:ByteArray):Nat:=s.size
abbrev TT:=ByteArray×Int×Unit
def w_Type (x:TT):Nat:=(x.1.size+0)
def F_Type (x:TT):Prop:=x.1.size≤lim
abbrev NT:=Int×Int×ByteArray×List ByteArray×List Int×Unit
def w_Node (x:NT):Nat:=(x.2.2.1.size+(wL wStr x.2.2.2.1+(x.2.2.2.2.1.length+0)))
def F_Node (x:NT):Prop:=x.2.2.1.size≤lim∧(x.2.2.2.1.length≤lim∧∀ s∈x.2.2.2.1,s.size≤lim)∧x.2.2.2.2.1.length≤lim
abbrev PT:=List NT×Int×Unit
def w_Prog (x:PT):Nat:=(wL w_Node x.1+0)
def F_Prog (x:PT):Prop:=(x.1.length≤lim∧∀ s∈x.1,F_Node s)
abbrev DT:=ByteArray×PT×Unit
def w_Def (x:DT):Nat:=(x.1.size+(w_Prog x.2.1+0))
def F_Def (x:DT):Prop:=x.1.size≤lim∧F_Prog x.2.1
abbrev ST:=ByteArray×List ByteArray×List ByteArray×List TT×List DT×List DT×Unit
def w_Src (x:ST):Nat:=(x.1.size+(wL wStr x.2.1+(wL wStr x.2.2.1+(wL w_Type x.2.2.2.1+(wL w_Def x.2.2.2.2.1+(wL w_Def x.2.2.2.2.2.1+0))))))
def F_Src (x:ST):Prop:=x.1.size≤lim∧(x.2.1.length≤lim∧∀ s∈x.2.1,s.size≤lim)∧(x.2.2.1.length≤lim∧∀ s∈x.2.2.1,s.size≤lim)∧(x.2.2.2.1.length≤lim∧∀ s∈x.2.2.2.1,F_Type s)∧(x.2.2.2.2.1.length≤lim∧∀ s∈x.2.2.2.2.1,F_Def s)∧(x.2.2.2.2.2.1.length≤lim∧∀ s∈x.2.2.2.2.2.1,F_Def s)
theorem p_szIntS {N:Nat} (l:List Int) (left:Int) (u:Unit) (h0:0≤left) (hB:left≤1048576) (hl:l.length≤lim)  (hN:lim<N):Sz (l_szIntS N (l,left,u)) left (l.length):=by
 have hlim:lim=9223372036854775807:=rfl
 unfold l_szIntS
 dsimp only
 rw [wrap_sub h0 hB hl]
 refine Sz.sub (w:=0) h0 (fun k1=>Sz.ret (by omega))
theorem p_szStrS {N:Nat} (l:List ByteArray) (left:Int) (u:Unit) (h0:0≤left) (hB:left≤1048576) (hl:l.length≤lim) (hs:∀ s∈l,s.size≤lim) (hN:lim<N):Sz (l_szStringS N (l,left,u)) left (wL wStr l):=by
 have hlim:lim=9223372036854775807:=rfl
 unfold l_szStringS
 dsimp only
 rw [wrap_sub h0 hB hl]
 refine Sz.sub h0 (fun k1=>?_)
 refine Sz.loop l bE wStr (by omega) (by omega) (by omega) ?h ?hd rfl (fun r=>rfl)
 case h =>
  intro i lf hi hl0 hlB
  have hm:l.getD i bE∈l:=mem_getD hi
  have hsz:=hs _ hm
  dsimp only
  rw [tN,if_pos (decide_eq_true (lt_cast hi)),if_pos (inB_nat.2 hi),wrap_nat (by omega),wrap_sub hl0 hlB hsz]
  by_cases hn2:lf-((l.getD i bE).size:Int)<0
  ·left;rw [if_pos (decide_eq_true hn2)]
  ·right;rw [if_neg (by simpa using hn2)];exact ⟨rfl,by show ((l.getD i bE).size:Int)≤lf;omega⟩
 case hd=>intro lf;simp
theorem p_szType {N:Nat} (x:TT) (left:Int) (u:Unit) (h0:0≤left) (hB:left≤1048576) (hf:F_Type x) (hN:lim<N):Sz (l_szType N (x,left,u)) left (w_Type x):=by
 have h0:=hf
 unfold l_szType w_Type
 dsimp only
 rw [wrap_sub (by omega) (by omega) h0]
 refine Sz.sub (by omega) (fun k0=>?_)
 exact Sz.ret (by omega)
theorem p_szTypeS {N:Nat} (l:List TT) (left:Int) (u:Unit) (h0:0≤left) (hB:left≤1048576) (hl:l.length≤lim) (hs:∀ s∈l,F_Type s) (hN:lim<N):Sz (l_szTypeS N (l,left,u)) left (wL w_Type l):=by
 have hlim:lim=9223372036854775807:=rfl
 unfold l_szTypeS
 dsimp only
 rw [wrap_sub h0 hB hl]
 refine Sz.sub h0 (fun k1=>?_)
 refine Sz.loop l (bE,(0:Int),()) w_Type (by omega) (by omega) (by omega) ?h ?hd rfl (fun r=>rfl)
 case h =>
  intro i lf hi hl0 hlB
  have hm:l.getD i (bE,(0:Int),())∈l:=mem_getD hi
  have hsz:=hs _ hm
  dsimp only
  rw [tN,if_pos (decide_eq_true (lt_cast hi)),if_pos (inB_nat.2 hi),wrap_nat (by omega)]
  rcases p_szType (N:=N) (l.getD i (bE,(0:Int),())) lf () hl0 hlB hsz hN with h1 | ⟨h1,h2⟩
  ·left;rw [h1];rfl
  ·right;rw [h1]
   dsimp only [oB]
   rw [if_neg (fun hc=>by have:=of_decide_eq_true hc;omega)]
   exact ⟨rfl,h2⟩
 case hd=>intro lf;simp
theorem p_szNode {N:Nat} (x:NT) (left:Int) (u:Unit) (h0:0≤left) (hB:left≤1048576) (hf:F_Node x) (hN:lim<N):Sz (l_szNode N (x,left,u)) left (w_Node x):=by
 obtain ⟨h2,⟨h3,g3⟩,h4⟩:=hf
 unfold l_szNode w_Node
 dsimp only
 rw [wrap_sub (by omega) (by omega) h2]
 refine Sz.sub (by omega) (fun k2=>?_)
 refine Sz.step (p_szStrS x.2.2.2.1 _ () (by omega) (by omega) h3 g3 hN) (fun k3=>?_)
 dsimp only
 refine Sz.step (p_szIntS x.2.2.2.2.1 _ () (by omega) (by omega) h4  hN) (fun k4=>?_)
 dsimp only
 exact Sz.ret (by omega)
theorem p_szNodeS {N:Nat} (l:List NT) (left:Int) (u:Unit) (h0:0≤left) (hB:left≤1048576) (hl:l.length≤lim) (hs:∀ s∈l,F_Node s) (hN:lim<N):Sz (l_szNodeS N (l,left,u)) left (wL w_Node l):=by
 have hlim:lim=9223372036854775807:=rfl
 unfold l_szNodeS
 dsimp only
 rw [wrap_sub h0 hB hl]
 refine Sz.sub h0 (fun k1=>?_)
 refine Sz.loop l ((0:Int),(0:Int),bE,([]:List ByteArray),([]:List Int),()) w_Node (by omega) (by omega) (by omega) ?h ?hd rfl (fun r=>rfl)
 case h =>
  intro i lf hi hl0 hlB
  have hm:l.getD i ((0:Int),(0:Int),bE,([]:List ByteArray),([]:List Int),())∈l:=mem_getD hi
  have hsz:=hs _ hm
  dsimp only
  rw [tN,if_pos (decide_eq_true (lt_cast hi)),if_pos (inB_nat.2 hi),wrap_nat (by omega)]
  rcases p_szNode (N:=N) (l.getD i ((0:Int),(0:Int),bE,([]:List ByteArray),([]:List Int),())) lf () hl0 hlB hsz hN with h1 | ⟨h1,h2⟩
  ·left;rw [h1];rfl
  ·right;rw [h1]
   dsimp only [oB]
   rw [if_neg (fun hc=>by have:=of_decide_eq_true hc;omega)]
   exact ⟨rfl,h2⟩
 case hd=>intro lf;simp
theorem p_szProg {N:Nat} (x:PT) (left:Int) (u:Unit) (h0:0≤left) (hB:left≤1048576) (hf:F_Prog x) (hN:lim<N):Sz (l_szProg N (x,left,u)) left (w_Prog x):=by
 obtain ⟨h0,g0⟩:=hf
 unfold l_szProg w_Prog
 dsimp only
 refine Sz.step (p_szNodeS x.1 _ () (by omega) (by omega) h0 g0 hN) (fun k0=>?_)
 dsimp only
 exact Sz.ret (by omega)
theorem p_szDef {N:Nat} (x:DT) (left:Int) (u:Unit) (h0:0≤left) (hB:left≤1048576) (hf:F_Def x) (hN:lim<N):Sz (l_szDef N (x,left,u)) left (w_Def x):=by
 obtain ⟨h0,h1⟩:=hf
 unfold l_szDef w_Def
 dsimp only
 rw [wrap_sub (by omega) (by omega) h0]
 refine Sz.sub (by omega) (fun k0=>?_)
 refine Sz.step (p_szProg x.2.1 _ () (by omega) (by omega) h1 hN) (fun k1=>?_)
 dsimp only
 exact Sz.ret (by omega)
theorem p_szDefS {N:Nat} (l:List DT) (left:Int) (u:Unit) (h0:0≤left) (hB:left≤1048576) (hl:l.length≤lim) (hs:∀ s∈l,F_Def s) (hN:lim<N):Sz (l_szDefS N (l,left,u)) left (wL w_Def l):=by
 have hlim:lim=9223372036854775807:=rfl
 unfold l_szDefS
 dsimp only
 rw [wrap_sub h0 hB hl]
 refine Sz.sub h0 (fun k1=>?_)
 refine Sz.loop l (bE,(([]:List NT),(0:Int),()),()) w_Def (by omega) (by omega) (by omega) ?h ?hd rfl (fun r=>rfl)
 case h =>
  intro i lf hi hl0 hlB
  have hm:l.getD i (bE,(([]:List NT),(0:Int),()),())∈l:=mem_getD hi
  have hsz:=hs _ hm
  dsimp only
  rw [tN,if_pos (decide_eq_true (lt_cast hi)),if_pos (inB_nat.2 hi),wrap_nat (by omega)]
  rcases p_szDef (N:=N) (l.getD i (bE,(([]:List NT),(0:Int),()),())) lf () hl0 hlB hsz hN with h1 | ⟨h1,h2⟩
  ·left;rw [h1];rfl
  ·right;rw [h1]
   dsimp only [oB]
   rw [if_neg (fun hc=>by have:=of_decide_eq_true hc;omega)]
   exact ⟨rfl,h2⟩
 case hd=>intro lf;simp
theorem p_szSrc {N:Nat} (x:ST) (left:Int) (u:Unit) (h0:0≤left) (hB:left≤1048576) (hf:F_Src x) (hN:lim<N):Sz (l_szSrc N (x,left,u)) left (w_Src x):=by
 obtain ⟨h0,⟨h1,g1⟩,⟨h2,g2⟩,⟨h3,g3⟩,⟨h4,g4⟩,⟨h5,g5⟩⟩:=hf
 unfold l_szSrc w_Src
 dsimp only
 rw [wrap_sub (by omega) (by omega) h0]
 refine Sz.sub (by omega) (fun k0=>?_)
 refine Sz.step (p_szStrS x.2.1 _ () (by omega) (by omega) h1 g1 hN) (fun k1=>?_)
 dsimp only
 refine Sz.step (p_szStrS x.2.2.1 _ () (by omega) (by omega) h2 g2 hN) (fun k2=>?_)
 dsimp only
 refine Sz.step (p_szTypeS x.2.2.2.1 _ () (by omega) (by omega) h3 g3 hN) (fun k3=>?_)
 dsimp only
 refine Sz.step (p_szDefS x.2.2.2.2.1 _ () (by omega) (by omega) h4 g4 hN) (fun k4=>?_)
 dsimp only
 refine Sz.step (p_szDefS x.2.2.2.2.2.1 _ () (by omega) (by omega) h5 g5 hN) (fun k5=>?_)
 dsimp only
 exact Sz.ret (by omega)
theorem e_toIntS (N:Nat) (l:List Int) (u:Unit) (hl:l.length<big) (hN:big≤N):l_toIntS N (l,u)=some (l,()):=by
 have hb:big=1048577:=rfl
 unfold l_toIntS
 rw [if_pos (show mkB (l.length:Int) (l.length:Int) from ⟨by omega,by omega,by omega⟩)]
 dsimp only [tN]
 rw [loop_fill l (0:Int) (0:Int) ?h ?hd (by omega)]
 case h =>
  intro i w hi hw'
  dsimp only
  rw [tN,if_pos (decide_eq_true (lt_cast hi)),if_pos (inB_nat.2 hi),if_pos (inB_nat.2 (by omega)),wrap_nat (by omega)]
 case hd=>intro w;simp
 rfl
theorem e_toStrS (N:Nat) (l:List ByteArray) (u:Unit) (hl:l.length<big) (hN:big≤N):l_toStringS N (l,u)=some (l,()):=by
 have hb:big=1048577:=rfl
 unfold l_toStringS
 rw [if_pos (show mkB (l.length:Int) (l.length:Int) from ⟨by omega,by omega,by omega⟩)]
 dsimp only [tN]
 rw [loop_fill l bE bE ?h ?hd (by omega)]
 case h =>
  intro i w hi hw'
  dsimp only
  rw [tN,if_pos (decide_eq_true (lt_cast hi)),if_pos (inB_nat.2 hi),if_pos (inB_nat.2 (by omega)),wrap_nat (by omega)]
 case hd=>intro w;simp
 rfl
theorem e_toType (N:Nat) (x:TT) (u:Unit) (h:w_Type x<big) (hN:big≤N):l_toType N (x,u)=some (x,()):= rfl
theorem e_toTypeS (N:Nat) (l:List TT) (u:Unit) (hw:wL w_Type l<big) (hN:big≤N):l_toTypeS N (l,u)=some (l,()):=by
 have hb:big=1048577:=rfl
 have hl:l.length<big:=by simp only [wL] at hw;omega
 unfold l_toTypeS
 rw [if_pos (show mkB (l.length:Int) (l.length:Int) from ⟨by omega,by omega,by omega⟩)]
 dsimp only [tN]
 rw [loop_fill l (bE,(0:Int),()) (bE,(0:Int),()) ?h ?hd (by omega)]
 case h =>
  intro i w hi hw'
  dsimp only
  have hwi:=sumW_getD (w:=w_Type) (d:=(bE,(0:Int),())) hi
  rw [tN,if_pos (decide_eq_true (lt_cast hi)),if_pos (inB_nat.2 hi),e_toType N _ () (by simp only [wL] at hw;omega) hN]
  try dsimp only [oB]
  rw [if_pos (inB_nat.2 (by omega)),wrap_nat (by omega)]
 case hd=>intro w;simp
 rfl
theorem e_toNode (N:Nat) (x:NT) (u:Unit) (h:w_Node x<big) (hN:big≤N):l_toNode N (x,u)=some (x,()):=by
 have hw:(x.2.2.1.size+(wL wStr x.2.2.2.1+(x.2.2.2.2.1.length+0)))<big:=h
 unfold l_toNode
 dsimp only
 rw [e_toStrS N x.2.2.2.1 () (by simp only [wL] at hw;omega) hN]
 dsimp only [oB]
 rw [e_toIntS N x.2.2.2.2.1 () (by simp only [wL] at hw;omega) hN]
 dsimp only [oB]
theorem e_toNodeS (N:Nat) (l:List NT) (u:Unit) (hw:wL w_Node l<big) (hN:big≤N):l_toNodeS N (l,u)=some (l,()):=by
 have hb:big=1048577:=rfl
 have hl:l.length<big:=by simp only [wL] at hw;omega
 unfold l_toNodeS
 rw [if_pos (show mkB (l.length:Int) (l.length:Int) from ⟨by omega,by omega,by omega⟩)]
 dsimp only [tN]
 rw [loop_fill l ((0:Int),(0:Int),bE,([]:List ByteArray),([]:List Int),()) ((0:Int),(0:Int),bE,([]:List ByteArray),([]:List Int),()) ?h ?hd (by omega)]
 case h =>
  intro i w hi hw'
  dsimp only
  have hwi:=sumW_getD (w:=w_Node) (d:=((0:Int),(0:Int),bE,([]:List ByteArray),([]:List Int),())) hi
  rw [tN,if_pos (decide_eq_true (lt_cast hi)),if_pos (inB_nat.2 hi),e_toNode N _ () (by simp only [wL] at hw;omega) hN]
  try dsimp only [oB]
  rw [if_pos (inB_nat.2 (by omega)),wrap_nat (by omega)]
 case hd=>intro w;simp
 rfl
theorem e_toProg (N:Nat) (x:PT) (u:Unit) (h:w_Prog x<big) (hN:big≤N):l_toProg N (x,u)=some (x,()):=by
 have hw:(wL w_Node x.1+0)<big:=h
 unfold l_toProg
 dsimp only
 rw [e_toNodeS N x.1 () (by omega) hN]
 dsimp only [oB]
theorem e_toDef (N:Nat) (x:DT) (u:Unit) (h:w_Def x<big) (hN:big≤N):l_toDef N (x,u)=some (x,()):=by
 have hw:(x.1.size+(w_Prog x.2.1+0))<big:=h
 unfold l_toDef
 dsimp only
 rw [e_toProg N x.2.1 () (by omega) hN]
 dsimp only [oB]
theorem e_toDefS (N:Nat) (l:List DT) (u:Unit) (hw:wL w_Def l<big) (hN:big≤N):l_toDefS N (l,u)=some (l,()):=by
 have hb:big=1048577:=rfl
 have hl:l.length<big:=by simp only [wL] at hw;omega
 unfold l_toDefS
 rw [if_pos (show mkB (l.length:Int) (l.length:Int) from ⟨by omega,by omega,by omega⟩)]
 dsimp only [tN]
 rw [loop_fill l (bE,(([]:List NT),(0:Int),()),()) (bE,(([]:List NT),(0:Int),()),()) ?h ?hd (by omega)]
 case h =>
  intro i w hi hw'
  dsimp only
  have hwi:=sumW_getD (w:=w_Def) (d:=(bE,(([]:List NT),(0:Int),()),())) hi
  rw [tN,if_pos (decide_eq_true (lt_cast hi)),if_pos (inB_nat.2 hi),e_toDef N _ () (by simp only [wL] at hw;omega) hN]
  try dsimp only [oB]
  rw [if_pos (inB_nat.2 (by omega)),wrap_nat (by omega)]
 case hd=>intro w;simp
 rfl
theorem e_toSrc (N:Nat) (x:ST) (u:Unit) (h:w_Src x<big) (hN:big≤N):l_toSrc N (x,u)=some (x,()):=by
 have hw:(x.1.size+(wL wStr x.2.1+(wL wStr x.2.2.1+(wL w_Type x.2.2.2.1+(wL w_Def x.2.2.2.2.1+(wL w_Def x.2.2.2.2.2.1+0))))))<big:=h
 unfold l_toSrc
 dsimp only
 rw [e_toStrS N x.2.1 () (by simp only [wL] at hw;omega) hN]
 dsimp only [oB]
 rw [e_toStrS N x.2.2.1 () (by simp only [wL] at hw;omega) hN]
 dsimp only [oB]
 rw [e_toTypeS N x.2.2.2.1 () (by omega) hN]
 dsimp only [oB]
 rw [e_toDefS N x.2.2.2.2.1 () (by omega) hN]
 dsimp only [oB]
 rw [e_toDefS N x.2.2.2.2.2.1 () (by omega) hN]
 dsimp only [oB]
theorem e_eqIntS (N:Nat) (l:List Int) (u:Unit) (hl:l.length<big) (hN:big≤N):l_eqIntS N (l,l,u)=some (true,()):=by
 have hb:big=1048577:=rfl
 unfold l_eqIntS
 simp only [decide_true,bN,bF,if_false]
 rw [iter_done (fun i=>((i:Int),())) (x0:=(0,())) (b:=()) (k:=0) (n:=l.length) ?h (Nat.zero_le _) ?hd (by omega) rfl]
 case h =>
  intro i _ hi
  dsimp only
  rw [if_pos (decide_eq_true (lt_cast hi)),if_pos (inB_nat.2 hi),if_pos (inB_nat.2 hi),wrap_nat (by omega)]
 case hd=>simp
 rfl
theorem e_eqStrS (N:Nat) (l:List ByteArray) (u:Unit) (hl:l.length<big) (hN:big≤N):l_eqStringS N (l,l,u)=some (true,()):=by
 have hb:big=1048577:=rfl
 unfold l_eqStringS
 simp only [decide_true,bN,bF,if_false]
 rw [iter_done (fun i=>((i:Int),())) (x0:=(0,())) (b:=()) (k:=0) (n:=l.length) ?h (Nat.zero_le _) ?hd (by omega) rfl]
 case h =>
  intro i _ hi
  dsimp only
  rw [if_pos (decide_eq_true (lt_cast hi)),if_pos (inB_nat.2 hi),if_pos (inB_nat.2 hi),wrap_nat (by omega)]
 case hd=>simp
 rfl
theorem e_eqType (N:Nat) (x:TT) (u:Unit) (h:w_Type x<big) (hN:big≤N):l_eqType N (x,x,u)=some (true,()):=by
 unfold l_eqType
 simp only [decide_true,bN,bF,if_false]
theorem e_eqTypeS (N:Nat) (l:List TT) (u:Unit) (hw:wL w_Type l<big) (hN:big≤N):l_eqTypeS N (l,l,u)=some (true,()):=by
 have hb:big=1048577:=rfl
 have hl:l.length<big:=by simp only [wL] at hw;omega
 unfold l_eqTypeS
 simp only [decide_true,bN,bF,if_false]
 rw [iter_done (fun i=>((i:Int),())) (x0:=(0,())) (b:=()) (k:=0) (n:=l.length) ?h (Nat.zero_le _) ?hd (by omega) rfl]
 case h =>
  intro i _ hi
  dsimp only
  have hwi:=sumW_getD (w:=w_Type) (d:=(bE,(0:Int),())) hi
  rw [if_pos (decide_eq_true (lt_cast hi)),if_pos (inB_nat.2 hi),if_pos (inB_nat.2 hi),tN,e_eqType N _ _ (by simp only [wL] at hw;omega) hN,wrap_nat (by omega)]
  rfl
 case hd=>simp
 rfl
theorem e_eqNode (N:Nat) (x:NT) (u:Unit) (h:w_Node x<big) (hN:big≤N):l_eqNode N (x,x,u)=some (true,()):=by
 have hw:(x.2.2.1.size+(wL wStr x.2.2.2.1+(x.2.2.2.2.1.length+0)))<big:=h
 unfold l_eqNode
 simp only [decide_true,bN,bF,if_false]
 rw [e_eqStrS N x.2.2.2.1 () (by simp only [wL] at hw;omega) hN]
 simp only [oB,bN,bF,if_false]
 rw [e_eqIntS N x.2.2.2.2.1 () (by simp only [wL] at hw;omega) hN]
 simp only [oB,bN,bF,if_false]
theorem e_eqNodeS (N:Nat) (l:List NT) (u:Unit) (hw:wL w_Node l<big) (hN:big≤N):l_eqNodeS N (l,l,u)=some (true,()):=by
 have hb:big=1048577:=rfl
 have hl:l.length<big:=by simp only [wL] at hw;omega
 unfold l_eqNodeS
 simp only [decide_true,bN,bF,if_false]
 rw [iter_done (fun i=>((i:Int),())) (x0:=(0,())) (b:=()) (k:=0) (n:=l.length) ?h (Nat.zero_le _) ?hd (by omega) rfl]
 case h =>
  intro i _ hi
  dsimp only
  have hwi:=sumW_getD (w:=w_Node) (d:=((0:Int),(0:Int),bE,([]:List ByteArray),([]:List Int),())) hi
  rw [if_pos (decide_eq_true (lt_cast hi)),if_pos (inB_nat.2 hi),if_pos (inB_nat.2 hi),tN,e_eqNode N _ _ (by simp only [wL] at hw;omega) hN,wrap_nat (by omega)]
  rfl
 case hd=>simp
 rfl
theorem e_eqProg (N:Nat) (x:PT) (u:Unit) (h:w_Prog x<big) (hN:big≤N):l_eqProg N (x,x,u)=some (true,()):=by
 have hw:(wL w_Node x.1+0)<big:=h
 unfold l_eqProg
 simp only [decide_true,bN,bF,if_false]
 rw [e_eqNodeS N x.1 () (by omega) hN]
 simp only [oB,bN,bF,if_false]
theorem e_eqDef (N:Nat) (x:DT) (u:Unit) (h:w_Def x<big) (hN:big≤N):l_eqDef N (x,x,u)=some (true,()):=by
 have hw:(x.1.size+(w_Prog x.2.1+0))<big:=h
 unfold l_eqDef
 simp only [decide_true,bN,bF,if_false]
 rw [e_eqProg N x.2.1 () (by omega) hN]
 simp only [oB,bN,bF,if_false]
theorem e_eqDefS (N:Nat) (l:List DT) (u:Unit) (hw:wL w_Def l<big) (hN:big≤N):l_eqDefS N (l,l,u)=some (true,()):=by
 have hb:big=1048577:=rfl
 have hl:l.length<big:=by simp only [wL] at hw;omega
 unfold l_eqDefS
 simp only [decide_true,bN,bF,if_false]
 rw [iter_done (fun i=>((i:Int),())) (x0:=(0,())) (b:=()) (k:=0) (n:=l.length) ?h (Nat.zero_le _) ?hd (by omega) rfl]
 case h =>
  intro i _ hi
  dsimp only
  have hwi:=sumW_getD (w:=w_Def) (d:=(bE,(([]:List NT),(0:Int),()),())) hi
  rw [if_pos (decide_eq_true (lt_cast hi)),if_pos (inB_nat.2 hi),if_pos (inB_nat.2 hi),tN,e_eqDef N _ _ (by simp only [wL] at hw;omega) hN,wrap_nat (by omega)]
  rfl
 case hd=>simp
 rfl
theorem e_eqSrc (N:Nat) (x:ST) (u:Unit) (h:w_Src x<big) (hN:big≤N):l_eqSrc N (x,x,u)=some (true,()):=by
 have hw:(x.1.size+(wL wStr x.2.1+(wL wStr x.2.2.1+(wL w_Type x.2.2.2.1+(wL w_Def x.2.2.2.2.1+(wL w_Def x.2.2.2.2.2.1+0))))))<big:=h
 unfold l_eqSrc
 simp only [decide_true,bN,bF,if_false]
 rw [e_eqStrS N x.2.1 () (by simp only [wL] at hw;omega) hN]
 simp only [oB,bN,bF,if_false]
 rw [e_eqStrS N x.2.2.1 () (by simp only [wL] at hw;omega) hN]
 simp only [oB,bN,bF,if_false]
 rw [e_eqTypeS N x.2.2.2.1 () (by omega) hN]
 simp only [oB,bN,bF,if_false]
 rw [e_eqDefS N x.2.2.2.2.1 () (by omega) hN]
 simp only [oB,bN,bF,if_false]
 rw [e_eqDefS N x.2.2.2.2.2.1 () (by omega) hN]
 simp only [oB,bN,bF,if_false]
theorem sumL_one {α:Type}:∀ l:List α,sumL (fun _=>(1:Int)) l=(l.length:Int):=by
 intro l
 induction l with
 | nil=>rfl
 | cons x l ih=>simp only [sumL,ih,List.length_cons];omega
theorem sumW_one {α:Type}:∀ l:List α,sumW (fun _=>1) l=l.length:=by
 intro l
 induction l with
 | nil=>rfl
 | cons x l ih=>simp only [sumW,ih,List.length_cons];omega
theorem loop_mark_k {α:Type}{f:List α×Int×Int×Unit→Option (Step (List α×Int×Int×Unit) (List α×Int×Unit) (Int×List α×Unit))}{K:(List α×Int×Unit) ⊕ (Int×List α×Unit)→Option (Int×List α×Unit)}{c:α→Nat}{P:α→Prop}{B:Int}{N:Nat}
  (hstep:∀ pre x post m,P x→pre.length+post.length<big→0<m→m+(c x:Int)≤B→∃ x' m',f (pre++x::post,m,(pre.length:Int),())=some (.more (pre++x'::post,m',((pre.length+1:Nat):Int),()))∧m≤m'∧m'≤m+(c x:Int))
  (hdone:∀ l m,f (l,m,(l.length:Int),())=some (.done (l,m,()))) (hK:∀ l m,K (.inl (l,m,()))=some (m,l,())) (l:List α) (m:Int) (hP:∀ x∈l,P x) (hlen:l.length<big) (hm:0<m) (hB:m+(sumW c l:Int)≤B) (hN:l.length<N) :
   ∃ l' m',(iter f N (l,m,0,())).bind K=some (m',l',())∧m≤m'∧m'≤m+(sumW c l:Int):=by
 obtain ⟨l',m',e,h1,h2⟩:=loop_mark hstep hdone l [] m N hP (by simpa using hlen) hm hB hN
 simp only [List.nil_append,List.length_nil] at e
 have e0:((0:Nat):Int)=0:=rfl
 rw [e0] at e
 exact ⟨l',m',by rw [e];exact hK _ _,h1,h2⟩
theorem p_markStrS {N:Nat} (hN:lim<N) (l:List ByteArray) (m:Int) (u:Unit) (hm:0<m) (hB:m+(l.length:Int)≤capB) (hl:l.length<big):∃ l' m',l_markStringS N (l,m,u)=some (m',l',())∧m≤m'∧m'≤m+(l.length:Int) :=
 ⟨_,_,e_markStringS hN l m hm (by rw [sumL_one];exact hB) hl,by rw [sumL_one];omega,by rw [sumL_one];omega⟩
theorem p_markIntS {N:Nat} (hN:lim<N) (l:List Int) (m:Int) (u:Unit) (hm:0<m) (hB:m+(l.length:Int)≤capB) (hl:l.length<big):∃ l' m',l_markIntS N (l,m,u)=some (m',l',())∧m≤m'∧m'≤m+(l.length:Int):=by
 have hlim:lim=9223372036854775807:=rfl
 have hbig:big=1048577:=rfl
 have hcap:capB=1152921504606846976:=rfl
 rw [← sumW_one l] at hB ⊢
 unfold l_markIntS
 dsimp only
 refine loop_mark_k (c:=fun _=>1) (P:=fun _=>True) (B:=capB) ?hstep ?hdone (fun _ _=>rfl) l m (fun _ _=>trivial) (by omega) hm hB (by omega)
 case hdone=>intro l m;dsimp only;rw [if_neg (by simp)]
 case hstep =>
  intro pre x post m _ hlen hm hB
  dsimp only at hB ⊢
  rw [if_pos lt_mid,if_pos inB_mid,set_mid]
  dsimp only [oB]
  rw [wrap_cap (m:=m+1) (by omega) (by omega),wrap_mid hlen]
  exact ⟨_,_,rfl,by omega,by omega⟩
def c_Type (x:TT):Nat:=2+0
theorem cle_Type (x:TT):c_Type x≤2+64*w_Type x:=by
 simp only [c_Type,w_Type]
 omega
theorem p_markTypeS {N:Nat} (hN:lim<N) (l:List TT) (m:Int) (u:Unit) (hm:0<m) (hB:m+(sumW c_Type l:Int)≤capB) (hw:wL w_Type l<big):∃ l' m',l_markTypeS N (l,m,u)=some (m',l',())∧m≤m'∧m'≤m+(sumW c_Type l:Int):=by
 have hlim:lim=9223372036854775807:=rfl
 have hbig:big=1048577:=rfl
 have hcap:capB=1152921504606846976:=rfl
 have hl:l.length≤wL w_Type l:=Nat.le_add_right _ _
 unfold l_markTypeS
 dsimp only
 refine loop_mark_k (c:=c_Type) (P:=fun x=>w_Type x<big) (B:=capB) ?hstep ?hdone (fun _ _=>rfl) l m (fun x hx=>?hP) (by omega) hm hB (by omega)
 case hP=>have:=sumW_mem (w:=w_Type) hx;have e0:wL w_Type l=l.length+sumW w_Type l:=rfl;omega
 case hdone=>intro l m;dsimp only;rw [if_neg (by simp)]
 case hstep =>
  intro pre x post m hx hlen hm hB
  have hc:c_Type x=2+0:=rfl
  have hw:(x.1.size+0)<big:=hx
  dsimp only
  rw [if_pos lt_mid]
  rw [e_markText (m:=m) (by omega) (by omega) hN]
  try dsimp only [oB]
  rw [if_pos inB_mid,getD_mid,set_mid]
  try dsimp only [oB]
  rw [wrap_cap (m:=m+1) (by omega) (by omega)]
  rw [if_pos inB_mid,getD_mid,set_mid]
  try dsimp only [oB]
  rw [wrap_cap (m:=m+1+1) (by omega) (by omega)]
  rw [wrap_mid hlen]
  exact ⟨_,_,rfl,by omega,by omega⟩
def c_Node (x:NT):Nat:=3+(x.2.2.2.1.length+(x.2.2.2.2.1.length+0))
theorem cle_Node (x:NT):c_Node x≤3+64*w_Node x:=by
 have h0:x.2.2.2.1.length≤wL wStr x.2.2.2.1:=Nat.le_add_right _ _
 have h1:x.2.2.2.2.1.length≤x.2.2.2.2.1.length:=Nat.le_refl _
 simp only [c_Node,w_Node]
 omega
theorem p_markNodeS {N:Nat} (hN:lim<N) (l:List NT) (m:Int) (u:Unit) (hm:0<m) (hB:m+(sumW c_Node l:Int)≤capB) (hw:wL w_Node l<big):∃ l' m',l_markNodeS N (l,m,u)=some (m',l',())∧m≤m'∧m'≤m+(sumW c_Node l:Int):=by
 have hlim:lim=9223372036854775807:=rfl
 have hbig:big=1048577:=rfl
 have hcap:capB=1152921504606846976:=rfl
 have hl:l.length≤wL w_Node l:=Nat.le_add_right _ _
 unfold l_markNodeS
 dsimp only
 refine loop_mark_k (c:=c_Node) (P:=fun x=>w_Node x<big) (B:=capB) ?hstep ?hdone (fun _ _=>rfl) l m (fun x hx=>?hP) (by omega) hm hB (by omega)
 case hP=>have:=sumW_mem (w:=w_Node) hx;have e0:wL w_Node l=l.length+sumW w_Node l:=rfl;omega
 case hdone=>intro l m;dsimp only;rw [if_neg (by simp)]
 case hstep =>
  intro pre x post m hx hlen hm hB
  have hc:c_Node x=3+(x.2.2.2.1.length+(x.2.2.2.2.1.length+0)):=rfl
  have hw:(x.2.2.1.size+(wL wStr x.2.2.2.1+(x.2.2.2.2.1.length+0)))<big:=hx
  dsimp only
  rw [if_pos lt_mid]
  rw [if_pos inB_mid,getD_mid,set_mid]
  try dsimp only [oB]
  rw [wrap_cap (m:=m+1) (by omega) (by omega)]
  rw [if_pos inB_mid,getD_mid,set_mid]
  try dsimp only [oB]
  rw [wrap_cap (m:=m+1+1) (by omega) (by omega)]
  rw [e_markText (m:=m+1+1) (by omega) (by omega) hN]
  try dsimp only [oB]
  rw [if_pos inB_mid,getD_mid,set_mid]
  try dsimp only [oB]
  rw [wrap_cap (m:=m+1+1+1) (by omega) (by omega)]
  rw [if_pos inB_mid,getD_mid]
  obtain ⟨l3,m3,e3,a3,b3⟩:=p_markStrS hN x.2.2.2.1 (m+1+1+1) () (by omega) (by omega) (by have e0:wL wStr x.2.2.2.1=x.2.2.2.1.length+sumW wStr x.2.2.2.1:=rfl;omega)
  try dsimp only
  rw [e3]
  try dsimp only [oB]
  rw [set_mid]
  try dsimp only [oB]
  rw [if_pos inB_mid,getD_mid]
  obtain ⟨l4,m4,e4,a4,b4⟩:=p_markIntS hN x.2.2.2.2.1 (m3) () (by omega) (by omega) (by omega)
  try dsimp only
  rw [e4]
  try dsimp only [oB]
  rw [set_mid]
  try dsimp only [oB]
  rw [wrap_mid hlen]
  exact ⟨_,_,rfl,by omega,by omega⟩
def c_Def (x:DT):Nat:=2+(sumW c_Node x.2.1.1+0)
theorem cle_Def (x:DT):c_Def x≤2+64*w_Def x:=by
 have h0:=sumW_le (k:=64) (b:=3) (by omega) cle_Node x.2.1.1
 simp only [c_Def,w_Def,w_Prog]
 omega
theorem p_markDefS {N:Nat} (hN:lim<N) (l:List DT) (m:Int) (u:Unit) (hm:0<m) (hB:m+(sumW c_Def l:Int)≤capB) (hw:wL w_Def l<big):∃ l' m',l_markDefS N (l,m,u)=some (m',l',())∧m≤m'∧m'≤m+(sumW c_Def l:Int):=by
 have hlim:lim=9223372036854775807:=rfl
 have hbig:big=1048577:=rfl
 have hcap:capB=1152921504606846976:=rfl
 have hl:l.length≤wL w_Def l:=Nat.le_add_right _ _
 unfold l_markDefS
 dsimp only
 refine loop_mark_k (c:=c_Def) (P:=fun x=>w_Def x<big) (B:=capB) ?hstep ?hdone (fun _ _=>rfl) l m (fun x hx=>?hP) (by omega) hm hB (by omega)
 case hP=>have:=sumW_mem (w:=w_Def) hx;have e0:wL w_Def l=l.length+sumW w_Def l:=rfl;omega
 case hdone=>intro l m;dsimp only;rw [if_neg (by simp)]
 case hstep =>
  intro pre x post m hx hlen hm hB
  have hc:c_Def x=2+(sumW c_Node x.2.1.1+0):=rfl
  have hw:(x.1.size+(w_Prog x.2.1+0))<big:=hx
  have hs1:w_Prog x.2.1=(wL w_Node x.2.1.1+0):=rfl
  dsimp only
  rw [if_pos lt_mid]
  rw [e_markText (m:=m) (by omega) (by omega) hN]
  try dsimp only [oB]
  rw [if_pos inB_mid,getD_mid,set_mid]
  try dsimp only [oB]
  rw [wrap_cap (m:=m+1) (by omega) (by omega)]
  rw [if_pos inB_mid,getD_mid]
  obtain ⟨l1,m1,e1,a1,b1⟩:=p_markNodeS hN x.2.1.1 (m+1) () (by omega) (by omega) (by omega)
  try dsimp only
  rw [e1]
  try dsimp only [oB]
  rw [set_mid]
  try dsimp only [oB]
  rw [if_pos inB_mid,getD_mid,set_mid]
  try dsimp only [oB]
  rw [wrap_cap (m:=m1+1) (by omega) (by omega)]
  rw [wrap_mid hlen]
  exact ⟨_,_,rfl,by omega,by omega⟩
end Go.Rf
