/-
  A symbolic evaluator of the model's code, fourth part: drawn regions in which what is read is changed later, or what is made may come up at any time; of whatever program.
-/
import Derived.Test.YtcgneindmpkhgaaGreatDoorRRfC
set_option linter.unusedSimpArgs false
set_option linter.unusedVariables false
set_option autoImplicit false
namespace Go.Rf
section
variable {P:Program}{ops:Array Oper}{Q:Exit→Act→World→Prop}{S:Array Bool→World→Prop}
def wpAnyL (P:Program) (ops:Array Oper) (Q:Exit→Act→World→Prop) (S:Array Bool→World→Prop):Nat→Array Bool→Act→World→Prop
 | 0,listed,a,w=>Region.ready .any ops listed=[]∧Q .normal a w
 | fuel+1,listed,a,w =>
  (Region.ready .any ops listed=[]→Q .normal a w) ∧
  ∀ i∈Region.ready .any ops listed,wpOp P ops Q i (fun a' w'=>S (listed.setIfInBounds i true) w'∧wpAnyL P ops Q S fuel (listed.setIfInBounds i true) a' w') a w
theorem wpAny_of_L:∀ (fuel:Nat) (listed:Array Bool) (a:Act) (w:World),wpAnyL P ops Q S fuel listed a w→wpAny P .any ops Q fuel listed a w
 | 0,_,_,_,h=>h
 | fuel+1,_,_,_,h=>⟨h.1,fun i hi=>wpOp_mono (fun a' w' h'=>wpAny_of_L fuel _ a' w' h'.2) (h.2 i hi)⟩
theorem set_ne {listed:Array Bool}{i j:Nat}{d:Bool} (h:i≠j):(listed.setIfInBounds i true).getD j d=listed.getD j d:=by
 rw [set_getD,if_neg (by simp [h])]
theorem wpAnyL_first {Y:World→Prop}{i:Nat}{oi:Oper}{v:Value} (hi:ops[i]?=some oi) (hsel:∀ (j:Nat) (o:Oper) cs b,ops[j]?=some o→o.op≠.select cs b)
  (hQ:∀ c a w,Q (.panic c) (a.put oi.dst v) w→Q (.panic c) a w) (hS1:∀ L w,S (L.setIfInBounds i true) w↔S L w)
  (hS2:∀ L w,L.size=ops.size→Closed ops L→L.getD i false=false→S L w→Y w) :
  ∀ (fuel:Nat) (listed:Array Bool) (a:Act) (w:World),listed.size=ops.size→Closed ops listed →
   (∀ j oj,ops[j]?=some oj→j≠i→listed.getD j true=false→(∀ e∈oj.after,Region.binds .any e=true→e.on≠i)→oi.apart ops oj=true) →
   i∈Region.ready .any ops listed→YieldsIf P ops Y oi v a→S listed w →
   wpAnyL P ops Q S fuel (listed.setIfInBounds i true) (a.put oi.dst v) w→wpAnyL P ops Q S (fuel+1) listed a w:=by
 intro fuel
 have hil:∀ {listed:Array Bool},i∈Region.ready .any ops listed→listed.size=ops.size→listed.getD i false=false:=by
  intro listed hr hsz
  have hlt:i<ops.size:=(Array.getElem?_eq_some_iff.1 hi).1
  rw [← getD_flip (by omega)]
  exact (ready_preds.1 hr).1
 induction fuel with
 | zero =>
  intro listed a w hsz hc _ hr hy hS H
  refine ⟨fun h=>(by rw [h] at hr;cases hr),fun j hj=>?_⟩
  by_cases hji:j=i
  ·subst hji
   exact hy.wpOp hi (hS2 listed w hsz hc (hil hr hsz) hS) ⟨(hS1 _ _).2 hS,H⟩
  ·have:=ready_mono hj hji
   rw [H.1] at this
   cases this
 | succ fuel ih =>
  intro listed a w hsz hc hfree hr hy hS H
  refine ⟨fun h=>(by rw [h] at hr;cases hr),fun j hj=>?_⟩
  by_cases hji:j=i
  ·subst hji
   exact hy.wpOp hi (hS2 listed w hsz hc (hil hr hsz) hS) ⟨(hS1 _ _).2 hS,H⟩
  ·have h1:=H.2 j (ready_mono hj hji)
   obtain ⟨hjun,oj,hoj,hall⟩:=mem_ready.1 hj
   have hnot:∀ e∈oj.after,Region.binds .any e=true→e.on≠i:=fun e he hb heq=>by
    have h1:=hall e he hb
    rw [heq,hil hr hsz] at h1
    cases h1
   have h2:=wpOp_putIf (S:=Y) hoj (hfree j oj hoj hji hjun hnot) (fun cs b=>hsel i oi cs b hi) (fun cs b=>hsel j oj cs b hoj) hQ hy h1
   have hfree':∀ k ok,ops[k]?=some ok→k≠i→(listed.setIfInBounds j true).getD k true=false →
     (∀ e∈ok.after,Region.binds .any e=true→e.on≠i)→oi.apart ops ok=true:=fun k ok hk hki hun hno=>by
    refine hfree k ok hk hki ?_ hno
    by_cases hjk:j=k
    ·subst hjk;exact hjun
    ·rw [set_ne hjk] at hun;exact hun
   refine wpOp_mono (fun a' w' h3=>?_) h2
   obtain ⟨h4,h5,h6⟩:=h3
   rw [Array.setIfInBounds_comm _ _ (Ne.symm hji)] at h5 h6
   have h5':=(hS1 _ _).1 h5
   exact ⟨h5',ih (listed.setIfInBounds j true) a' w' (by simp [hsz]) (hc.add hj) hfree' (ready_mono hr (Ne.symm hji)) h4 h5' h6⟩
structure Chain (ops:Array Oper) (l:List Nat):Prop where
 back:∀ i o,ops[i]?=some o→∀ k∈preds o,k<i
 lt:∀ i∈l,i<ops.size
 reach:∀ i∈l,∀ j∈l,j<i→reachB ops ops.size i j=true
theorem chain_next {l:List Nat} (hch:Chain ops l){k:Nat}{is:List Nat}{listed:Array Bool} (hp:(k::is).Pairwise (·<·)) (hb:∀ i∈k::is,i∈l) (hsz:listed.size=ops.size) (hc:Closed ops listed)
  (hl:∀ j,j<ops.size→listed.getD j false=!(k::is).elem j):Region.ready .any ops listed≠[]∧(∀ i∈Region.ready .any ops listed,i=k)∧listed.getD k true=false ∧
   ∀ j,j<ops.size→(listed.setIfInBounds k true).getD j false=!is.elem j:=by
 have hklt:=hch.lt k (hb k (by simp))
 have hun:listed.getD k true=false:=by rw [getD_flip (by omega),hl k hklt];simp
 refine ⟨fun hr=>?_,fun i hi=>?_,hun,fun j hj=>?_⟩
 ·have:=ready_nil hsz hch.back hr k hklt
  rw [hl k hklt] at this;simp at this
 ·obtain ⟨h1,o',h2,h3⟩:=ready_preds.1 hi
  have hlt:i<ops.size:=(Array.getElem?_eq_some_iff.1 h2).1
  rw [getD_flip (by omega),hl i hlt] at h1
  have hmem:i∈k::is:=by
   have:(k::is).elem i=true:=by cases e:(k::is).elem i with
    | true=>rfl
    | false=>rw [e] at h1;cases h1
   exact List.mem_of_elem_eq_true this
  simp only [List.mem_cons] at hmem
  rcases hmem with e | hmem
  ·exact e
  ·exfalso
   have hki:=(List.pairwise_cons.1 hp).1 i hmem
   have:=reach_listed hc ops.size i k (hch.reach i (hb i (by simp [hmem])) k (hb k (by simp)) hki) (fun o'' ho'' kk hkk=>by rw [h2] at ho'';cases ho'';exact h3 kk hkk)
   rw [hl k hklt] at this
   simp at this
 ·rw [set_getD]
  split
  ·rename_i e
   obtain ⟨rfl,_⟩:=e
   have:k ∉ is:=fun hm=>Nat.lt_irrefl _ ((List.pairwise_cons.1 hp).1 k hm)
   simp [this]
  ·rename_i e
   rw [hl j hj]
   have:j≠k:=fun e'=>e ⟨e'.symm,by omega⟩
   simp [this]
theorem tail2_L {J2:World→Prop}{l T2:List Nat} (hch:Chain ops l) (hJ2:∀ L w,L.size=ops.size→(∃ j∈T2,L.getD j false=true)→J2 w→S L w) :
  ∀ (is:List Nat) (fuel:Nat){listed:Array Bool}{a:Act}{w:World},is.Pairwise (·<·)→(∀ i∈is,i∈l)→(∀ i∈is,i∈T2)→listed.size=ops.size→Closed ops listed →
  (∀ j,j<ops.size→listed.getD j false=!is.elem j)→left listed≤fuel→J2 w→wpL P ops J2 Q (is.filterMap (ops[·]?)) (Q .normal) a w→wpAnyL P ops Q S fuel listed a w:=by
 intro is
 induction is with
 | nil =>
  intro fuel listed a w _ _ _ hsz hc hl hf hJ h
  have hr:Region.ready .any ops listed=[]:=by
   rw [List.eq_nil_iff_forall_not_mem]
   intro i hi
   obtain ⟨h1,o,h2,_⟩:=ready_preds.1 hi
   have hlt:i<ops.size:=(Array.getElem?_eq_some_iff.1 h2).1
   rw [getD_flip (by omega),hl i hlt] at h1
   simp at h1
  cases fuel with
  | zero=>exact ⟨hr,h⟩
  | succ f=>exact ⟨fun _=>h,fun i hi=>by rw [hr] at hi;cases hi⟩
 | cons k is ih =>
  intro fuel listed a w hp hb ht hsz hc hl hf hJ h
  obtain ⟨hne,hone,hun,hnew⟩:=chain_next hch hp hb hsz hc hl
  have hklt:=hch.lt k (hb k (by simp))
  obtain ⟨o,hget⟩:∃ o,ops[k]?=some o:=⟨ops[k],by simp [hklt]⟩
  cases fuel with
  | zero =>
   have:=left_zero (Nat.le_zero.1 hf) (i:=k)
   rw [hun] at this;cases this
  | succ f =>
   refine ⟨fun hr=>absurd hr hne,fun i hi=>?_⟩
   have e:=hone i hi
   subst e
   have hc':=hc.add hi
   have hleft:=left_set hun
   have hSk:∀ w',J2 w'→S (listed.setIfInBounds i true) w':=fun w' h'=>hJ2 _ _ (by simp [hsz]) ⟨i,ht i (by simp),by rw [set_getD,if_pos ⟨rfl,by omega⟩]⟩ h'
   have next:∀ {a:Act}{w:World},J2 w→wpL P ops J2 Q (is.filterMap (ops[·]?)) (Q .normal) a w→S (listed.setIfInBounds i true) w∧wpAnyL P ops Q S f (listed.setIfInBounds i true) a w:=fun h1 h2 =>
    ⟨hSk _ h1,ih f (List.pairwise_cons.1 hp).2 (fun j hj=>hb j (by simp [hj])) (fun j hj=>ht j (by simp [hj])) (by simp [hsz]) hc' hnew (by omega) h1 h2⟩
   unfold wpOp
   simp only [hget]
   simp only [List.filterMap_cons,hget,wpL] at h
   split
   ·rename_i hw
    rw [if_pos hw] at h
    exact .inl (Oper.wp_mono (fun a w h=>next h.1 h.2) h)
   ·rename_i hw
    rw [if_neg hw] at h
    exact next hJ h
theorem tail_L {J1 J2:World→Prop}{l T2:List Nat} (hch:Chain ops l) (hJ1:∀ L w,L.size=ops.size→J1 w→S L w) (hJ2:∀ L w,L.size=ops.size→(∃ j∈T2,L.getD j false=true)→J2 w→S L w) (h12:∀ w,J1 w→J2 w) :
  ∀ (is:List Nat) (fuel:Nat){listed:Array Bool}{a:Act}{w:World},(is++T2).Pairwise (·<·)→(∀ i∈is++T2,i∈l)→listed.size=ops.size→Closed ops listed →
  (∀ j,j<ops.size→listed.getD j false=!(is++T2).elem j)→left listed≤fuel→J1 w→wpL P ops J1 Q (is.filterMap (ops[·]?)) (fun a w=>J1 w→wpL P ops J2 Q (T2.filterMap (ops[·]?)) (Q .normal) a w) a w→wpAnyL P ops Q S fuel listed a w:=by
 intro is
 induction is with
 | nil =>
  intro fuel listed a w hp hb hsz hc hl hf hJ h
  exact tail2_L hch hJ2 T2 fuel hp hb (fun _ h=>h) hsz hc hl hf (h12 w hJ) (h hJ)
 | cons k is ih =>
  intro fuel listed a w hp hb hsz hc hl hf hJ h
  obtain ⟨hne,hone,hun,hnew⟩:=chain_next hch hp hb hsz hc hl
  have hklt:=hch.lt k (hb k (by simp))
  obtain ⟨o,hget⟩:∃ o,ops[k]?=some o:=⟨ops[k],by simp [hklt]⟩
  cases fuel with
  | zero =>
   have:=left_zero (Nat.le_zero.1 hf) (i:=k)
   rw [hun] at this;cases this
  | succ f =>
   refine ⟨fun hr=>absurd hr hne,fun i hi=>?_⟩
   have e:=hone i hi
   subst e
   have hc':=hc.add hi
   have hleft:=left_set hun
   have next:∀ {a:Act}{w:World},J1 w→wpL P ops J1 Q (is.filterMap (ops[·]?)) (fun a w=>J1 w→wpL P ops J2 Q (T2.filterMap (ops[·]?)) (Q .normal) a w) a w→S (listed.setIfInBounds i true) w∧wpAnyL P ops Q S f (listed.setIfInBounds i true) a w:=fun h1 h2 =>
    ⟨hJ1 _ _ (by simp [hsz]) h1,ih f (List.pairwise_cons.1 hp).2 (fun j hj=>hb j (List.mem_cons_of_mem _ hj)) (by simp [hsz]) hc' hnew (by omega) h1 h2⟩
   unfold wpOp
   simp only [hget]
   simp only [List.filterMap_cons,hget,wpL] at h
   split
   ·rename_i hw
    rw [if_pos hw] at h
    exact .inl (Oper.wp_mono (fun a w h=>next h.1 h.2) h)
   ·rename_i hw
    rw [if_neg hw] at h
    exact next hJ h
end
end Go.Rf
namespace Go.Rf
def Ty.noLend:Ty→Bool
 | .sl m e=>m != .lend && e.noLend
 | .pair a b=>a.noLend && b.noLend
 | .clo _ _=>false
 | _=>true
theorem Rep.keep0 {S:Stab}{H:Heap}{S':Stab} (hS:∀ b,S .keep b→∀ m,S' m b):∀ {τ:Ty}{vs:List Value}{x:τ.D}{f:List Nat},τ.noLend=true→Rep S H τ vs x f→Rep S' H τ vs x f:=by
 intro τ
 induction τ with
 | int k=>exact fun _ h=>h
 | bool=>exact fun _ h=>h
 | str=>exact fun _ h=>h
 | nil=>exact fun _ h=>h
 | dead=>exact fun _ h=>h
 | unit=>exact fun _ h=>h
 | clo g c _=>exact fun hn _=>by simp [Ty.noLend] at hn
 | pair a b iha ihb =>
  rintro vs x f hn ⟨v1,v2,f1,f2,rfl,rfl,h1,h2⟩
  simp only [Ty.noLend,bA] at hn
  exact ⟨v1,v2,f1,f2,rfl,rfl,iha hn.1 h1,ihb hn.2 h2⟩
 | sl o e ih =>
  rintro vs x f hn ⟨a,len,cap,rfl,hl,hc,hh⟩
  simp only [Ty.noLend,bA] at hn
  refine ⟨a,len,cap,rfl,hl,hc,?_⟩
  rcases hh with h | ⟨b,off,c,el,fr,f2,rfl,hb,hsz,hr,h⟩
  ·exact .inl h
  ·refine .inr ⟨b,off,c,el,fr,f2,rfl,hb,hsz,Rows.mono (fun vs x f hr=>ih hn.2 hr) hr,?_⟩
   rcases h with ⟨h1,h2,h3,h4⟩ | h
   ·refine .inl ⟨h1,?_,h3,h4⟩
    cases o with
    | own=>exact absurd rfl h1
    | keep=>exact hS b h2 .keep
    | lend=>simp at hn
   ·exact .inr h
def shareV (st:St) (hs:List Nat) (tv:TV):TV :=
 match tv with
 | .a (.ref id p)=>if hs.elem id=true then (match st.roots id with
   | some r=>match getP p r.τ r.x with
    | some q=>.a (.v (q.1.share .lend) ((Ty.share_D .lend q.1).mpr q.2))
    | none=>.a .junk
   | none=>.a .junk) else tv
 | .a (.ptr id p)=>if hs.elem id=true then .a .junk else tv
 | .tup []=>tv
 | .tup _=>.a .junk
 | tv=>tv
def shareL (st:St) (hs:List Nat):St:={ tmps:=fun t=>shareV st hs (st.tmps t),roots:=fun i=>if hs.elem i=true then none else st.roots i }
def backV (hs:List Nat):AV→Bool
 | .v _ _=>true
 | .sptr _ _=>true
 | .ref id _=>hs.elem id
 | .ptr id _=>hs.elem id
 | .junk=>false
def goodV (R:Nat→Option Root) (hs:List Nat):AV→Bool
 | .v τ _=>τ.noLend
 | .ref id _=>!hs.elem id && (R id).isSome
 | .ptr id _=>!hs.elem id && (R id).isSome
 | _=>false
def goodT (R:Nat→Option Root) (hs:List Nat) (tv:TV):TV :=
 match tv with
 | .a v=>if goodV R hs v=true then .a v else .a .junk
 | .tup l=>if l.all (goodV R hs)=true then .tup l else .a .junk
def unR (hs:List Nat) (st0 st:St) (id:Nat):Option Root :=
 if hs.elem id=true then st0.roots id else match st.roots id with
  | some r=>if r.τ.noLend=true then some r else none
  | none=>none
def unshare (W hs:List Nat) (st0 st:St):St :=
 {roots:=unR hs st0 st
  tmps:=fun t=>match st0.tmps t with
   | .a v=>if W.elem t=false∧backV hs v=true then .a v else goodT (unR hs st0 st) hs (st.tmps t)
   | _=>goodT (unR hs st0 st) hs (st.tmps t) }
def SLh (S:Stab) (X:Nat→List Nat) (hs:List Nat):Stab:=fun m b=>S m b∨(m=.lend∧∃ id,id∈hs∧b∈X id)
def SLg (S:Stab) (X:Nat→List Nat) (hs g:List Nat):Stab:=fun m b=>SLh S X hs m b∨(m=.lend∧b∈g)
theorem SLg_nil {S:Stab}{X:Nat→List Nat}{hs:List Nat}:SLg S X hs []=SLh S X hs:=by
 funext m b;simp [SLg]
def Xk (X:Nat→List Nat) (hs:List Nat):Nat→List Nat:=fun i=>if hs.elem i=true then [] else X i
section
variable {P:Program}{C:Cx}{w0 w w':World}{G:Blk}{st st':St}{a:Act}{S:Stab}{pls:Nat→Pl}{X:Nat→List Nat}
theorem Xk_sub {hs:List Nat}{i b:Nat} (h:b∈Xk X hs i):b∈X i∧i ∉ hs:=by
 unfold Xk at h
 split at h
 ·cases h
 ·rename_i hn;exact ⟨h,fun hm=>hn (List.elem_eq_true_of_mem hm)⟩
theorem Inv.shareL (hI:Inv C w0 G st a w S pls X) (hs:List Nat):Inv C w0 G (Rf.shareL st hs) a w (SLh S X hs) pls (Xk X hs):=by
 have hSS:∀ m b,S m b→SLh S X hs m b:=fun _ _ h=>.inl h
 refine { frm:=hI.frm,size:=hI.size,defers:=hI.defers,stab:=?_,kl:=?_,own:=?_,nd:=?_,dis:=?_,roots:=?_,tmps:=?_,glb:=⟨fun b hb=>.inl (hI.glb.1 b hb),hI.glb.2⟩,pin:=?_ }
 ·rintro m b (h | ⟨_,id,_,h⟩)
  ·exact hI.stab m b h
  ·exact (hI.own id b h).1
 ·rintro b (h | ⟨h,_⟩)
  ·exact .inl (hI.kl b h)
  ·cases h
 ·intro id b hb
  obtain ⟨h1,h2⟩:=Xk_sub hb
  obtain ⟨k1,k2,k3⟩:=hI.own id b h1
  refine ⟨k1,?_,k3⟩
  rintro m (h | ⟨_,id',h,h'⟩)
  ·exact k2 m h
  ·exact hI.dis id id' b (by rintro rfl;exact h2 h) h1 h'
 ·intro id
  unfold Xk
  split
  ·simp
  ·exact hI.nd id
 ·intro id id' b hne hb hb'
  exact hI.dis id id' b hne (Xk_sub hb).1 (Xk_sub hb').1
 ·intro id r hr
  simp only [Rf.shareL] at hr
  split at hr
  ·cases hr
  ·rename_i hn
   have h:=hI.roots id r hr
   have e:Xk X hs id=X id:=by unfold Xk;rw [if_neg hn]
   rw [e]
   obtain ⟨k,τ,x⟩:=r
   cases k <;> cases hpl:pls id <;> rw [hpl] at h <;> simp only [RootRel] at h ⊢
   ·obtain ⟨vs,l,fp,h1,h2,h3⟩:=h
    exact ⟨vs,l,fp,h1,h2.stab hSS,h3⟩
   ·exact h.stab hSS
 ·intro t
  have hv:=hI.tmps t
  have same:∀ {val:Value}{v:AV},(∀ id,v.refs=some id→id ∉ hs)→VRel S (hp w) pls st.roots val v→VRel (SLh S X hs) (hp w) pls (Rf.shareL st hs).roots val v:=by
   intro val v hn h
   refine VRel.heap hI.roots (fun _ _ _=>rfl) hSS (fun id hid=>⟨?_,rfl,fun _ _=>rfl⟩) h
   have:=hn id hid
   simp only [Rf.shareL]
   rw [if_neg (by intro hm;exact this (List.mem_of_elem_eq_true hm))]
  show TRel (SLh S X hs) (hp w) pls (Rf.shareL st hs).roots (a.tmps.getD t undef) (shareV st hs (st.tmps t))
  cases htv:st.tmps t with
  | tup l =>
   rw [htv] at hv
   cases l with
   | nil =>
    obtain ⟨vs,e,h⟩:=hv
    exact ⟨vs,e,by cases vs <;> first | trivial | exact h⟩
   | cons _ _=>exact trivial
  | a v =>
   rw [htv] at hv
   cases v with
   | v τ x=>exact same (v:=.v τ x) (fun id h=>by cases h) hv
   | sptr τ x=>exact same (v:=.sptr τ x) (fun id h=>by cases h) hv
   | junk=>exact trivial
   | ptr id p =>
    simp only [shareV]
    split
    ·exact trivial
    ·rename_i hn
     exact same (v:=.ptr id p) (fun id' h=>by cases h;exact fun hm=>hn (List.elem_eq_true_of_mem hm)) hv
   | ref id p =>
    simp only [shareV]
    split
    ·rename_i hm
     have hm:=List.mem_of_elem_eq_true hm
     obtain ⟨r,hr,σ,y,vs,l,vs',l',g1,g2,g3,g4,g5⟩:=hv
     simp only [hr,g1]
     obtain ⟨f',h1,h2⟩:=(hI.roots id r hr).at g3 g2 g1 g4
     refine ⟨vs',?_,?_⟩
     ·rw [g5];exact (valOf_like (by rw [share_agg])).symm
     ·refine Rep.stab ?_ (Rep.shareS (m:=.lend) (by decide) hI.kl h1)
      rintro m b (h | ⟨hb,h | h⟩)
      ·exact .inl h
      ·cases h
      ·exact .inr ⟨h,id,hm,h2 b hb⟩
    ·rename_i hn
     exact same (v:=.ref id p) (fun id' h=>by cases h;exact fun hm=>hn (List.elem_eq_true_of_mem hm)) hv
 ·intro id r hr hk
  simp only [Rf.shareL] at hr
  split at hr
  ·cases hr
  ·exact hI.pin id r hr hk
theorem Inv.unshareg {w2:World}{a2:Act}{st2:St}{S2:Stab}{pls2:Nat→Pl}{X2:Nat→List Nat}{W hs g:List Nat} (hgh:∀ b∈g,b<w.heap.size∧(∀ m,¬ S m b)∧∀ i,b ∉ X i) (hI:Inv C w0 G st a w S pls X)
  (h2:Inv C w (owned G (Xk X hs)) st2 a2 w2 S2 pls2 X2) (hg:Grows w (owned G (Xk X hs)) (SLg S X hs g) S2 w w2) (hfr:∀ t,t ∉ W→a2.tmps.getD t undef=a.tmps.getD t undef) :
  ∃ S3 pls3 X3,Inv C w0 G (Rf.unshare W hs st st2) a2 w2 S3 pls3 X3∧Grows w0 G S S3 w w2∧(∀ i∈hs,X3 i=X i)∧∀ b∈g,hp w2 b=hp w b∧(∀ m,¬ S3 m b)∧∀ i,b ∉ X3 i:=by
 have hB:=(hI.shareL hs).back h2
 let S3:Stab:=fun m b=>S m b∨S2 .keep b
 have hS12:∀ m b,S m b→S2 m b:=fun m b h=>hg.more m b (.inl (.inl h))
 have hstill:∀ m b,S m b→hp w2 b=hp w b:=fun m b h=>hg.still m b (.inl (.inl h))
 have hown:∀ i∈hs,∀ b∈X i,hp w2 b=hp w b:=fun i hi b hb=>hg.still .lend b (.inl (.inr ⟨rfl,i,hi,hb⟩))
 -- what is kept since is none of them
 have hkeep:∀ b,S2 .keep b→S .keep b∨w.heap.size≤b∨∃ j,b∈Xk X hs j:=by
  intro b hb
  rcases hg.new b hb with ((h | ⟨h,_⟩) | ⟨h,_⟩) | h | h
  ·exact .inl h
  ·cases h
  ·cases h
  ·exact .inr (.inl h)
  ·exact .inr (.inr h)
 have hk3:∀ b,S2 .keep b→S .keep b∨w0.heap.size≤b∨b∈G:=by
  intro b hb
  rcases hkeep b hb with h | h | ⟨j,hj⟩
  ·exact .inl h
  ·exact .inr (.inl (Nat.le_trans hI.frm.size h))
  ·exact .inr ((hI.own j b (Xk_sub hj).1).2.2)
 have hnot:∀ i∈hs,∀ b∈X i,¬ S2 .keep b:=by
  intro i hi b hb h
  rcases hkeep b h with h | h | ⟨j,hj⟩
  ·exact (hI.own i b hb).2.1 _ h
  ·have:=(hI.own i b hb).1;omega
  ·obtain ⟨e1,e2⟩:=Xk_sub hj
   exact hI.dis i j b (by rintro rfl;exact e2 hi) hb e1
 have hnot2:∀ i∈hs,∀ b∈X i,∀ j,b ∉ X2 j:=by
  intro i hi b hb j hj
  rcases (h2.own j b hj).2.2 with h | ⟨j',hj'⟩
  ·have:=(hI.own i b hb).1;omega
  ·obtain ⟨e1,e2⟩:=Xk_sub hj'
   exact hI.dis i j' b (by rintro rfl;exact e2 hi) hb e1
 let X3:Nat→List Nat:=fun i=>if hs.elem i=true then X i else match unR hs st st2 i with
  | some _=>X2 i
  | none=>[]
 let pls3:Nat→Pl:=fun i=>if hs.elem i=true then pls i else pls2 i
 have x3:∀ i b,b∈X3 i→(i∈hs∧b∈X i)∨(i ∉ hs∧b∈X2 i):=by
  intro i b hb
  simp only [X3] at hb
  split at hb
  ·rename_i h;exact .inl ⟨List.mem_of_elem_eq_true h,hb⟩
  ·rename_i h
   split at hb
   ·exact .inr ⟨fun hm=>h (List.elem_eq_true_of_mem hm),hb⟩
   ·cases hb
 have hroots:∀ i r,unR hs st st2 i=some r→RootRel S3 (hp w2) (pls3 i) r (X3 i):=by
  intro i r hr
  have hr0:=hr
  unfold unR at hr
  split at hr
  ·rename_i hm
   have hmm:=List.mem_of_elem_eq_true hm
   have h:=hI.roots i r hr
   have e1:pls3 i=pls i:=by simp only [pls3];rw [if_pos hm]
   have e2:X3 i=X i:=by simp only [X3];rw [if_pos hm]
   rw [e1,e2]
   have hX0:=hown i hmm
   obtain ⟨k,τ,x⟩:=r
   cases k <;> cases hpl:pls i <;> rw [hpl] at h <;> simp only [RootRel] at h ⊢
   ·obtain ⟨vs,l,fp,h1,h2,h4⟩:=h
    refine ⟨vs,l,fp,h1.heap (fun B o' e=>hX0 B ?_),(h2.heap hstill (fun b hb=>hX0 b (by rw [h4];simp [hb]))).stab (fun _ _ h=>.inl h),h4⟩
    obtain ⟨_,_,rfl,_⟩:=h1
    simp only [sI,Prod.mk.injEq] at e
    rw [h4];simp [e.1]
   ·exact (h.heap hstill hX0).stab (fun _ _ h=>.inl h)
  ·rename_i hm
   split at hr
   ·rename_i r2 hr2
    split at hr
    ·rename_i hnl
     cases hr
     have h:=hB.roots i r hr2
     have e1:pls3 i=pls2 i:=by simp only [pls3];rw [if_neg hm]
     have e2:X3 i=X2 i:=by simp only [X3];rw [if_neg hm,hr0]
     rw [e1,e2]
     have hkk:∀ b,S2 .keep b→∀ m,S3 m b:=fun b hb m=>.inr hb
     obtain ⟨k,τ,x⟩:=r
     cases k <;> cases hpl:pls2 i <;> rw [hpl] at h <;> simp only [RootRel] at h ⊢
     ·obtain ⟨vs,l,fp,h1,h3,h4⟩:=h
      exact ⟨vs,l,fp,h1,Rep.keep0 hkk hnl h3,h4⟩
     ·exact Rep.keep0 hkk hnl h
    ·cases hr
   ·cases hr
 refine ⟨S3,pls3,X3,{ frm:=hB.frm,size:=hB.size,defers:=hB.defers,stab:=?_,kl:=?_,own:=?_,nd:=?_,dis:=?_,roots:=hroots,tmps:=?_,glb:=⟨fun b hb=>.inl (hI.glb.1 b hb),hB.glb.2⟩,pin:=?_ },?_,fun i hi=>by simp only [X3];rw [if_pos (List.elem_eq_true_of_mem hi)],fun b hb=>⟨hg.still .lend b (.inr ⟨rfl,hb⟩),?_,?_⟩⟩
 ·rintro m b (h | h)
  ·have:=hI.stab m b h;have:=h2.frm.size;omega
  ·exact hB.stab _ b h
 ·rintro b (h | h)
  ·exact .inl (hI.kl b h)
  ·exact .inr h
 ·intro i b hb
  rcases x3 i b hb with ⟨hi,h⟩ | ⟨hi,h⟩
  ·obtain ⟨k1,k2,k3⟩:=hI.own i b h
   refine ⟨by have:=h2.frm.size;omega,?_,k3⟩
   rintro m (h' | h')
   ·exact k2 m h'
   ·exact hnot i hi b h h'
  ·obtain ⟨k1,k2,k3⟩:=hB.own i b h
   refine ⟨k1,?_,k3⟩
   rintro m (h' | h')
   ·exact k2 m (hS12 m b h')
   ·exact k2 _ h'
 ·intro i
  simp only [X3]
  split
  ·exact hI.nd i
  ·split
   ·exact hB.nd i
   ·simp
 ·intro i j b hne hb hb'
  rcases x3 i b hb with ⟨hi,h⟩ | ⟨hi,h⟩ <;> rcases x3 j b hb' with ⟨hj,h'⟩ | ⟨hj,h'⟩
  ·exact hI.dis i j b hne h h'
  ·exact hnot2 i hi b h j h'
  ·exact hnot2 j hj b h' i h
  ·exact hB.dis i j b hne h h'
 ·intro t
  have one:∀ {val:Value}{v:AV},goodV (unR hs st st2) hs v=true→VRel S2 (hp w2) pls2 st2.roots val v→VRel S3 (hp w2) pls3 (unR hs st st2) val v:=by
   intro val v hgv hv
   have same:∀ id,v.refs=some id→hs.elem id=false→(unR hs st st2 id).isSome=true→(∀ τ x,v≠.v τ x)→(∀ τ x,v≠.sptr τ x)→VRel S3 (hp w2) pls3 (unR hs st st2) val v:=by
    intro id hid hn hsm hv1 hv2
    obtain ⟨r,hr⟩:=Option.isSome_iff_exists.1 hsm
    have hr2:st2.roots id=some r:=by
     unfold unR at hr
     rw [if_neg (by rw [hn];simp)] at hr
     split at hr
     ·rename_i r2 h2'
      split at hr
      ·cases hr;exact h2'
      ·cases hr
     ·cases hr
    have hp3:pls3 id=pls2 id:=by simp only [pls3];rw [if_neg (by rw [hn];simp)]
    cases v with
    | v τ x=>exact absurd rfl (hv1 τ x)
    | sptr τ x=>exact absurd rfl (hv2 τ x)
    | junk=>exact trivial
    | ref id' p =>
     cases hid
     obtain ⟨r',hr',σ,y,vs,l,vs',l',g1,g2,g3,g4,g5⟩:=hv
     rw [hr2] at hr';cases hr'
     exact ⟨r,hr,σ,y,vs,l,vs',l',g1,g2,by rw [hp3];exact g3,g4,g5⟩
    | ptr id' p =>
     cases hid
     obtain ⟨r',hr',σ,y,vs,l,vs',b,off,g1,g2,g3,g4,g5⟩:=hv
     rw [hr2] at hr';cases hr'
     exact ⟨r,hr,σ,y,vs,l,vs',b,off,g1,g2,by rw [hp3];exact g3,g4,g5⟩
   cases v with
   | v τ x =>
    simp only [goodV] at hgv
    obtain ⟨ws,e,h⟩:=hv
    exact ⟨ws,e,Rep.keep0 (fun b hb m=>.inr hb) hgv h⟩
   | sptr τ x=>simp [goodV] at hgv
   | junk=>exact trivial
   | ref id p =>
    simp only [goodV,bA,Bool.not_eq_true'] at hgv
    exact same id rfl hgv.1 hgv.2 (by simp) (by simp)
   | ptr id p =>
    simp only [goodV,bA,Bool.not_eq_true'] at hgv
    exact same id rfl hgv.1 hgv.2 (by simp) (by simp)
  have good:TRel S3 (hp w2) pls3 (unR hs st st2) (a2.tmps.getD t undef) (goodT (unR hs st st2) hs (st2.tmps t)):=by
   have hv:=hB.tmps t
   cases htv:st2.tmps t with
   | tup l =>
    rw [htv] at hv
    obtain ⟨vs,e,h⟩:=hv
    simp only [goodT]
    split
    ·rename_i hgl
     refine ⟨vs,e,?_⟩
     clear e htv
     induction l generalizing vs with
     | nil=>cases vs <;> first | trivial | exact h
     | cons v l ih =>
      simp only [List.all_cons,bA] at hgl
      cases vs with
      | nil=>exact h
      | cons x vs=>exact ⟨one hgl.1 h.1,ih _ h.2 hgl.2⟩
    ·exact trivial
   | a v =>
    rw [htv] at hv
    simp only [goodT]
    split
    ·rename_i hgv
     exact one hgv hv
    ·exact trivial
  simp only [Rf.unshare]
  split
  ·rename_i v hv0
   split
   ·rename_i hc
    have hv:=hI.tmps t
    rw [hv0] at hv
    have hW:t ∉ W:=fun hm=>by rw [List.elem_eq_true_of_mem hm] at hc;exact absurd hc.1 (by simp)
    rw [hfr t hW]
    refine VRel.heap hI.roots hstill (fun _ _ h=>.inl h) (fun id hid=>?_) hv
    have hm:hs.elem id=true:=by
     have:=hc.2
     cases v <;> simp only [AV.refs,sI,reduceCtorEq] at hid
     ·subst hid;exact this
     ·subst hid;exact this
    refine ⟨?_,by simp only [pls3];rw [if_pos hm],hown id (List.mem_of_elem_eq_true hm)⟩
    unfold unR
    rw [if_pos hm]
   ·exact good
  ·exact good
 ·intro i r hr hk
  have hr:unR hs st st2 i=some r:=hr
  unfold unR at hr
  split at hr
  ·rename_i hm
   have e1:pls3 i=pls i:=by simp only [pls3];rw [if_pos hm]
   rw [e1];exact hI.pin i r hr hk
  ·rename_i hm
   have e1:pls3 i=pls2 i:=by simp only [pls3];rw [if_neg hm]
   rw [e1]
   split at hr
   ·rename_i r2 h2'
    split at hr
    ·cases hr;exact hB.pin i r h2' hk
    ·cases hr
   ·cases hr
 ·refine ⟨fun m b h=>.inl h,hstill,?_,?_⟩
  ·rintro b (h | h)
   ·exact .inl h
   ·exact hk3 b h
  ·rintro m b (h | h)
   ·exact .inl ⟨m,h⟩
   ·rcases hk3 b h with h | h
    ·exact .inl ⟨_,h⟩
    ·exact .inr h
 ·rintro m (h | h)
  ·exact (hgh b hb).2.1 m h
  ·rcases hkeep b h with h | h | ⟨j,hj⟩
   ·exact (hgh b hb).2.1 _ h
   ·have:=(hgh b hb).1;omega
   ·exact (hgh b hb).2.2 j (Xk_sub hj).1
 ·intro i hbi
  rcases x3 i b hbi with ⟨_,h⟩ | ⟨_,h⟩
  ·exact (hgh b hb).2.2 i h
  ·exact (h2.own i b h).2.1 _ (hg.more .lend b (.inr ⟨rfl,hb⟩))
theorem Inv.unshare {w2:World}{a2:Act}{st2:St}{S2:Stab}{pls2:Nat→Pl}{X2:Nat→List Nat}{W hs:List Nat} (hI:Inv C w0 G st a w S pls X)
  (h2:Inv C w (owned G (Xk X hs)) st2 a2 w2 S2 pls2 X2) (hg:Grows w (owned G (Xk X hs)) (SLh S X hs) S2 w w2) (hfr:∀ t,t ∉ W→a2.tmps.getD t undef=a.tmps.getD t undef) :
  ∃ S3 pls3 X3,Inv C w0 G (Rf.unshare W hs st st2) a2 w2 S3 pls3 X3∧Grows w0 G S S3 w w2:=by
 obtain ⟨S3,pls3,X3,h,h',_⟩:=Inv.unshareg (g:=[]) (fun b hb=>by cases hb) hI h2 (by rw [SLg_nil];exact hg) hfr
 exact ⟨S3,pls3,X3,h,h'⟩
end
end Go.Rf
namespace Go.Rf
def rdOp:Op→Bool
 | .load ..=>true
 | .convert ..=>true
 | _=>false
theorem rdRoot_op {st:St}{op:Op}{id:Nat} (h:rdRoot st op=some id):rdOp op=true:=by
 cases op <;> first | rfl | (simp [rdRoot] at h)
def waitsB (ops:Array Oper) (F:List Nat) (i:Nat):Bool :=
 F.all fun f=>match ops[f]? with
  | some o=>!rdOp o.op || reachB ops ops.size i f
  | none=>true
def cutT (ops:Array Oper) (F:List Nat):List Nat→List Nat×List Nat
 | []=>([],[])
 | i::l=>if waitsB ops F i=true then ([],i::l) else (i::(cutT ops F l).1,(cutT ops F l).2)
theorem cutT_eq {ops:Array Oper}{F:List Nat}:∀ l:List Nat,(cutT ops F l).1++(cutT ops F l).2=l:=by
 intro l
 induction l with
 | nil=>rfl
 | cons i l ih =>
  simp only [cutT]
  split
  ·rfl
  ·simp [ih]
def order2 (ops:Array Oper) (tail T2 F:List Nat):Bool :=
 ((List.range ops.size).all fun i=>match ops[i]? with
  | none=>false
  | some o=>(preds o).all fun k=>Nat.blt k i) &&
 (tail.all fun i=>tail.all fun j=>!(Nat.blt j i) || reachB ops ops.size i j) && T2.all (waitsB ops F)
def drawK2 (E:Cz) (ops:Array Oper){R:Type} (st:St) (K:St→Option R):Option R :=
 if order2 ops (tailI ops 0 (flo ops 0)) (cutT ops (flo ops 0) (tailI ops 0 (flo ops 0))).2 (flo ops 0)=true∧Region.noSelect ops=true then
  floatK E ops (flo ops 0) st [] fun stF hs =>
   opsK E ops (ops.size+ops.size) [] ((cutT ops (flo ops 0) (tailI ops 0 (flo ops 0))).1.filterMap (ops[·]?)) (shareL stF hs) fun st2 =>
    opsK E ops (ops.size+ops.size) [] ((cutT ops (flo ops 0) (tailI ops 0 (flo ops 0))).2.filterMap (ops[·]?)) (unshare (dsts ((cutT ops (flo ops 0) (tailI ops 0 (flo ops 0))).1.filterMap (ops[·]?))) hs stF st2) K
 else none
section
variable {P:Program}{E:Cz}{w0 w w':World}{G:Blk}{st st':St}{a:Act}{S:Stab}{pls:Nat→Pl}{X:Nat→List Nat}{ops:Array Oper}
theorem Inv.grows {C:Cx} (hI:Inv C w0 G st a w S pls X){S':Stab}{w2:World} (hg:Grows w (owned G X) S S' w w2):Grows w0 G S S' w w2:=by
 refine ⟨hg.more,hg.still,fun b hb=>?_,fun m b hb=>?_⟩
 ·rcases hg.new b hb with h | h | ⟨j,hj⟩
  ·exact .inl h
  ·exact .inr (.inl (Nat.le_trans hI.frm.size h))
  ·exact .inr ((hI.own j b hj).2.2)
 ·rcases hg.any m b hb with h | h | ⟨j,hj⟩
  ·exact .inl h
  ·exact .inr (.inl (Nat.le_trans hI.frm.size h))
  ·exact .inr ((hI.own j b hj).2.2)
theorem float_soundL (hT:TabOK P E.tab) (hs:Region.noSelect ops=true){Q:Exit→Act→World→Prop} (hpan:∀ c a w,¬ Q (.panic c) a w){SS:Array Bool→World→Prop}{a0:Act}{hsF:List Nat}
  (hS1:∀ i∈flo ops 0,∀ L w,SS (L.setIfInBounds i true) w↔SS L w) (hS2:∀ i∈flo ops 0,∀ o,ops[i]?=some o→∀ L w',L.size=ops.size→Closed ops L→L.getD i false=false→SS L w' →
   (∀ m b,S m b→hp w' b=hp w b)∧(rdOp o.op=true→∀ id,id∈hsF→∀ b∈X id,hp w' b=hp w b)){stF:St} :
  ∀ (is:List Nat) (fuel:Nat){listed:Array Bool}{st:St}{hs0:List Nat}{a:Act},(∀ i∈floats ops is listed,i∈flo ops 0)→FTr E ops (floats ops is listed) st hs0 stF hsF→listed.size=ops.size→Closed ops listed→left listed≤fuel→SS listed w →
   Inv E.toCx w0 G st a w S pls X→(∀ t,t ∉ dsts ops.toList→a.tmps.getD t undef=a0.tmps.getD t undef∧st.tmps t=stF.tmps t) →
   (∀ (fuel:Nat){listed':Array Bool}{a':Act},listed'.size=ops.size→Closed ops listed'→left listed'≤fuel→(∀ j,listed'.getD j false=(listed.getD j false || (floats ops is listed).elem j && decide (j<ops.size)))→SS listed' w →
    Inv E.toCx w0 G stF a' w S pls X→(∀ t,t ∉ dsts ops.toList→a'.tmps.getD t undef=a0.tmps.getD t undef)→wpAnyL P ops Q SS fuel listed' a' w)→wpAnyL P ops Q SS fuel listed a w:=by
 intro is
 induction is with
 | nil =>
  intro fuel listed st hs0 a _ h hsz hc hf hSS hI hfr hend
  simp only [floats] at h
  cases h
  exact hend fuel hsz hc hf (fun j=>by simp [floats]) hSS hI (fun t ht=>(hfr t ht).1)
 | cons i is ih =>
  intro fuel listed st hs0 a hsub h hsz hc hf hSS hI hfr hend
  simp only [floats] at h hend hsub
  split at h
  ·rename_i hcan
   rw [if_pos hcan] at hend hsub
   cases h with
   | @cons _ d _ _ _ _ _ o tv ho hdst hlt hp h =>
    have hcan':=hcan
    unfold canFloat at hcan'
    rw [ho] at hcan'
    simp only [bA] at hcan'
    obtain ⟨⟨hmv,hfree⟩,hrd⟩:=hcan'
    have hg:o.guard=none:=by
     split at hmv <;> first | assumption | (exact absurd hmv (by simp))
    have hrd':i∈Region.ready .any ops listed:=by simpa using hrd
    have hun:=(ready_preds.1 hrd').1
    have hleft:=left_set hun
    have hilt:i<ops.size:=(Array.getElem?_eq_some_iff.1 ho).1
    have hif:=hsub i (by simp)
    obtain ⟨v,hrun,hv⟩:=pure_run hT hI hp
    cases fuel with
    | zero=>omega
    | succ f =>
     have hSi:=(hS1 i hif listed w).2 hSS
     refine wpAnyL_first (Y:=fun w'=>Same S X st o.op w w') (v:=v) ho (Region.noSelect_spec hs) (fun c a w hq=>absurd hq (hpan _ _ _)) (hS1 i hif) (fun L w' h1 h2 h3 h4=>?_) f listed a w hsz hc (Region.free_spec ho hfree) hrd' ?_ hSS ?_
     ·obtain ⟨j1,j2⟩:=hS2 i hif o ho L w' h1 h2 h3 h4
      exact ⟨j1,fun id hid=>j2 (rdRoot_op hid) id (h.sub id (addH_mem.2.1 id hid))⟩
     ·exact .inl ⟨by simp [Region.wanted,hg],fun w' hw'=>hrun w' hw'⟩
     have hput:Inv E.toCx w0 G (st.put (some d) tv) (a.put o.dst v) w S pls X:=by
      rw [hdst]
      exact hI.put (fun d' e=>by cases e;exact hlt) hv
     have hdm:d∈dsts ops.toList:=by
      simp only [dsts,List.mem_filterMap]
      exact ⟨o,by have:=Array.mem_of_getElem? ho;simpa using this,hdst⟩
     refine ih f (fun j hj=>hsub j (by simp [hj])) h (by simp [hsz]) (hc.add hrd') (by omega) hSi hput ?_ ?_
     ·intro t ht
      obtain ⟨e1,e2⟩:=hfr t ht
      refine ⟨?_,?_⟩
      ·rw [act_put ?_]
       ·exact e1
       ·intro e
        rw [hdst] at e;cases e
        exact ht hdm
      ·rw [put_other (fun e=>ht (by rw [e];exact hdm))]
       exact e2
     ·intro fuel' listed' a' hsz' hc' hf' hl' hS' hI' hfr'
      refine hend fuel' hsz' hc' hf' (fun j=>?_) hS' hI' hfr'
      rw [hl' j,set_getD]
      by_cases e:i=j
      ·subst e
       rw [if_pos ⟨rfl,by omega⟩]
       simp [hilt]
      ·rw [if_neg (by simp [e])]
       have:¬ j=i:=fun h=>e h.symm
       simp [this]
  ·rename_i hcan
   rw [if_neg hcan] at hend hsub
   exact ih fuel hsub h hsz hc hf hSS hI hfr hend
theorem draw2_sound (hE:EnvOK P E) (hm:P.follows .mixedOrders=true){R:Type}{id:Nat}
  {K:St→Option R}{r:R}{Q:Exit→Act→World→Prop} (hpan:∀ c a w,¬ Q (.panic c) a w) (hI:Inv E.toCx w0 G st a w S pls X) (h:drawK2 E ops st K=some r)
  (hQ:∀ st' a' w',K st'=some r→Fits E.toCx w0 G S w st' a' w'→(∀ t,t ∉ dsts ops.toList→a'.tmps.getD t undef=a.tmps.getD t undef)→Q .normal a' w'):(Code.region id ops true).wp P Q a w:=by
 unfold drawK2 at h
 split at h
 rotate_left
 ·cases h
 rename_i hc
 obtain ⟨hc1,hc3⟩:=hc
 generalize hF:flo ops 0=F at h hc1
 generalize htl:tailI ops 0 F=tail at h hc1
 have hcut:=cutT_eq (ops:=ops) (F:=F) tail
 generalize hT1:(cutT ops F tail).1=T1 at h hcut
 generalize hT2:(cutT ops F tail).2=T2 at h hcut hc1
 simp only [order2,bA] at hc1
 obtain ⟨⟨ho1,ho2⟩,ho3⟩:=hc1
 have hback:∀ i o,ops[i]?=some o→∀ k∈preds o,k<i:=by
  intro i o ho k hk
  have hlt:i<ops.size:=(Array.getElem?_eq_some_iff.1 ho).1
  have:=List.all_eq_true.1 ho1 i (List.mem_range.2 hlt)
  rw [ho] at this
  have:=List.all_eq_true.1 this k hk
  exact Nat.succ_le_iff.1 (Nat.le_of_ble_eq_true this)
 have hch:Chain ops tail:=by
  refine ⟨hback,fun i hi=>by rw [← htl] at hi;exact (tailI_mem.1 hi).1,fun i hi j hj hji=>?_⟩
  have:=List.all_eq_true.1 (List.all_eq_true.1 ho2 i hi) j hj
  simp only [Bool.or_eq_true,Bool.not_eq_true'] at this
  rcases this with h | h
  ·have hb:Nat.blt j i=true:=by rw [Nat.blt_eq];exact hji
   rw [hb] at h;cases h
  ·exact h
 have hwait:∀ j∈T2,∀ f∈F,∀ o,ops[f]?=some o→rdOp o.op=true→reachB ops ops.size j f=true:=by
  intro j hj f hf o ho hr
  have:=List.all_eq_true.1 (List.all_eq_true.1 ho3 j hj) f hf
  rw [ho] at this
  simpa [hr] using this
 have hFlt:∀ i∈F,i<ops.size:=fun i hi=>by
  rw [← hF] at hi
  have:=floats_sub ops _ _ i hi
  simp only [List.mem_filter,List.mem_range] at this
  exact this.1
 have hFT2:∀ i∈F,i ∉ T2:=fun i hi hm=>by
  have:i∈tail:=by rw [← hcut];exact List.mem_append.2 (.inr hm)
  rw [← htl] at this
  exact (tailI_mem.1 this).2.2 hi
 obtain ⟨stF,hsF,htr,h⟩:=floatK_tr h
 have hI':Inv E.toCx w0 G st a w.drew S pls X:=hI.drew
 let SS:Array Bool→World→Prop:=fun L w'=>(∀ m b,S m b→hp w' b=hp w.drew b)∧((∀ j∈T2,L.getD j false=false)→∀ id,id∈hsF→∀ b∈X id,hp w' b=hp w.drew b)
 have hst:∀ t,t ∉ dsts ops.toList→st.tmps t=stF.tmps t:=by
  have:∀ {is hs hsF:List Nat}{st stF:St},FTr E ops is st hs stF hsF→∀ t,t ∉ dsts ops.toList→st.tmps t=stF.tmps t:=by
   intro is hs hsF st stF h
   induction h with
   | nil=>exact fun _ _=>rfl
   | @cons i d _ _ _ _ _ o tv ho hd _ _ _ ih =>
    intro t ht
    rw [← ih t ht,put_other]
    rintro rfl
    apply ht
    simp only [dsts,List.mem_filterMap]
    exact ⟨o,by have:=Array.mem_of_getElem? ho;simpa using this,hd⟩
  exact this htr
 have hS1:∀ i∈flo ops 0,∀ L w',SS (L.setIfInBounds i true) w'↔SS L w':=by
  intro i hi L w'
  rw [hF] at hi
  have e:∀ j∈T2,(L.setIfInBounds i true).getD j false=L.getD j false:=fun j hj=>set_ne (by rintro rfl;exact hFT2 i hi hj)
  constructor
  ·rintro ⟨h1,h2⟩
   exact ⟨h1,fun hl=>h2 (fun j hj=>by rw [e j hj];exact hl j hj)⟩
  ·rintro ⟨h1,h2⟩
   exact ⟨h1,fun hl=>h2 (fun j hj=>by rw [← e j hj];exact hl j hj)⟩
 have hS2:∀ i∈flo ops 0,∀ o,ops[i]?=some o→∀ L w',L.size=ops.size→Closed ops L→L.getD i false=false→SS L w'→(∀ m b,S m b→hp w' b=hp w.drew b)∧(rdOp o.op=true→∀ id,id∈hsF→∀ b∈X id,hp w' b=hp w.drew b):=by
  rintro i hi o ho L w' hsz hc hl ⟨h1,h2⟩
  rw [hF] at hi
  refine ⟨h1,fun hr=>h2 (fun j hj=>?_)⟩
  cases e:L.getD j false with
  | false=>rfl
  | true =>
   exfalso
   have:=reach_listed hc ops.size j i (hwait j hj i hi o ho hr) (fun o' ho' k hk=>hc j o' ho' e k hk)
   rw [hl] at this;cases this
 have hSS0:∀ L,SS L w.drew:=fun L=>⟨fun _ _ _=>rfl,fun _ _ _ _ _=>rfl⟩
 refine wp_region_any hm (wpAny_of_L (S:=SS) _ _ _ _ ?_)
 have htr':FTr E ops (flo ops 0) st [] stF hsF:=by rw [hF];exact htr
 refine float_soundL (w:=w.drew) (a0:=a) (SS:=SS) (hsF:=hsF) hE.tab hc3 hpan hS1 hS2 _ ops.size (fun i hi=>hi) htr' (by simp) ?_ ?_ (hSS0 _) hI' (fun t ht=>⟨rfl,hst t ht⟩) ?_
 ·intro k o ho hk
  rw [getD_rep] at hk;cases hk
 ·unfold left
  refine Nat.le_trans (List.length_filter_le _ _) ?_
  simp
 ·intro fuel listed' a0 hsz' hcl hf' hl' hSS hI0 hfr0
  have hl2:∀ j,j<ops.size→listed'.getD j false=F.elem j:=fun j hj=>by
   rw [hl' j,getD_rep]
   simp only [Bool.false_or]
   have e:floats ops ((List.range ops.size).filter fun i=>Nat.ble 0 i) (Array.replicate ops.size false)=F:=hF
   rw [e];simp [hj]
  have hIs:=hI0.shareL hsF
  have hIh:=hIs.here
  let J1:World→Prop:=fun w'=>(∀ m b,S m b→hp w' b=hp w.drew b)∧∀ id,id∈hsF→∀ b∈X id,hp w' b=hp w.drew b
  let J2:World→Prop:=fun w'=>∀ m b,S m b→hp w' b=hp w.drew b
  have hJ1:∀ {st:St}{a:Act}{w':World}{S':Stab}{pls':Nat→Pl}{X':Nat→List Nat},Inv E.toCx w.drew (owned G (Xk X hsF)) st a w' S' pls' X'→J1 w':=by
   intro st a w' S' pls' X' hI2
   refine ⟨fun m b hb=>hI2.frm.block b (hI0.stab m b hb) ?_,fun i hi b hb=>hI2.frm.block b (hI0.own i b hb).1 ?_⟩
   ·rintro ⟨j,hj⟩
    exact (hI0.own j b (Xk_sub hj).1).2.1 m hb
   ·rintro ⟨j,hj⟩
    obtain ⟨e1,e2⟩:=Xk_sub hj
    exact hI0.dis i j b (by rintro rfl;exact e2 hi) hb e1
  have htailP:(T1++T2).Pairwise (·<·):=by rw [hcut,← htl];exact tailI_sorted
  refine tail_L (S:=SS) (J1:=J1) (J2:=J2) (l:=tail) (T2:=T2) hch (fun L w' _ h=>⟨h.1,fun _=>h.2⟩) (fun L w' _ hex h=>⟨h,fun hno=>?_⟩) (fun w' h=>h.1) T1 fuel htailP (fun i hi=>by rw [hcut] at hi;exact hi) hsz' hcl ?_ hf' ⟨fun _ _ _=>rfl,fun _ _ _ _=>rfl⟩ ?_
  ·obtain ⟨j,hj,hjl⟩:=hex
   rw [hno j hj] at hjl;cases hjl
  ·intro j hj
   rw [hl2 j hj,hcut,← htl]
   cases e:F.elem j with
   | true =>
    have:j ∉ tailI ops 0 F:=fun hm=>(tailI_mem.1 hm).2.2 (List.mem_of_elem_eq_true e)
    simp [this]
   | false =>
    have:j∈tailI ops 0 F:=tailI_mem.2 ⟨hj,Nat.zero_le _,fun hm=>by rw [List.elem_eq_true_of_mem hm] at e;cases e⟩
    simp [this]
  ·refine wpL_mono _ ?_ (opsK_sound hE hJ1 _ _ _ h hIh)
   rintro a2 w2 ⟨st2,k1,⟨S2,pls2,X2,hI2,hg2⟩,k3,_⟩ _
   have hdst:∀ {l:List Nat}{t:Nat},t ∉ dsts ops.toList→t ∉ dsts (l.filterMap (ops[·]?)):=by
    intro l t ht hm
    apply ht
    simp only [dsts,List.mem_filterMap] at hm ⊢
    obtain ⟨o,⟨i,_,ho⟩,hd⟩:=hm
    exact ⟨o,by have:=Array.mem_of_getElem? ho;simpa using this,hd⟩
   have hfr2:∀ t,t ∉ dsts ops.toList→a2.tmps.getD t undef=a0.tmps.getD t undef:=fun t ht=>k3 t (hdst ht)
   obtain ⟨S3,pls3,X3,hI3,hg3⟩:=Inv.unshare (W:=dsts (T1.filterMap (ops[·]?))) hI0 hI2 hg2 (fun t ht=>k3 t ht)
   have hI3h:=hI3.here
   have hJ2:∀ {st:St}{a:Act}{w':World}{S':Stab}{pls':Nat→Pl}{X':Nat→List Nat},Inv E.toCx w2 (owned G X3) st a w' S' pls' X'→J2 w':=by
    intro st a w' S' pls' X' hI4 m b hb
    rw [hI4.frm.block b (hI3.stab m b (hg3.more m b hb)) ?_]
    ·exact hg3.still m b hb
    ·rintro ⟨j,hj⟩
     exact (hI3.own j b hj).2.1 m (hg3.more m b hb)
   refine wpL_mono _ ?_ (opsK_sound hE hJ2 _ _ _ k1 hI3h)
   rintro a4 w4 ⟨st4,q1,⟨S4,pls4,X4,hI4,hg4⟩,q3,_⟩
   have hgg:=hg3.trans (hI3.grows hg4)
   refine hQ st4 a4 w4 q1 ⟨S4,pls4,X4,hI3.back hI4,hgg.more,fun m b hb=>hgg.still m b hb,hgg.new,hgg.any⟩ (fun t ht=>?_)
   rw [q3 t (hdst ht),hfr2 t ht,hfr0 t ht]
end
end Go.Rf
namespace Go.Rf
section
variable {P:Program}{C:Cx}{w0 w w':World}{G:Blk}{st st':St}{a:Act}{S:Stab}{pls:Nat→Pl}{X:Nat→List Nat}
theorem Inv.addG (hI:Inv C w0 G st a w S pls X){g:List Nat} (hgh:∀ b∈g,b<w.heap.size∧∀ i,b ∉ X i):Inv C w0 G st a w (fun m b=>S m b∨(m=.lend∧b∈g)) pls X:=by
 have hSS:∀ m b,S m b→(S m b∨(m=.lend∧b∈g)):=fun _ _ h=>.inl h
 have same:∀ {val:Value}{v:AV},VRel S (hp w) pls st.roots val v→VRel (fun m b=>S m b∨(m=.lend∧b∈g)) (hp w) pls st.roots val v:=by
  intro val v h
  exact VRel.heap hI.roots (fun _ _ _=>rfl) hSS (fun id hid=>⟨rfl,rfl,fun _ _=>rfl⟩) h
 refine { frm:=hI.frm,size:=hI.size,defers:=hI.defers,stab:=?_,kl:=?_,own:=?_,nd:=hI.nd,dis:=hI.dis,roots:=?_,tmps:=?_,glb:=⟨fun b hb=>.inl (hI.glb.1 b hb),hI.glb.2⟩,pin:=hI.pin }
 ·rintro m b (h | ⟨_,h⟩)
  ·exact hI.stab m b h
  ·exact (hgh b h).1
 ·rintro b (h | ⟨h,_⟩)
  ·exact .inl (hI.kl b h)
  ·cases h
 ·intro id b hb
  obtain ⟨k1,k2,k3⟩:=hI.own id b hb
  refine ⟨k1,?_,k3⟩
  rintro m (h | ⟨_,h⟩)
  ·exact k2 m h
  ·exact (hgh b h).2 id hb
 ·intro id r hr
  have h:=hI.roots id r hr
  obtain ⟨k,τ,x⟩:=r
  cases k <;> cases hpl:pls id <;> rw [hpl] at h <;> simp only [RootRel] at h ⊢
  ·obtain ⟨vs,l,fp,h1,h2,h3⟩:=h
   exact ⟨vs,l,fp,h1,h2.stab hSS,h3⟩
  ·exact h.stab hSS
 ·intro t
  have hv:=hI.tmps t
  cases htv:st.tmps t with
  | a v=>rw [htv] at hv;exact same hv
  | tup l =>
   rw [htv] at hv
   obtain ⟨vs,e,h⟩:=hv
   refine ⟨vs,e,?_⟩
   clear e htv
   induction l generalizing vs with
   | nil=>cases vs <;> first | trivial | exact h
   | cons v l ih =>
    cases vs with
    | nil=>exact h
    | cons x vs=>exact ⟨same h.1,ih _ h.2⟩
theorem Inv.shareG (hI:Inv C w0 G st a w S pls X) (hs:List Nat){g:List Nat} (hgh:∀ b∈g,b<w.heap.size∧(∀ m,¬ S m b)∧∀ i,b ∉ X i):Inv C w0 G (Rf.shareL st hs) a w (SLg S X hs g) pls (Xk X hs) :=
 (hI.shareL hs).addG (fun b hb=>⟨(hgh b hb).1,fun i h=>(hgh b hb).2.2 i (Xk_sub h).1⟩)
theorem Inv.born (hI:Inv C w0 G st a w S pls X){d:Nat} (h0:st.roots d=none){τ:Ty}{vs:List Value}{x:τ.D}{b el:Nat} (hr:Rep S (hp w) τ vs x []) (hb:hp w b=some (.cells vs.toArray el)) (hf:Free w0 w G S X [b])
  (ht:a.tmps.getD d undef=.pointer (some ⟨b,0,none⟩)) :
  Inv C w0 G ((st.root d ⟨.box false,τ,x⟩).put (some d) (.a (.ptr d []))) a w S (upd pls d (.mem b [] [] el (0,0))) (upd X d [b]):=by
 have hh:Holds (hp w) (.mem b [] [] el (0,0)) τ.size vs (some (b,0)):=⟨by rw [hb];simp,hr.length,rfl,soft0 _⟩
 have h:=hI.newRoot h0 (r:=⟨.box false,τ,x⟩) (pl:=.mem b [] [] el (0,0)) ⟨vs,_,[],hh,hr,rfl⟩ hf.ok hf.nd (fun i hi q hq=>hf.dis i q hq) (by simp [RK.io])
 refine { frm:=h.frm,stab:=h.stab,kl:=h.kl,size:=h.size,defers:=h.defers,glb:=h.glb,pin:=h.pin,own:=h.own,nd:=h.nd,dis:=h.dis,roots:=h.roots,tmps:=fun t=>?_ }
 by_cases e:t=d
 ·subst e
  have e1:((st.root t ⟨.box false,τ,x⟩).put (some t) (.a (.ptr t []))).tmps t=.a (.ptr t []):=by simp [St.put]
  rw [e1,ht]
  refine ⟨⟨.box false,τ,x⟩,by simp [St.root,St.put],τ,x,vs,_,vs,b,0,rfl,trivial,?_,⟨rfl,rfl⟩,rfl⟩
  simp only [upd_same];exact hh
 ·rw [put_other e]
  exact h.tmps t
theorem alloc_run {tab:Nat→Option Ty} (hT:TabOK P tab){d t:Nat}{s:Ty} (hs:tab t=some s){ty:TypeId}{pos:String}{after:Array Edge}{guard:Option (Nat×Bool)} :
  (execOp a.eval ⟨some d,.alloc t,ty,pos,after,guard⟩).run P w=.ok (.value (.pointer (some ⟨w.heap.size,0,none⟩))) (w.alloc (.cells (zeroC s).toArray t)):=by
 have hz:=zero_rep (fun _ _=>False) (hp w) s
 have hc:(valOf s (zeroC s)).cells=(zeroC s).toArray:=by rw [valOf_like (skel_agg (zero_skel s)).symm];exact valOf_cells hz.length hz.oneCell
 simp [execOp,Instr.alloc,newVar,newRow,(hT t s hs).zero,hc]
theorem nil_run {tab:Nat→Option Ty} (hT:TabOK P tab){d t:Nat}{m:Mode}{s:Ty} (hs:tab t=some (.sl m s)){ty:TypeId}{pos:String}{after:Array Edge}{guard:Option (Nat×Bool)} :
  ∃ el,(execOp a.eval ⟨some d,.buildSlice t 0 #[],ty,pos,after,guard⟩).run P w=.ok (.value (.slice (some ⟨w.heap.size,0,none⟩) 0 0)) (w.alloc (.cells #[] el)):=by
 obtain ⟨dd,hdd,hk⟩:=(hT t _ hs).under
 cases dd with
 | slice el =>
  simp only [dk,descOK,beq_iff_eq] at hk
  have hsz:=(hT _ _ hk).size (w:=w)
  exact ⟨el,by simp [execOp,Instr.buildSlice,hdd,hsz,Instr.fill,newRow,show Array.range 0=#[] from rfl]⟩
 | _=>simp [dk,descOK] at hk
end
end Go.Rf
namespace Go.Rf
def lateOp:Op→Bool
 | .move _=>true
 | .extract _ _=>true
 | _=>false
def rdPair (i:Nat):Option Nat→List (Nat×Nat)→List (Nat×Nat)
 | none,prs=>prs
 | some id,prs=>(i,id)::prs
def floatK3 (E:Cz) (ops:Array Oper){R:Type}:List Nat→St→List (Nat×Nat)→(St→List (Nat×Nat)→Option R)→Option R
 | [],st,prs,K=>K st prs
 | i::is,st,prs,K=>match ops[i]? with
  | some o=>(match o.dst with
   | some d=>if d<E.n then pureK E.toCx st o.op fun tv=>floatK3 E ops is (st.put (some d) tv) (rdPair i (rdRoot st o.op) prs) K else none
   | none=>none)
  | none=>none
inductive FTr3 (E:Cz) (ops:Array Oper):List Nat→St→List (Nat×Nat)→St→List (Nat×Nat)→Prop where
 | nil (st:St) (prs:List (Nat×Nat)):FTr3 E ops [] st prs st prs
 | cons {i d:Nat}{is:List Nat}{prs prsF:List (Nat×Nat)}{st stF:St}{o:Oper}{tv:TV} (ho:ops[i]?=some o) (hd:o.dst=some d) (hlt:d<E.n) (hp:pureK E.toCx st o.op some=some tv)
   (h:FTr3 E ops is (st.put (some d) tv) (rdPair i (rdRoot st o.op) prs) stF prsF):FTr3 E ops (i::is) st prs stF prsF
theorem floatK3_tr {E:Cz}{ops:Array Oper}{R:Type}{K:St→List (Nat×Nat)→Option R}{r:R}:∀ {is:List Nat}{st:St}{prs:List (Nat×Nat)},floatK3 E ops is st prs K=some r→∃ stF prsF,FTr3 E ops is st prs stF prsF∧K stF prsF=some r:=by
 intro is
 induction is with
 | nil=>intro st prs h;exact ⟨st,prs,.nil st prs,h⟩
 | cons i is ih =>
  intro st prs h
  simp only [floatK3] at h
  split at h
  ·rename_i o ho
   split at h
   ·rename_i d hd
    split at h
    ·rename_i hlt
     rw [pureK_bind] at h
     obtain ⟨tv,h1,h2⟩:=Option.bind_eq_some_iff.1 h
     obtain ⟨stF,prsF,h3,h4⟩:=ih h2
     exact ⟨stF,prsF,.cons ho hd hlt h1 h3,h4⟩
    ·cases h
   ·cases h
  ·cases h
theorem rdPair_sub {i:Nat}{o:Option Nat}{prs:List (Nat×Nat)}:∀ p∈prs,p∈rdPair i o prs:=by
 cases o with
 | none=>exact fun p h=>h
 | some id=>exact fun p h=>List.mem_cons_of_mem _ h
theorem FTr3.sub {E:Cz}{ops:Array Oper}{is:List Nat}{prs prsF:List (Nat×Nat)}{st stF:St} (h:FTr3 E ops is st prs stF prsF):∀ p∈prs,p∈prsF:=by
 induction h with
 | nil=>exact fun p h=>h
 | cons _ _ _ _ _ ih=>exact fun p h=>ih p (rdPair_sub p h)
theorem FTr3.old {E:Cz}{ops:Array Oper}{is:List Nat}{prs prsF:List (Nat×Nat)}{st stF:St} (h:FTr3 E ops is st prs stF prsF):∀ t,t ∉ dsts ops.toList→st.tmps t=stF.tmps t:=by
 induction h with
 | nil=>exact fun _ _=>rfl
 | @cons i d _ _ _ _ _ o tv ho hd _ _ _ ih =>
  intro t ht
  rw [← ih t ht,put_other]
  rintro rfl
  apply ht
  simp only [dsts,List.mem_filterMap]
  exact ⟨o,by have:=Array.mem_of_getElem? ho;simpa using this,hd⟩
theorem FTr3.roots {E:Cz}{ops:Array Oper}{is:List Nat}{prs prsF:List (Nat×Nat)}{st stF:St} (h:FTr3 E ops is st prs stF prsF):stF.roots=st.roots:=by
 induction h with
 | nil=>rfl
 | cons _ _ _ _ _ ih=>rw [ih];rfl
section
variable {P:Program}{E:Cz}{w0 w w':World}{G:Blk}{st st':St}{a:Act}{S:Stab}{pls:Nat→Pl}{X:Nat→List Nat}{ops:Array Oper}
theorem late_run {o:Oper}{v:Value} (h:lateOp o.op=true) (hr:(execOp a.eval o).run P w=.ok (.value v) w):(execOp a.eval o).run P w'=.ok (.value v) w':=by
 obtain ⟨dst,op,ty,pos,after,guard⟩:=o
 cases op <;> simp only [lateOp,bF] at h
 case move x=>simp [execOp] at hr ⊢;exact hr
 case extract x i =>
  cases e:a.eval x with
  | tuple vs =>
   cases e2:vs[i]? with
   | some u=>simp [execOp,Instr.extract,e,e2] at hr ⊢;exact hr
   | none=>simp [execOp,Instr.extract,e,e2] at hr
  | _=>simp [execOp,Instr.extract,e] at hr
theorem float_sound3 (hT:TabOK P E.tab) (hs:Region.noSelect ops=true){Q:Exit→Act→World→Prop} (hpan:∀ c a w,¬ Q (.panic c) a w){SS:Array Bool→World→Prop}{a0:Act}{prsF:List (Nat×Nat)}
  (hS1:∀ i∈flo ops 0,∀ L w,SS (L.setIfInBounds i true) w↔SS L w) (hS2:∀ i∈flo ops 0,∀ o,ops[i]?=some o→∀ L w',L.size=ops.size→Closed ops L→L.getD i false=false→SS L w' →
   (∀ m b,S m b→hp w' b=hp w b)∧(∀ id,(i,id)∈prsF→∀ b∈X id,hp w' b=hp w b)){stF:St} :
  ∀ (is:List Nat) (fuel:Nat){listed:Array Bool}{st:St}{prs0:List (Nat×Nat)}{a:Act},(∀ i∈floats ops is listed,i∈flo ops 0)→FTr3 E ops (floats ops is listed) st prs0 stF prsF→listed.size=ops.size→Closed ops listed→left listed≤fuel→SS listed w →
   Inv E.toCx w0 G st a w S pls X→(∀ t,t ∉ dsts ops.toList→a.tmps.getD t undef=a0.tmps.getD t undef∧st.tmps t=stF.tmps t) →
   (∀ (fuel:Nat){listed':Array Bool}{a':Act},listed'.size=ops.size→Closed ops listed'→left listed'≤fuel→(∀ j,listed'.getD j false=(listed.getD j false || (floats ops is listed).elem j && decide (j<ops.size)))→SS listed' w →
    Inv E.toCx w0 G stF a' w S pls X→(∀ t,t ∉ dsts ops.toList→a'.tmps.getD t undef=a0.tmps.getD t undef)→wpAnyL P ops Q SS fuel listed' a' w)→wpAnyL P ops Q SS fuel listed a w:=by
 intro is
 induction is with
 | nil =>
  intro fuel listed st prs0 a _ h hsz hc hf hSS hI hfr hend
  simp only [floats] at h
  cases h
  exact hend fuel hsz hc hf (fun j=>by simp [floats]) hSS hI (fun t ht=>(hfr t ht).1)
 | cons i is ih =>
  intro fuel listed st prs0 a hsub h hsz hc hf hSS hI hfr hend
  simp only [floats] at h hend hsub
  split at h
  ·rename_i hcan
   rw [if_pos hcan] at hend hsub
   cases h with
   | @cons _ d _ _ _ _ _ o tv ho hdst hlt hp h =>
    have hcan':=hcan
    unfold canFloat at hcan'
    rw [ho] at hcan'
    simp only [bA] at hcan'
    obtain ⟨⟨hmv,hfree⟩,hrd⟩:=hcan'
    have hg:o.guard=none:=by
     split at hmv <;> first | assumption | (exact absurd hmv (by simp))
    have hrd':i∈Region.ready .any ops listed:=by simpa using hrd
    have hun:=(ready_preds.1 hrd').1
    have hleft:=left_set hun
    have hilt:i<ops.size:=(Array.getElem?_eq_some_iff.1 ho).1
    have hif:=hsub i (by simp)
    obtain ⟨v,hrun,hv⟩:=pure_run hT hI hp
    cases fuel with
    | zero=>omega
    | succ f =>
     have hSi:=(hS1 i hif listed w).2 hSS
     refine wpAnyL_first (Y:=fun w'=>Same S X st o.op w w') (v:=v) ho (Region.noSelect_spec hs) (fun c a w hq=>absurd hq (hpan _ _ _)) (hS1 i hif) (fun L w' h1 h2 h3 h4=>?_) f listed a w hsz hc (Region.free_spec ho hfree) hrd' ?_ hSS ?_
     ·obtain ⟨j1,j2⟩:=hS2 i hif o ho L w' h1 h2 h3 h4
      refine ⟨j1,fun id hid=>j2 id (h.sub _ ?_)⟩
      rw [hid];exact List.mem_cons_self
     ·exact .inl ⟨by simp [Region.wanted,hg],fun w' hw'=>hrun w' hw'⟩
     have hput:Inv E.toCx w0 G (st.put (some d) tv) (a.put o.dst v) w S pls X:=by
      rw [hdst]
      exact hI.put (fun d' e=>by cases e;exact hlt) hv
     have hdm:d∈dsts ops.toList:=by
      simp only [dsts,List.mem_filterMap]
      exact ⟨o,by have:=Array.mem_of_getElem? ho;simpa using this,hdst⟩
     refine ih f (fun j hj=>hsub j (by simp [hj])) h (by simp [hsz]) (hc.add hrd') (by omega) hSi hput ?_ ?_
     ·intro t ht
      obtain ⟨e1,e2⟩:=hfr t ht
      refine ⟨?_,?_⟩
      ·rw [act_put ?_]
       ·exact e1
       ·intro e
        rw [hdst] at e;cases e
        exact ht hdm
      ·rw [put_other (fun e=>ht (by rw [e];exact hdm))]
       exact e2
     ·intro fuel' listed' a' hsz' hc' hf' hl' hS' hI' hfr'
      refine hend fuel' hsz' hc' hf' (fun j=>?_) hS' hI' hfr'
      rw [hl' j,set_getD]
      by_cases e:i=j
      ·subst e
       rw [if_pos ⟨rfl,by omega⟩]
       simp [hilt]
      ·rw [if_neg (by simp [e])]
       have:¬ j=i:=fun h=>e h.symm
       simp [this]
  ·rename_i hcan
   rw [if_neg hcan] at hend hsub
   exact ih fuel hsub h hsz hc hf hSS hI hfr hend
def nilLit (n:Nat) (ps:Array (Nat×Operand)):Bool:=Nat.beq n 0 && ps.toList.isEmpty
theorem nilLit_spec {n:Nat}{ps:Array (Nat×Operand)} (h:nilLit n ps=true):n=0∧ps=#[]:=by
 simp only [nilLit,bA,List.isEmpty_iff] at h
 refine ⟨Nat.eq_of_beq_eq_true h.1,?_⟩
 cases ps with
 | mk l=>simp only at h;rw [h.2]
def bornL (E:Cz) (ops:Array Oper):List Nat→St→Option St
 | [],st=>some st
 | α::al,st=>match ops[α]? with
  | some o=>(match o.op,o.dst with
   | .alloc t,some d=>(match E.tab t,st.roots d with
    | some s,none=>bornL E ops al ((st.root d ⟨.box false,zeroT s,zeroV s⟩).put (some d) (.a (.ptr d [])))
    | _,_=>none)
   | .buildSlice _ n ps,some d=>if nilLit n ps=true∧d<E.n then bornL E ops al (st.put (some d) (.a (.v .nil ()))) else none
   | _,_=>none)
  | none=>none
def Ghv (E:Cz) (o:Oper) (v:Value) (w:World) (b:Nat):Prop :=
 (∃ t s,o.op=.alloc t∧E.tab t=some s∧v=.pointer (some ⟨b,0,none⟩)∧hp w b=some (.cells (zeroC s).toArray t))∨(∃ t,o.op=.buildSlice t 0 #[]∧v=.slice (some ⟨b,0,none⟩) 0 0)
theorem Ghv.heap {E:Cz}{o:Oper}{v:Value}{w w':World}{b:Nat} (h:Ghv E o v w b) (hw:hp w' b=hp w b):Ghv E o v w' b:=by
 rcases h with ⟨t,s,h1,h2,h3,h4⟩ | h
 ·exact .inl ⟨t,s,h1,h2,h3,by rw [hw];exact h4⟩
 ·exact .inr h
structure Gh1 (E:Cz) (ops:Array Oper) (w0:World) (S:Stab) (X:Nat→List Nat) (a:Act) (w:World) (α b:Nat):Prop where
 at_:∃ o d,ops[α]?=some o∧o.dst=some d∧Ghv E o (a.tmps.getD d undef) w b
 lt:b<w.heap.size
 new:w0.heap.size≤b
 stab:∀ m,¬ S m b
 own:∀ i,b ∉ X i
theorem bornL_spec {β:Nat→Nat}:∀ (bl:List Nat){st st':St}{pls:Nat→Pl}{X:Nat→List Nat},Inv E.toCx w0 G st a w S pls X→bornL E ops bl st=some st'→bl.Nodup→(∀ α∈bl,Gh1 E ops w0 S X a w α (β α)) →
  (∀ α∈bl,∀ α'∈bl,β α=β α'→α=α')→∃ pls' X',Inv E.toCx w0 G st' a w S pls' X'∧(∀ i b,b∈X' i→b∈X i∨∃ α∈bl,b=β α)∧∀ i,(∀ α∈bl,∀ o,ops[α]?=some o→o.dst≠some i)→X' i=X i:=by
 intro bl
 induction bl with
 | nil =>
  intro st st' pls X hI h _ _ _
  simp only [bornL,sI] at h
  subst h
  exact ⟨pls,X,hI,fun i b h=>.inl h,fun _ _=>rfl⟩
 | cons α bl ih =>
  intro st st' pls X hI h hnd hgh hne
  simp only [bornL] at h
  split at h
  ·rename_i o ho
   split at h
   ·rename_i t d e1 e2
    split at h
    ·rename_i s hs h0
     have g:=hgh α (by simp)
     obtain ⟨o',d',q1,q3,hgv⟩:=g.at_
     rw [ho] at q1;cases q1
     rw [e2] at q3;cases q3
     have hgv':a.tmps.getD d undef=.pointer (some ⟨β α,0,none⟩)∧hp w (β α)=some (.cells (zeroC s).toArray t):=by
      rcases hgv with ⟨t',s',q2,q4,q5,q6⟩ | ⟨t',q2,_⟩
      ·rw [e1] at q2;cases q2
       rw [hs] at q4;cases q4
       exact ⟨q5,q6⟩
      ·rw [e1] at q2;cases q2
     obtain ⟨q5,q6⟩:=hgv'
     have hnd':=List.nodup_cons.1 hnd
     have hI1:=hI.born h0 (zero_rep S (hp w) s) q6 ⟨fun q hq=>by simp only [List.mem_singleton] at hq;subst hq;exact ⟨g.lt,g.stab,.inl g.new⟩,by simp,fun i q hq=>by simp only [List.mem_singleton] at hq;subst hq;exact g.own i⟩ q5
     obtain ⟨pls',X',k1,k2,k3⟩:=ih hI1 h hnd'.2 (fun α' hα'=>by
      have g':=hgh α' (by simp [hα'])
      refine ⟨g'.at_,g'.lt,g'.new,g'.stab,fun i hi=>?_⟩
      by_cases e:i=d
      ·subst e
       rw [upd_same] at hi
       simp only [List.mem_singleton] at hi
       have:=hne α' (by simp [hα']) α (by simp) hi
       subst this
       exact hnd'.1 hα'
      ·rw [upd_other _ _ e] at hi;exact g'.own i hi) (fun x hx y hy=>hne x (by simp [hx]) y (by simp [hy]))
     refine ⟨pls',X',k1,fun i b hb=>?_,fun i hi=>?_⟩
     ·rcases k2 i b hb with h | ⟨α',h1,h2⟩
      ·by_cases e:i=d
       ·subst e
        rw [upd_same] at h
        simp only [List.mem_singleton] at h
        exact .inr ⟨α,by simp,h⟩
       ·rw [upd_other _ _ e] at h;exact .inl h
      ·exact .inr ⟨α',by simp [h1],h2⟩
     ·rw [k3 i (fun α' hα'=>hi α' (by simp [hα']))]
      have:i≠d:=fun e=>hi α (by simp) o ho (by rw [e2,e])
      rw [upd_other _ _ this]
    ·cases h
   ·rename_i t n ps d e1 e2
    split at h
    ·rename_i hdn
     obtain ⟨_,hdn⟩:=hdn
     have g:=hgh α (by simp)
     obtain ⟨o',d',q1,q3,hgv⟩:=g.at_
     rw [ho] at q1;cases q1
     rw [e2] at q3;cases q3
     have hgv':∃ ad,a.tmps.getD d undef=.slice ad 0 0:=by
      rcases hgv with ⟨t',s',q2,_⟩ | ⟨t',q2,q5⟩
      ·rw [e1] at q2;cases q2
      ·exact ⟨_,q5⟩
     obtain ⟨ad,q5⟩:=hgv'
     have hnd':=List.nodup_cons.1 hnd
     have hI1:Inv E.toCx w0 G (st.put (some d) (.a (.v .nil ()))) a w S pls X:=hI.repl hdn ⟨[.slice ad 0 0],by rw [q5];rfl,⟨_,rfl⟩,rfl⟩
     obtain ⟨pls',X',k1,k2,k3⟩:=ih hI1 h hnd'.2 (fun α' hα'=>hgh α' (by simp [hα'])) (fun x hx y hy=>hne x (by simp [hx]) y (by simp [hy]))
     refine ⟨pls',X',k1,fun i b hb=>?_,fun i hi=>k3 i (fun α' hα'=>hi α' (by simp [hα']))⟩
     rcases k2 i b hb with h | ⟨α',h1,h2⟩
     ·exact .inl h
     ·exact .inr ⟨α',by simp [h1],h2⟩
    ·cases h
   ·cases h
  ·cases h
theorem share_op (hE:EnvOK P E){Q:Exit→Act→World→Prop}{i:Nat}{o:Oper} (hi:ops[i]?=some o) (hg:o.guard=none){hs g:List Nat} (hgh:∀ b∈g,b<w.heap.size∧(∀ m,¬ S m b)∧∀ i,b ∉ X i) (hI:Inv E.toCx w0 G st a w S pls X)
  (h:opK E (shareL st hs) o some=some st'){K:Act→World→Prop}
  (hK:∀ v w' S3 pls3 X3,Inv E.toCx w0 G (unshare o.dst.toList hs st st') (a.put o.dst v) w' S3 pls3 X3→Grows w0 G S S3 w w'→(∀ i∈hs,X3 i=X i∧∀ b∈X i,hp w' b=hp w b) →
   (∀ b∈g,hp w' b=hp w b∧(∀ m,¬ S3 m b)∧∀ i,b ∉ X3 i)→w.heap.size≤w'.heap.size→K (a.put o.dst v) w'):wpOp P ops Q i K a w:=by
 unfold wpOp
 have hw:Region.wanted o (yielded ops a.tmps)=true:=by simp [Region.wanted,hg]
 simp only [hi,hw,if_true]
 refine .inl (op_done hE (hI.shareG hs hgh).here h _ _ ?_)
 rintro v w' ⟨S2,pls2,X2,hI2,hg2⟩
 obtain ⟨S3,pls3,X3,k1,k2,k3,k4⟩:=Inv.unshareg (W:=o.dst.toList) hgh hI hI2 hg2 (fun t ht=>act_put (fun e=>ht (by rw [e];simp)))
 exact hK v w' S3 pls3 X3 k1 k2 (fun i hi=>⟨k3 i hi,fun b hb=>hg2.still .lend b (.inl (.inr ⟨rfl,i,hi,hb⟩))⟩) k4 hI2.frm.size
def alD (ops:Array Oper) (al:List Nat):List Nat:=al.filterMap fun α=>(ops[α]?).bind (·.dst)
theorem Inv.junk {C:Cx} (hI:Inv C w0 G st a w S pls X) (ds:List Nat):Inv C w0 G (junkD ds st) a w S pls X:=by
 refine hI.retmp rfl (fun t=>?_)
 simp only [junkD]
 split
 ·exact trivial
 ·exact hI.tmps t
def purD (E:Cz) (o:Oper):Option Nat :=
 match o.dst with
 | none=>none
 | some d=>if d<E.n then (match o.op with
   | .move _=>some d
   | .extract _ _=>some d
   | .nilCheck _=>some d
   | .binOp ..=>some d
   | .unOp ..=>some d
   | .load ..=>some d
   | .fieldAddr ..=>some d
   | .field ..=>some d
   | .indexAddr ..=>some d
   | .index ..=>some d
   | .slice ..=>some d
   | .convert ..=>some d
   | .assign _=>if (E.ann d).isNone=true then some d else none
   | _=>none) else none
theorem purD_spec {E:Cz}{o:Oper}{d:Nat} (h:purD E o=some d):o.dst=some d∧d<E.n:=by
 unfold purD at h
 split at h
 ·cases h
 ·rename_i d' hd
  split at h
  ·rename_i hlt
   split at h <;> first | (cases h;exact ⟨hd,hlt⟩) | (split at h <;> first | (cases h;exact ⟨hd,hlt⟩) | (cases h;done)) | (cases h;done)
  ·cases h
def run3 (E:Cz) (ops:Array Oper) (prs:List (Nat×Nat)){R:Type}:List (Bool×Nat)→List Nat→St→(St→Option R)→Option R
 | [],al,st,K=>match al with
  | []=>K st
  | _::_=>none
 | (b,i)::its,al,st,K=>match ops[i]? with
  | none=>none
  | some o =>
   if b=true then
    (match o.dst with
    | some d=>if d<E.n∧lateOp o.op=true∧o.guard=none∧((preds o).all fun j=>!(i::its.map (·.2)).elem j && !al.elem j)=true ∧
       ((its.map (·.2)++al).all fun j=>match ops[j]? with | some oj=>(preds oj).elem i || o.apart ops oj | none=>true)=true
      then pureK E.toCx st o.op fun tv=>run3 E ops prs its al (st.put (some d) tv) K else none
    | none=>none)
   else if o.guard=none∧((its.map (·.2)).all fun j=>reachB ops ops.size j i)=true then
    (bornL E ops (al.filter fun α=>reachB ops ops.size i α) st).bind fun st1 =>
     match purD E o with
     | some d=>pureK E.toCx st1 o.op fun tv=>run3 E ops prs its (al.filter fun α=>!reachB ops ops.size i α) (junkD (alD ops (al.filter fun α=>!reachB ops ops.size i α)) (st1.put (some d) tv)) K
     | none=>if (prs.filter fun p=>!reachB ops ops.size i p.1).isEmpty=true∧(al.filter fun α=>!reachB ops ops.size i α).isEmpty=true then
       opK E st1 o fun st2=>run3 E ops prs its (al.filter fun α=>!reachB ops ops.size i α) (junkD (alD ops (al.filter fun α=>!reachB ops ops.size i α)) st2) K
      else opK E (shareL st1 ((prs.filter fun p=>!reachB ops ops.size i p.1).map (·.2))) o fun st2 =>
      run3 E ops prs its (al.filter fun α=>!reachB ops ops.size i α)
       (junkD (alD ops (al.filter fun α=>!reachB ops ops.size i α)) (unshare o.dst.toList ((prs.filter fun p=>!reachB ops ops.size i p.1).map (·.2)) st1 st2)) K
   else none
structure AlOK (E:Cz) (ops:Array Oper) (al:List Nat):Prop where
 nd:al.Nodup
 form:∀ α∈al,∃ o t d s,ops[α]?=some o∧((o.op=.alloc t∧E.tab t=some s)∨(o.op=.buildSlice t 0 #[]∧∃ m,E.tab t=some (.sl m s)))∧o.dst=some d∧o.guard=none∧d<E.n
 apart:∀ α∈al,∀ oα d,ops[α]?=some oα→oα.dst=some d→∀ j oj,ops[j]?=some oj→j≠α→oj.dst≠some d
theorem AlOK.sub {al al':List Nat} (h:AlOK E ops al) (hs:al'.Sublist al):AlOK E ops al' :=
 ⟨h.nd.sublist hs,fun α hα=>h.form α (hs.subset hα),fun α hα=>h.apart α (hs.subset hα)⟩
theorem alD_mem {al:List Nat}{d:Nat}:d∈alD ops al↔∃ α∈al,∃ o,ops[α]?=some o∧o.dst=some d:=by
 simp only [alD,List.mem_filterMap]
 constructor
 ·rintro ⟨α,h1,h2⟩
  obtain ⟨o,h3,h4⟩:=Option.bind_eq_some_iff.1 h2
  exact ⟨α,h1,o,h3,h4⟩
 ·rintro ⟨α,h1,o,h3,h4⟩
  exact ⟨α,h1,by rw [h3];exact h4⟩
theorem Gh1.put {α b:Nat}{S:Stab}{X:Nat→List Nat} (h:Gh1 E ops w0 S X a w α b){dst:Option Nat}{v:Value} (hd:∀ o d,ops[α]?=some o→o.dst=some d→dst≠some d):Gh1 E ops w0 S X (a.put dst v) w α b:=by
 obtain ⟨o,d,h1,h3,h5⟩:=h.at_
 exact ⟨⟨o,d,h1,h3,by rw [act_put (hd o d h1 h3)];exact h5⟩,h.lt,h.new,h.stab,h.own⟩
theorem run3_sound (hE:EnvOK P E) (hsel:Region.noSelect ops=true) (hback:∀ i o,ops[i]?=some o→∀ k∈preds o,k<i){Q:Exit→Act→World→Prop} (hpan:∀ c a w,¬ Q (.panic c) a w){R:Type}{K:St→Option R}{r:R}
  {wI:World}{S0:Stab}{X0:Nat→List Nat}{prs:List (Nat×Nat)}{CH:List Nat}{a0:Act}{al0:List Nat}
  (hX0:∀ p∈prs,∀ b∈X0 p.2,b<wI.heap.size) (hS0:∀ m b,S0 m b→b<wI.heap.size) (hal0:AlOK E ops al0) (hpr:∀ p∈prs,p.2 ∉ alD ops al0)
  {SS:Array Bool→World→Prop} (hSS:∀ L w',SS L w'↔((∀ m b,S0 m b→hp w' b=hp wI b)∧∀ p∈prs,(∀ j∈CH,reachB ops ops.size j p.1=true→L.getD j false=false)→∀ b∈X0 p.2,hp w' b=hp wI b)) :
  ∀ (fuel:Nat) (its:List (Bool×Nat)) (al:List Nat){st:St}{L:Array Bool}{a:Act}{w:World}{S:Stab}{pls:Nat→Pl}{X:Nat→List Nat}{β:Nat→Nat},
   run3 E ops prs its al st K=some r→(∀ i,(false,i)∈its→i∈CH)→(∀ i,(true,i)∈its→i ∉ CH)→(∀ α∈al0,α ∉ CH)→(its.map (·.2)).Nodup→al.Sublist al0→(∀ α∈al0,α ∉ its.map (·.2))→(∀ i∈its.map (·.2),i<ops.size) →
   L.size=ops.size→Closed ops L→(∀ j,j<ops.size→j ∉ al→L.getD j false=!(its.map (·.2)).elem j)→left L≤fuel→SS L w→wI.heap.size≤w.heap.size →
   Inv E.toCx w0 G st a w S pls X→Grows w0 G S0 S wI w→(∀ p∈prs,(∀ j∈CH,reachB ops ops.size j p.1=true→L.getD j false=false)→X p.2=X0 p.2) →
   (∀ α∈al,L.getD α false=true→Gh1 E ops w0 S X a w α (β α))→(∀ α∈al,∀ α'∈al,L.getD α false=true→L.getD α' false=true→β α=β α'→α=α')→(∀ d∈alD ops al,st.tmps d=.a .junk) →
   (∀ t,t ∉ dsts ops.toList→a.tmps.getD t undef=a0.tmps.getD t undef) →
   (∀ st' a' w' S' pls' X',K st'=some r→Inv E.toCx w0 G st' a' w' S' pls' X'→Grows w0 G S0 S' wI w'→(∀ t,t ∉ dsts ops.toList→a'.tmps.getD t undef=a0.tmps.getD t undef)→Q .normal a' w') →
   wpAnyL P ops Q SS fuel L a w:=by
 intro fuel
 induction fuel with
 | zero =>
  intro its al st L a w S pls X β h hch hlate hal hnd hsub hdis hlt hsz hc hl hf hSw hwI hI hg hpend hgh hne hjk hfr hend
  have hall:∀ j,j<ops.size→L.getD j false=true:=fun j hj=>by rw [← getD_flip (by omega)];exact left_zero (Nat.le_zero.1 hf)
  cases its with
  | nil =>
   cases al with
   | cons _ _=>simp [run3] at h
   | nil =>
    refine ⟨?_,hend st a w S pls X h hI hg hfr⟩
    rw [List.eq_nil_iff_forall_not_mem]
    intro i hi
    obtain ⟨h1,o,h2,_⟩:=ready_preds.1 hi
    have hil:i<ops.size:=(Array.getElem?_eq_some_iff.1 h2).1
    rw [getD_flip (by omega),hall i hil] at h1;cases h1
  | cons p its =>
   exfalso
   have hil:=hlt p.2 (by simp)
   have hna:p.2 ∉ al:=fun hm=>hdis p.2 (hsub.subset hm) (by simp)
   have:=hl p.2 hil hna
   rw [hall p.2 hil] at this
   simp at this
 | succ f ih =>
  intro its al st L a w S pls X β h hch hlate hal hnd hsub hdis hlt hsz hc hl hf hSw hwI hI hg hpend hgh hne hjk hfr hend
  have hSi:∀ i,i ∉ CH→∀ L w,SS (L.setIfInBounds i true) w↔SS L w:=by
   intro i hi L w
   rw [hSS,hSS]
   have e:∀ j∈CH,(L.setIfInBounds i true).getD j false=L.getD j false:=fun j hj=>set_ne (by rintro rfl;exact hi hj)
   constructor
   ·rintro ⟨h1,h2⟩
    exact ⟨h1,fun p hp hq=>h2 p hp (fun j hj hr=>by rw [e j hj];exact hq j hj hr)⟩
   ·rintro ⟨h1,h2⟩
    exact ⟨h1,fun p hp hq=>h2 p hp (fun j hj hr=>by rw [← e j hj];exact hq j hj hr)⟩
  cases its with
  | nil =>
   cases al with
   | cons _ _=>simp [run3] at h
   | nil =>
    refine ⟨fun _=>hend st a w S pls X h hI hg hfr,fun i hi=>?_⟩
    obtain ⟨h1,o,h2,_⟩:=ready_preds.1 hi
    have hil:i<ops.size:=(Array.getElem?_eq_some_iff.1 h2).1
    have:=hl i hil (by simp)
    rw [getD_flip (by omega),this] at h1
    simp at h1
  | cons p its =>
   obtain ⟨b,i⟩:=p
   simp only [List.map_cons,List.nodup_cons] at hnd
   have hilt:i<ops.size:=hlt i (by simp)
   have hia0:i ∉ al0:=fun hm=>hdis i hm (by simp)
   have hia:i ∉ al:=fun hm=>hia0 (hsub.subset hm)
   have hun:L.getD i false=false:=by rw [hl i hilt hia];simp
   have hunt:L.getD i true=false:=by rw [getD_flip (by omega)];exact hun
   have hleft:=left_set hunt
   have hnew:∀ j,j<ops.size→j ∉ al→(L.setIfInBounds i true).getD j false=!(its.map (·.2)).elem j:=by
    intro j hj hja
    rw [set_getD]
    split
    ·rename_i e
     obtain ⟨rfl,_⟩:=e
     have:(its.map (·.2)).elem i=false:=by
      cases e:(its.map (·.2)).elem i with
      | false=>rfl
      | true=>exact absurd (List.mem_of_elem_eq_true e) hnd.1
     rw [this];rfl
    ·rename_i e
     rw [hl j hj hja]
     have:j≠i:=fun e'=>e ⟨e'.symm,by omega⟩
     simp [this]
   have hout:∀ {o:Oper},ops[i]?=some o→∀ t,t ∉ dsts ops.toList→o.dst≠some t:=by
    intro o ho t ht e
    apply ht
    simp only [dsts,List.mem_filterMap]
    exact ⟨o,by have:=Array.mem_of_getElem? ho;simpa using this,e⟩
   have hdap:∀ {o:Oper},ops[i]?=some o→∀ α∈al,∀ oα d,ops[α]?=some oα→oα.dst=some d→o.dst≠some d :=
    fun {o} ho α hα oα d h1 h2=>hal0.apart α (hsub.subset hα) oα d h1 h2 i o ho (by rintro rfl;exact hia hα)
   simp only [run3] at h
   split at h
   ·cases h
   rename_i o ho
   split at h
   ·-- one that hangs on no memory
    rename_i hb
    subst hb
    have hiC:i ∉ CH:=hlate i (by simp)
    split at h
    rotate_left
    ·cases h
    rename_i d hd
    split at h
    rotate_left
    ·cases h
    rename_i hcond
    obtain ⟨hdn,hlo,hgd,hprd,hap⟩:=hcond
    rw [pureK_bind] at h
    obtain ⟨tv,hp,h⟩:=Option.bind_eq_some_iff.1 h
    obtain ⟨v,hrun,hv⟩:=pure_run hE.tab hI hp
    have hrun0:=hrun w ⟨fun _ _ _=>rfl,fun _ _ _ _=>rfl⟩
    refine wpAnyL_first (Y:=fun _=>True) (v:=v) ho (Region.noSelect_spec hsel) (fun c a w hq=>absurd hq (hpan _ _ _)) (hSi i hiC) (fun _ _ _ _ _ _=>trivial) f L a w hsz hc ?_ ?_ ?_ hSw ?_
    ·intro j oj hj hji hju hno
     have hjl:j<ops.size:=(Array.getElem?_eq_some_iff.1 hj).1
     have hmem:j∈its.map (·.2)++al:=by
      by_cases hja:j∈al
      ·exact List.mem_append.2 (.inr hja)
      ·have:=hl j hjl hja
       rw [← getD_flip (by omega),hju] at this
       have:((((true,i)::its).map (·.2)).elem j)=true:=by
        cases e:(((true,i)::its).map (·.2)).elem j with
        | true=>rfl
        | false=>rw [e] at this;cases this
       have:=List.mem_of_elem_eq_true this
       simp only [List.map_cons,List.mem_cons] at this
       rcases this with e | this
       ·exact absurd e hji
       ·exact List.mem_append.2 (.inl this)
     have:=List.all_eq_true.1 hap j hmem
     rw [hj] at this
     simp only [Bool.or_eq_true] at this
     rcases this with e | e
     ·exfalso
      have hm:=List.mem_of_elem_eq_true e
      simp only [preds,List.mem_map,List.mem_filter] at hm
      obtain ⟨ed,⟨he1,he2⟩,he3⟩:=hm
      exact hno ed (by simpa using he1) he2 he3
     ·exact e
    ·refine ready_preds.2 ⟨hunt,o,ho,fun j hj=>?_⟩
     have hji:=hback i o ho j hj
     have:=List.all_eq_true.1 hprd j hj
     simp only [bA,Bool.not_eq_true'] at this
     have hja:j ∉ al:=fun hm=>by rw [List.elem_eq_true_of_mem hm] at this;exact absurd this.2 (by simp)
     rw [hl j (by omega) hja]
     have:=this.1
     simp only [List.map_cons]
     rw [this];rfl
    ·exact .inl ⟨by simp [Region.wanted,hgd],fun w' _=>late_run hlo hrun0⟩
    ·rw [hd]
     refine ih its al (β:=β) h (fun j hj=>hch j (by simp [hj])) (fun j hj=>hlate j (by simp [hj])) hal hnd.2 hsub (fun α hα hm=>hdis α hα (by simp only [List.map_cons,List.mem_cons];exact .inr hm)) (fun j hj=>hlt j (by simp only [List.map_cons,List.mem_cons];exact .inr hj))
      (by simp [hsz]) (hc.add (ready_preds.2 ⟨hunt,o,ho,fun j hj=>?_⟩)) hnew (by omega) ((hSi i hiC L w).2 hSw) hwI (hI.put (fun d' e=>by cases e;exact hdn) hv) hg ?_ ?_ ?_ ?_ ?_ hend
     ·have hji:=hback i o ho j hj
      have:=List.all_eq_true.1 hprd j hj
      simp only [bA,Bool.not_eq_true'] at this
      have hja:j ∉ al:=fun hm=>by rw [List.elem_eq_true_of_mem hm] at this;exact absurd this.2 (by simp)
      rw [hl j (by omega) hja]
      have:=this.1
      simp only [List.map_cons]
      rw [this];rfl
     ·intro p hp hq
      refine hpend p hp (fun j hj hr=>?_)
      have:=hq j hj hr
      rwa [set_ne (by rintro rfl;exact hiC hj)] at this
     ·intro α hα hL
      rw [set_ne (by rintro rfl;exact hia hα)] at hL
      exact (hgh α hα hL).put (fun oα d' h1 h2=>by rw [← hd];exact hdap ho α hα oα d' h1 h2)
     ·intro α hα α' hα' hL hL'
      rw [set_ne (by rintro rfl;exact hia hα)] at hL
      rw [set_ne (by rintro rfl;exact hia hα')] at hL'
      exact hne α hα α' hα' hL hL'
     ·intro d' hd'
      obtain ⟨α,hα,oα,h1,h2⟩:=alD_mem.1 hd'
      rw [put_other (fun e=>hdap ho α hα oα d' h1 h2 (by rw [hd,e]))]
      exact hjk d' hd'
     ·intro t ht
      rw [act_put (by rw [← hd];exact hout ho t ht)]
      exact hfr t ht
   ·-- one of the row
    rename_i hb
    have hb:b=false:=by simpa using hb
    subst hb
    have hiC:i∈CH:=hch i (by simp)
    split at h
    rotate_left
    ·cases h
    rename_i hcond
    obtain ⟨hgd,hrow⟩:=hcond
    have hfull:=h
    refine ⟨fun hr=>?_,fun j hj=>?_⟩
    ·have:=ready_nil hsz hback hr i hilt
     rw [hun] at this;cases this
    obtain ⟨hj1,oj,hoj,hj3⟩:=ready_preds.1 hj
    have hjl:j<ops.size:=(Array.getElem?_eq_some_iff.1 hoj).1
    have hj1':L.getD j false=false:=by rw [← getD_flip (by omega)];exact hj1
    have hleftj:=left_set hj1
    by_cases hja:j∈al
    ·-- a variable comes up
     have hja0:=hsub.subset hja
     obtain ⟨o',t,d,s,q1,q2,q3,q4,q6⟩:=hal0.form j hja0
     rw [hoj] at q1;cases q1
     obtain ⟨dst,op,ty,pos,after,guard⟩:=oj
     simp only at q2 q3 q4
     subst q3 q4
     have hjC:=hal j hja0
     unfold wpOp
     have hw:Region.wanted (Oper.mk (some d) op ty pos after none) (yielded ops a.tmps)=true:=by simp [Region.wanted]
     simp only [hoj,hw,if_true]
     refine .inl ?_
     simp only [Oper.wp]
     have hrunA:∃ v cs el,(execOp a.eval ⟨some d,op,ty,pos,after,none⟩).run P w=.ok (.value v) (w.alloc (.cells cs el))∧Ghv E ⟨some d,op,ty,pos,after,none⟩ v (w.alloc (.cells cs el)) w.heap.size:=by
      rcases q2 with ⟨rfl,q5⟩ | ⟨rfl,m,q5⟩
      ·exact ⟨_,_,_,alloc_run hE.tab q5,.inl ⟨t,s,rfl,q5,rfl,hp_alloc_new⟩⟩
      ·obtain ⟨el,hr⟩:=nil_run (a:=a) (w:=w) hE.tab q5 (d:=d) (ty:=ty) (pos:=pos) (after:=after) (guard:=none)
       exact ⟨_,_,el,hr,.inr ⟨t,rfl,rfl⟩⟩
     obtain ⟨va,cs,el,hrunA,hghA⟩:=hrunA
     rw [hrunA,Oper.upon_value]
     have hold:∀ b,b<w.heap.size→hp (w.alloc (.cells cs el)) b=hp w b:=fun b hb=>hp_alloc_old hb
     have hSS2:SS (L.setIfInBounds j true) (w.alloc (.cells cs el)):=by
      rw [hSi j hjC,hSS]
      obtain ⟨h1,h2⟩:=(hSS L w).1 hSw
      exact ⟨fun m b hb=>by rw [hold b (Nat.lt_of_lt_of_le (hS0 m b hb) hwI)];exact h1 m b hb,fun p hp hq b hb=>by rw [hold b (Nat.lt_of_lt_of_le (hX0 p hp b hb) hwI)];exact h2 p hp hq b hb⟩
     refine ⟨hSS2,?_⟩
     have hjunk:st.tmps d=.a .junk:=hjk d (alD_mem.2 ⟨j,hja,_,hoj,rfl⟩)
     have hI2:=(hI.alloc (.cells cs el)).put (dst:=some d) (v:=va) (tv:=.a .junk) (fun d' e=>by cases e;exact q6) trivial
     rw [put_id hjunk] at hI2
     refine ih ((false,i)::its) al (β:=fun x=>if x=j then w.heap.size else β x) (by simp only [run3,ho];rw [if_neg (by simp),if_pos ⟨hgd,hrow⟩];exact hfull) hch hlate hal (by simp only [List.map_cons,List.nodup_cons];exact hnd) hsub hdis hlt (by simp [hsz]) (hc.add hj) ?_ (by omega) hSS2
      (by simp;omega) hI2 ?_ ?_ ?_ ?_ hjk ?_ hend
     ·intro j' hj' hja'
      rw [set_ne (by rintro rfl;exact hja' hja)]
      exact hl j' hj' hja'
     ·exact ⟨hg.more,fun m b hb=>by rw [hold b (Nat.lt_of_lt_of_le (hS0 m b hb) hwI)];exact hg.still m b hb,hg.new,hg.any⟩
     ·intro p hp hq
      refine hpend p hp (fun j' hj' hr=>?_)
      have:=hq j' hj' hr
      rwa [set_ne (by rintro rfl;exact hjC hj')] at this
     ·intro α hα hL
      by_cases e:α=j
      ·subst e
       simp only [if_true]
       refine ⟨⟨_,d,hoj,rfl,?_⟩,by simp,hI.frm.size,fun m hm=>Nat.lt_irrefl _ (hI.stab m _ hm),fun i hi=>Nat.lt_irrefl _ (hI.own i _ hi).1⟩
       have hdl:d<a.tmps.size:=by rw [hI.size];exact q6
       have e5:(a.put (some d) va).tmps.getD d undef=va:=by simp [Act.put,Array.getD_eq_getD_getElem?,Array.getElem?_setIfInBounds,hdl]
       rw [e5];exact hghA
      ·rw [set_ne (fun e'=>e e'.symm)] at hL
       simp only [if_neg e]
       have hgα:=(hgh α hα hL).put (dst:=some d) (v:=va) (fun oα d' h1 h2=>hal0.apart α (hsub.subset hα) oα d' h1 h2 j _ hoj (fun e'=>e e'.symm))
       obtain ⟨o2,d2,p1,p3,p5⟩:=hgα.at_
       exact ⟨⟨o2,d2,p1,p3,p5.heap (hold _ hgα.lt)⟩,by simp;have:=hgα.lt;omega,hgα.new,hgα.stab,hgα.own⟩
     ·intro α hα α' hα' hL hL' he
      by_cases e:α=j
      ·by_cases e':α'=j
       ·rw [e,e']
       ·rw [set_ne (fun x=>e' x.symm)] at hL'
        simp only [if_pos e,if_neg e'] at he
        have:=(hgh α' hα' hL').lt
        omega
      ·rw [set_ne (fun x=>e x.symm)] at hL
       by_cases e':α'=j
       ·simp only [if_neg e,if_pos e'] at he
        have:=(hgh α hα hL).lt
        omega
       ·rw [set_ne (fun x=>e' x.symm)] at hL'
        simp only [if_neg e,if_neg e'] at he
        exact hne α hα α' hα' hL hL' he
     ·intro t' ht'
      rw [act_put ?_]
      ·exact hfr t' ht'
      ·intro e
       apply ht'
       simp only [dsts,List.mem_filterMap]
       exact ⟨_,by have:=Array.mem_of_getElem? hoj;simpa using this,e⟩
    ·-- the row goes on
     have hji:j=i:=by
      have:=hl j hjl hja
      rw [hj1'] at this
      have:(((false,i)::its).map (·.2)).elem j=true:=by
       cases e:(((false,i)::its).map (·.2)).elem j with
       | true=>rfl
       | false=>rw [e] at this;cases this
      have:=List.mem_of_elem_eq_true this
      simp only [List.map_cons,List.mem_cons] at this
      rcases this with e | hm
      ·exact e
      ·exfalso
       have hr:=List.all_eq_true.1 hrow j hm
       have:=reach_listed hc ops.size j i hr (fun o'' ho'' kk hkk=>by rw [hoj] at ho'';cases ho'';exact hj3 kk hkk)
       rw [hun] at this;cases this
     subst hji
     rw [ho] at hoj;cases hoj
     obtain ⟨st1,hb1,h⟩:=Option.bind_eq_some_iff.1 h
     have hlisted:∀ α,reachB ops ops.size j α=true→L.getD α false=true:=fun α hr=>reach_listed hc ops.size j α hr (fun o'' ho'' kk hkk=>by rw [ho] at ho'';cases ho'';exact hj3 kk hkk)
     have hbm:∀ α,α∈al.filter (fun α=>reachB ops ops.size j α)↔α∈al∧reachB ops ops.size j α=true:=fun α=>by simp
     have hnm:∀ α,α∈al.filter (fun α=>!reachB ops ops.size j α)↔α∈al∧reachB ops ops.size j α=false:=fun α=>by simp
     obtain ⟨pls1,X1,hI1,hX1,hX1'⟩:=bornL_spec (β:=β) _ hI hb1 ((hal0.sub hsub).nd.filter _) (fun α hα=>hgh α ((hbm α).1 hα).1 (hlisted α ((hbm α).1 hα).2))
      (fun α hα α' hα' he=>hne α ((hbm α).1 hα).1 α' ((hbm α').1 hα').1 (hlisted α ((hbm α).1 hα).2) (hlisted α' ((hbm α').1 hα').2) he)
     have hXp:∀ p∈prs,X1 p.2=X p.2:=fun p hp=>hX1' p.2 (fun α hα oα h1 h2=>hpr p hp (alD_mem.2 ⟨α,hsub.subset ((hbm α).1 hα).1,oα,h1,h2⟩))
     have hghost:∀ b∈((al.filter fun α=>!reachB ops ops.size j α).filter fun α=>L.getD α false).map β,b<w.heap.size∧(∀ m,¬ S m b)∧∀ i,b ∉ X1 i:=by
      intro b hb
      obtain ⟨α,hα,rfl⟩:=List.mem_map.1 hb
      obtain ⟨hα1,hα2⟩:=List.mem_filter.1 hα
      obtain ⟨hα3,hα4⟩:=(hnm α).1 hα1
      have hga:=hgh α hα3 hα2
      refine ⟨hga.lt,hga.stab,fun i' hi'=>?_⟩
      rcases hX1 i' _ hi' with h | ⟨α',h1,h2⟩
      ·exact hga.own i' h
      ·obtain ⟨p1,p2⟩:=(hbm α').1 h1
       have:=hne α hα3 α' p1 hα2 (hlisted α' p2) h2
       subst this
       rw [p2] at hα4;cases hα4
     have key:∀ stN v w' S3 pls3 X3,run3 E ops prs its (al.filter fun α=>!reachB ops ops.size j α) (junkD (alD ops (al.filter fun α=>!reachB ops ops.size j α)) stN) K=some r→Inv E.toCx w0 G stN (a.put o.dst v) w' S3 pls3 X3→Grows w0 G S S3 w w' →
       (∀ i∈(prs.filter fun p=>!reachB ops ops.size j p.1).map (·.2),X3 i=X1 i∧∀ b∈X1 i,hp w' b=hp w b)→(∀ b∈((al.filter fun α=>!reachB ops ops.size j α).filter fun α=>L.getD α false).map β,hp w' b=hp w b∧(∀ m,¬ S3 m b)∧∀ i,b ∉ X3 i)→w.heap.size≤w'.heap.size →
       SS (L.setIfInBounds j true) w'∧wpAnyL P ops Q SS f (L.setIfInBounds j true) (a.put o.dst v) w':=by
      intro stN v w' S3 pls3 X3 hN hI3 hg3 hs3 hgg hsz3
      have hnr:∀ p∈prs,(∀ j'∈CH,reachB ops ops.size j' p.1=true→(L.setIfInBounds j true).getD j' false=false)→p.2∈(prs.filter fun p=>!reachB ops ops.size j p.1).map (·.2)∧(∀ j'∈CH,reachB ops ops.size j' p.1=true→L.getD j' false=false):=by
       intro p hp hq
       refine ⟨?_,fun j' hj' hr=>?_⟩
       ·refine List.mem_map.2 ⟨p,List.mem_filter.2 ⟨hp,?_⟩,rfl⟩
        cases e:reachB ops ops.size j p.1 with
        | false=>rfl
        | true =>
         have:=hq j hiC e
         rw [set_getD,if_pos ⟨rfl,by omega⟩] at this;cases this
       ·have:=hq j' hj' hr
        rw [set_getD] at this
        split at this
        ·cases this
        ·exact this
      obtain ⟨hs1,hs2⟩:=(hSS L w).1 hSw
      have hSS3:SS (L.setIfInBounds j true) w':=by
       rw [hSS]
       refine ⟨fun m b hb=>by rw [hg3.still m b (hg.more m b hb)];exact hs1 m b hb,fun p hp hq b hb=>?_⟩
       obtain ⟨k1,k2⟩:=hnr p hp hq
       have e:=hpend p hp k2
       rw [(hs3 p.2 k1).2 b (by rw [hXp p hp,e];exact hb)]
       exact hs2 p hp k2 b hb
      refine ⟨hSS3,?_⟩
      refine ih its (al.filter fun α=>!reachB ops ops.size j α) (β:=β) hN (fun j' hj'=>hch j' (by simp [hj'])) (fun j' hj'=>hlate j' (by simp [hj'])) hal hnd.2 (List.filter_sublist.trans hsub) (fun α hα hm=>hdis α hα (by simp only [List.map_cons,List.mem_cons];exact .inr hm))
       (fun j' hj'=>hlt j' (by simp only [List.map_cons,List.mem_cons];exact .inr hj')) (by simp [hsz]) (hc.add hj) ?_ (by omega) hSS3 (Nat.le_trans hwI hsz3) (hI3.junk _) (hg.trans hg3) ?_ ?_ ?_ ?_ ?_ hend
      ·intro j' hj' hja'
       by_cases hm:j'∈al
       ·have hr:reachB ops ops.size j j'=true:=by
         cases e:reachB ops ops.size j j' with
         | true=>rfl
         | false=>exact absurd ((hnm j').2 ⟨hm,e⟩) hja'
        have hj0:=hsub.subset hm
        have h1:(its.map (·.2)).elem j'=false:=by
         cases e:(its.map (·.2)).elem j' with
         | false=>rfl
         | true=>exact absurd (by simp only [List.map_cons,List.mem_cons];exact .inr (List.mem_of_elem_eq_true e)) (hdis j' hj0)
        rw [set_ne (by rintro rfl;exact hia hm),hlisted j' hr,h1];rfl
       ·exact hnew j' hj' hm
      ·intro p hp hq
       obtain ⟨k1,k2⟩:=hnr p hp hq
       rw [(hs3 p.2 k1).1,hXp p hp]
       exact hpend p hp k2
      ·intro α hα hL
       obtain ⟨hα3,hα4⟩:=(hnm α).1 hα
       rw [set_ne (by rintro rfl;exact hia hα3)] at hL
       have hga:=hgh α hα3 hL
       obtain ⟨p1,p2,p3⟩:=hgg (β α) (List.mem_map.2 ⟨α,List.mem_filter.2 ⟨hα,hL⟩,rfl⟩)
       have hgp:=hga.put (dst:=o.dst) (v:=v) (hdap ho α hα3)
       obtain ⟨o2,d2,q1,q3,q5⟩:=hgp.at_
       exact ⟨⟨o2,d2,q1,q3,q5.heap p1⟩,Nat.lt_of_lt_of_le hga.lt hsz3,hga.new,p2,p3⟩
      ·intro α hα α' hα' hL hL' he
       obtain ⟨hα3,_⟩:=(hnm α).1 hα
       obtain ⟨hα4,_⟩:=(hnm α').1 hα'
       rw [set_ne (by rintro rfl;exact hia hα3)] at hL
       rw [set_ne (by rintro rfl;exact hia hα4)] at hL'
       exact hne α hα3 α' hα4 hL hL' he
      ·intro d' hd'
       simp only [junkD]
       rw [if_pos (List.elem_eq_true_of_mem hd')]
      ·intro t ht
       rw [act_put (hout ho t ht)]
       exact hfr t ht
     split at h
     ·rename_i d hpd
      obtain ⟨hd1,hd2⟩:=purD_spec hpd
      rw [pureK_bind] at h
      obtain ⟨tv,hp1,h⟩:=Option.bind_eq_some_iff.1 h
      obtain ⟨v,hrun,hv⟩:=pure_run hE.tab hI1 hp1
      unfold wpOp
      have hw:Region.wanted o (yielded ops a.tmps)=true:=by simp [Region.wanted,hgd]
      simp only [ho,hw,if_true]
      refine .inl ?_
      simp only [Oper.wp]
      rw [hrun w ⟨fun _ _ _=>rfl,fun _ _ _ _=>rfl⟩,Oper.upon_value]
      refine key _ v w S pls1 X1 h (by rw [hd1];exact hI1.put (fun d' e=>by cases e;exact hd2) hv) Grows.refl (fun _ _=>⟨rfl,fun _ _=>rfl⟩) (fun b hb=>⟨rfl,(hghost b hb).2⟩) (Nat.le_refl _)
     ·split at h
      ·rename_i hemp
       rw [opK_bind] at h
       obtain ⟨st2,hop,h⟩:=Option.bind_eq_some_iff.1 h
       unfold wpOp
       have hw:Region.wanted o (yielded ops a.tmps)=true:=by simp [Region.wanted,hgd]
       simp only [ho,hw,if_true]
       refine .inl (op_done hE hI1.here hop _ _ ?_)
       rintro v w' ⟨S2,pls2,X2,hI2,hg2⟩
       have conv:∀ b,w.heap.size≤b∨b∈owned G X1→w0.heap.size≤b∨b∈G:=by
        rintro b (h | ⟨id,h⟩)
        ·exact .inl (Nat.le_trans hI1.frm.size h)
        ·exact (hI1.own id b h).2.2
       refine key _ v w' S2 pls2 X2 h (hI1.back hI2) ⟨hg2.more,hg2.still,fun b hb=>(hg2.new b hb).imp_right (conv b),fun m b hb=>(hg2.any m b hb).imp_right (conv b)⟩ (fun i hi=>?_) (fun b hb=>?_) hI2.frm.size
       ·rw [List.isEmpty_iff.1 hemp.1] at hi;simp at hi
       ·rw [List.isEmpty_iff.1 hemp.2] at hb;simp at hb
      rw [opK_bind] at h
      obtain ⟨st2,hop,h⟩:=Option.bind_eq_some_iff.1 h
      exact share_op hE ho hgd hghost hI1 hop (fun v w' S3 pls3 X3 hI3 hg3 hs3 hgg hsz3=>key _ v w' S3 pls3 X3 h hI3 hg3 hs3 hgg hsz3)
end
end Go.Rf
namespace Go.Rf
def isAllocB (o:Oper):Bool :=
 match o.op,o.dst,o.guard with
 | .alloc _,some _,none=>true
 | .buildSlice _ n ps,some _,none=>nilLit n ps
 | _,_,_=>false
def allocsI (ops:Array Oper) (F:List Nat):List Nat:=(List.range ops.size).filter fun i=>!F.elem i && (match ops[i]? with | some o=>isAllocB o | none=>false)
def lateB (ops:Array Oper) (rem al:List Nat) (i:Nat):Bool :=
 match ops[i]? with
 | some o=>lateOp o.op && o.guard.isNone && o.dst.isSome && (preds o).all fun j=>!rem.elem j && !al.elem j
 | none=>false
def sched (ops:Array Oper):Nat→List Nat→List Nat→List (Bool×Nat)
 | 0,_,_=>[]
 | n+1,rem,al=>match rem with
  | []=>[]
  | k::_=>match rem.find? (lateB ops rem al) with
   | some i=>(true,i)::sched ops n (rem.filter fun j=>!Nat.beq j i) al
   | none=>(false,k)::sched ops n (rem.filter fun j=>!Nat.beq j k) (al.filter fun α=>!reachB ops ops.size k α)
def nodupB:List Nat→Bool
 | []=>true
 | x::l=>!l.elem x && nodupB l
theorem nodupB_spec:∀ {l:List Nat},nodupB l=true→l.Nodup:=by
 intro l
 induction l with
 | nil=>intro _;simp
 | cons x l ih =>
  intro h
  simp only [nodupB,bA,Bool.not_eq_true'] at h
  refine List.nodup_cons.2 ⟨fun hm=>?_,ih h.2⟩
  rw [List.elem_eq_true_of_mem hm] at h;exact absurd h.1 (by simp)
theorem nodup_two {i:Nat}:∀ {its:List (Bool×Nat)},(its.map (·.2)).Nodup→(true,i)∈its→(false,i)∈its→False:=by
 intro its
 induction its with
 | nil=>intro _ h;cases h
 | cons p its ih =>
  intro h h1 h2
  simp only [List.map_cons,List.nodup_cons] at h
  rcases List.mem_cons.1 h1 with e1 | k1
  ·rcases List.mem_cons.1 h2 with e2 | k2
   ·rw [← e1] at e2;cases e2
   ·exact h.1 (List.mem_map.2 ⟨_,k2,by rw [← e1]⟩)
  ·rcases List.mem_cons.1 h2 with e2 | k2
   ·exact h.1 (List.mem_map.2 ⟨_,k1,by rw [← e2]⟩)
   ·exact ih h.2 k1 k2
def formB (E:Cz) (ops:Array Oper) (α:Nat):Bool :=
 match ops[α]? with
 | some o=>(match o.op,o.dst,o.guard with
  | .alloc t,some d,none=>(E.tab t).isSome && Nat.blt d E.n && (List.range ops.size).all fun j=>Nat.beq j α || !(match ops[j]? with | some oj=>oj.dst == some d | none=>false)
  | .buildSlice t n ps,some d,none=>nilLit n ps && (match E.tab t with | some (.sl _ _)=>true | _=>false) && Nat.blt d E.n && (List.range ops.size).all fun j=>Nat.beq j α || !(match ops[j]? with | some oj=>oj.dst == some d | none=>false)
  | _,_,_=>false)
 | none=>false
def ok3 (E:Cz) (ops:Array Oper) (F al:List Nat) (its:List (Bool×Nat)):Bool :=
 ((List.range ops.size).all fun i=>match ops[i]? with
  | none=>false
  | some o=>(preds o).all fun k=>Nat.blt k i) &&
 ((List.range ops.size).all fun j=>F.elem j || al.elem j || (its.map (·.2)).elem j) &&
 ((its.map (·.2)).all fun j=>!F.elem j && !al.elem j && Nat.blt j ops.size) &&
 (al.all fun α=>!F.elem α && formB E ops α) && nodupB (its.map (·.2)) && nodupB al
def draw3 (E:Cz) (ops:Array Oper) (F al:List Nat) (its:List (Bool×Nat)){R:Type} (st:St) (K:St→Option R):Option R :=
 if ok3 E ops F al its=true∧Region.noSelect ops=true then
  floatK3 E ops F st [] fun stF prs =>
   if (prs.all fun p=>!(alD ops al).elem p.2)=true then run3 E ops prs its al (junkD (alD ops al) stF) K else none
 else none
def drawK3 (E:Cz) (ops:Array Oper){R:Type} (st:St) (K:St→Option R):Option R :=
 draw3 E ops (flo ops 0) (allocsI ops (flo ops 0)) (sched ops (ops.size+1) ((tailI ops 0 (flo ops 0)).filter fun j=>!(allocsI ops (flo ops 0)).elem j) (allocsI ops (flo ops 0))) st K
section
variable {P:Program}{E:Cz}{w0 w w':World}{G:Blk}{st st':St}{a:Act}{S:Stab}{pls:Nat→Pl}{X:Nat→List Nat}{ops:Array Oper}
theorem draw3_sound (hE:EnvOK P E) (hm:P.follows .mixedOrders=true){R:Type}{id:Nat}{al:List Nat}{its:List (Bool×Nat)}
  {K:St→Option R}{r:R}{Q:Exit→Act→World→Prop} (hpan:∀ c a w,¬ Q (.panic c) a w) (hI:Inv E.toCx w0 G st a w S pls X) (h:draw3 E ops (flo ops 0) al its st K=some r)
  (hQ:∀ st' a' w',K st'=some r→Fits E.toCx w0 G S w st' a' w'→(∀ t,t ∉ dsts ops.toList→a'.tmps.getD t undef=a.tmps.getD t undef)→Q .normal a' w'):(Code.region id ops true).wp P Q a w:=by
 unfold draw3 at h
 split at h
 rotate_left
 ·cases h
 rename_i hc
 obtain ⟨hok,hsel⟩:=hc
 simp only [ok3,bA] at hok
 obtain ⟨⟨⟨⟨⟨o1,o2⟩,o3⟩,o4⟩,o5⟩,o6⟩:=hok
 have hback:∀ i o,ops[i]?=some o→∀ k∈preds o,k<i:=by
  intro i o ho k hk
  have hlt:i<ops.size:=(Array.getElem?_eq_some_iff.1 ho).1
  have:=List.all_eq_true.1 o1 i (List.mem_range.2 hlt)
  rw [ho] at this
  have:=List.all_eq_true.1 this k hk
  exact Nat.succ_le_iff.1 (Nat.le_of_ble_eq_true this)
 have elem_no:∀ {l:List Nat}{j:Nat},(!l.elem j)=true→j ∉ l:=fun {l j} h hm=>by rw [List.elem_eq_true_of_mem hm] at h;cases h
 have hits:∀ j∈its.map (·.2),j ∉ flo ops 0∧j ∉ al∧j<ops.size:=by
  intro j hj
  have:=List.all_eq_true.1 o3 j hj
  simp only [bA] at this
  exact ⟨elem_no this.1.1,elem_no this.1.2,Nat.succ_le_iff.1 (Nat.le_of_ble_eq_true this.2)⟩
 have hnd:=nodupB_spec o5
 have halOK:AlOK E ops al:=by
  refine ⟨nodupB_spec o6,fun α hα=>?_,fun α hα oα d h1 h2 j oj hj hja hd=>?_⟩
  ·have:=List.all_eq_true.1 o4 α hα
   simp only [bA] at this
   have hf:=this.2
   unfold formB at hf
   split at hf
   ·rename_i o ho
    split at hf
    ·rename_i t d q1 q2 q3
     simp only [bA] at hf
     obtain ⟨s,hs⟩:=Option.isSome_iff_exists.1 hf.1.1
     exact ⟨o,t,d,s,ho,.inl ⟨q1,hs⟩,q2,q3,Nat.succ_le_iff.1 (Nat.le_of_ble_eq_true hf.1.2)⟩
    ·rename_i t n ps d q1 q2 q3
     simp only [bA] at hf
     obtain ⟨⟨⟨hnl,hs⟩,hd⟩,_⟩:=hf
     obtain ⟨rfl,rfl⟩:=nilLit_spec hnl
     split at hs
     ·rename_i m s hs'
      exact ⟨o,t,d,s,ho,.inr ⟨q1,m,hs'⟩,q2,q3,Nat.succ_le_iff.1 (Nat.le_of_ble_eq_true hd)⟩
     ·cases hs
    ·cases hf
   ·cases hf
  ·have:=List.all_eq_true.1 o4 α hα
   simp only [bA] at this
   have hf:=this.2
   unfold formB at hf
   rw [h1] at hf
   simp only at hf
   split at hf
   ·rename_i t d' q1 q2 q3
    rw [h2] at q2;cases q2
    simp only [bA] at hf
    have:=List.all_eq_true.1 hf.2 j (List.mem_range.2 (Array.getElem?_eq_some_iff.1 hj).1)
    rw [hj] at this
    simp only [Bool.or_eq_true,Bool.not_eq_true'] at this
    rcases this with e | e
    ·exact hja (Nat.eq_of_beq_eq_true e)
    ·rw [hd] at e;simp at e
   ·rename_i t n ps d' q1 q2 q3
    rw [h2] at q2;cases q2
    simp only [bA] at hf
    have:=List.all_eq_true.1 hf.2 j (List.mem_range.2 (Array.getElem?_eq_some_iff.1 hj).1)
    rw [hj] at this
    simp only [Bool.or_eq_true,Bool.not_eq_true'] at this
    rcases this with e | e
    ·exact hja (Nat.eq_of_beq_eq_true e)
    ·rw [hd] at e;simp at e
   ·cases hf
 have halF:∀ α∈al,α ∉ flo ops 0:=by
  intro α hα
  have:=List.all_eq_true.1 o4 α hα
  simp only [bA] at this
  exact elem_no this.1
 obtain ⟨stF,prs,htr,h⟩:=floatK3_tr h
 split at h
 rotate_left
 ·cases h
 rename_i hprs
 have hpr:∀ p∈prs,p.2 ∉ alD ops al:=fun p hp=>elem_no (List.all_eq_true.1 hprs p hp)
 generalize hCH:(its.filter fun p=>!p.1).map (·.2)=CH
 have hCHm:∀ i,i∈CH↔(false,i)∈its:=by
  intro i
  subst hCH
  simp only [List.mem_map,List.mem_filter]
  constructor
  ·rintro ⟨⟨b,j⟩,⟨h1,h2⟩,rfl⟩
   have:b=false:=by simpa using h2
   subst this;exact h1
  ·intro h1
   exact ⟨(false,i),⟨h1,rfl⟩,rfl⟩
 have hCHi:∀ i∈CH,i∈its.map (·.2):=fun i hi=>List.mem_map.2 ⟨_,(hCHm i).1 hi,rfl⟩
 let SS:Array Bool→World→Prop:=fun L w'=>(∀ m b,S m b→hp w' b=hp w.drew b)∧∀ p∈prs,(∀ j∈CH,reachB ops ops.size j p.1=true→L.getD j false=false)→∀ b∈X p.2,hp w' b=hp w.drew b
 have hI':Inv E.toCx w0 G st a w.drew S pls X:=hI.drew
 have hS1:∀ i∈flo ops 0,∀ L w',SS (L.setIfInBounds i true) w'↔SS L w':=by
  intro i hi L w'
  have e:∀ j∈CH,(L.setIfInBounds i true).getD j false=L.getD j false:=fun j hj=>set_ne (by rintro rfl;exact (hits _ (hCHi _ hj)).1 hi)
  constructor
  ·rintro ⟨h1,h2⟩
   exact ⟨h1,fun p hp hq=>h2 p hp (fun j hj hr=>by rw [e j hj];exact hq j hj hr)⟩
  ·rintro ⟨h1,h2⟩
   exact ⟨h1,fun p hp hq=>h2 p hp (fun j hj hr=>by rw [← e j hj];exact hq j hj hr)⟩
 have hS2:∀ i∈flo ops 0,∀ o,ops[i]?=some o→∀ L w',L.size=ops.size→Closed ops L→L.getD i false=false→SS L w'→(∀ m b,S m b→hp w' b=hp w.drew b)∧(∀ id,(i,id)∈prs→∀ b∈X id,hp w' b=hp w.drew b):=by
  rintro i hi o ho L w' hsz hcl hl ⟨h1,h2⟩
  refine ⟨h1,fun id hid=>h2 (i,id) hid (fun j hj hr=>?_)⟩
  cases e:L.getD j false with
  | false=>rfl
  | true =>
   have:=reach_listed hcl ops.size j i hr (fun o' ho' k hk=>hcl j o' ho' e k hk)
   rw [hl] at this;cases this
 refine wp_region_any hm (wpAny_of_L (S:=SS) _ _ _ _ ?_)
 refine float_sound3 (w:=w.drew) (a0:=a) (SS:=SS) (prsF:=prs) hE.tab hsel hpan hS1 hS2 _ ops.size (fun i hi=>hi) htr (by simp) ?_ ?_ ⟨fun _ _ _=>rfl,fun _ _ _ _ _=>rfl⟩ hI' (fun t ht=>⟨rfl,htr.old t ht⟩) ?_
 ·intro k o ho hk
  rw [getD_rep] at hk;cases hk
 ·unfold left
  refine Nat.le_trans (List.length_filter_le _ _) ?_
  simp
 ·intro fuel L' a0 hsz' hcl hf' hl' hSw hI0 hfr0
  have hl2:∀ j,j<ops.size→L'.getD j false=(flo ops 0).elem j:=fun j hj=>by
   rw [hl' j,getD_rep]
   simp only [Bool.false_or]
   have e:floats ops ((List.range ops.size).filter fun i=>Nat.ble 0 i) (Array.replicate ops.size false)=flo ops 0:=rfl
   rw [e];simp [hj]
  have elem_f:∀ {l:List Nat}{j:Nat},j ∉ l→l.elem j=false:=fun {l j} h=>by
   cases e:l.elem j with
   | false=>rfl
   | true=>exact absurd (List.mem_of_elem_eq_true e) h
  have halN:∀ α∈al,L'.getD α false=true→False:=by
   intro α hα hL
   obtain ⟨o,_,_,_,ho,_⟩:=halOK.form α hα
   rw [hl2 α (Array.getElem?_eq_some_iff.1 ho).1,elem_f (halF α hα)] at hL
   cases hL
  refine run3_sound (w0:=w0) (G:=G) (wI:=w.drew) (S0:=S) (X0:=X) (prs:=prs) (CH:=CH) (a0:=a) (al0:=al) hE hsel hback hpan (fun p _ b hb=>(hI0.own p.2 b hb).1) hI0.stab halOK hpr (SS:=SS) (fun L w'=>Iff.rfl) fuel its al (β:=fun _=>0) h
   (fun i hi=>(hCHm i).2 hi) (fun i hi hm=>?_) (fun α hα hm=>(hits α (hCHi α hm)).2.1 hα) hnd (List.Sublist.refl _) (fun α hα hm=>(hits α hm).2.1 hα) (fun i hi=>(hits i hi).2.2) hsz' hcl ?_ hf' hSw (Nat.le_refl _) (hI0.junk _) Grows.refl (fun _ _ _=>rfl)
   (fun α hα hL=>(halN α hα hL).elim) (fun α hα _ _ hL=>(halN α hα hL).elim) (fun d hd=>by simp only [junkD];rw [if_pos (List.elem_eq_true_of_mem hd)]) hfr0 ?_
  ·exact nodup_two hnd hi ((hCHm i).1 hm)
  ·intro j hj hja
   rw [hl2 j hj]
   have:=List.all_eq_true.1 o2 j (List.mem_range.2 hj)
   simp only [Bool.or_eq_true] at this
   cases e:(its.map (·.2)).elem j with
   | true=>rw [elem_f (hits j (List.mem_of_elem_eq_true e)).1];rfl
   | false =>
    rcases this with (h1 | h1) | h1
    ·rw [h1];rfl
    ·exact absurd (List.mem_of_elem_eq_true h1) hja
    ·rw [e] at h1;cases h1
  ·intro st' a' w' S' pls' X' hK hI2 hg2 hfr2
   exact hQ st' a' w' hK ⟨S',pls',X',hI2,⟨hg2.more,hg2.still,hg2.new,hg2.any⟩⟩ hfr2
end
end Go.Rf
namespace Go.Rf
def lateOp4:Op→Bool
 | .move _=>true
 | .extract ..=>true
 | .nilCheck _=>true
 | .fieldAddr ..=>true
 | .load ..=>true
 | .field ..=>true
 | .binOp ..=>true
 | .unOp ..=>true
 | .index ..=>true
 | .indexAddr ..=>true
 | .slice ..=>true
 | .convert ..=>true
 | .pick ..=>true
 | .call c=>match c.callee with
  | .builtin .len=>true
  | _=>false
 | _=>false
def late4 (ops:Array Oper) (i:Nat) (o:Oper) (rest:List Nat):Bool :=
 lateOp4 o.op && o.dst.isSome && ((preds o).all fun j=>!(i::rest).elem j) && rest.all fun j=>match ops[j]? with
  | some oj=>(preds oj).elem i || o.apart ops oj
  | none=>true
def lone4 (ops:Array Oper) (i:Nat) (rest:List Nat):Bool :=
 rest.all fun j=>match ops[j]? with
  | some oj=>(preds oj).any fun k=>(i::rest).elem k
  | none=>true
def sched4 (ops:Array Oper):Nat→List Nat→List (Bool×Nat)
 | 0,_=>[]
 | n+1,rem=>match rem with
  | []=>[]
  | k::_=>match rem.find? (fun i=>match ops[i]? with
    | some o=>late4 ops i o (rem.filter fun j=>!Nat.beq j i)
    | none=>false) with
   | some i=>(true,i)::sched4 ops n (rem.filter fun j=>!Nat.beq j i)
   | none=>(false,k)::sched4 ops n (rem.filter fun j=>!Nat.beq j k)
def do4 (E:Cz){R:Type} (b:Bool) (o:Oper) (st:St) (K:St→Option R):Option R :=
 if b=true then (match rdRoot st o.op with
  | none=>pureK E.toCx st o.op fun tv=>K (st.put o.dst tv)
  | some _=>none)
 else opK E st o K
def run4 (E:Cz) (ops:Array Oper){R:Type}:Nat→List Nat→List (Bool×Nat)→St→(St→Option R)→Option R
 | 0,_,_,_,_=>none
 | n+1,res,its,st,K=>match its with
  | []=>K st
  | (b,i)::its=>match ops[i]? with
   | none=>none
   | some o =>
    if dOK E.n o.dst=true∧(bif b then late4 ops i o (its.map (·.2)) else lone4 ops i (its.map (·.2)))=true then
     (match o.guard with
     | none=>do4 E b o st fun st1=>run4 E ops n res its st1 K
     | some (g,gb)=>match (ops[g]?).bind (·.dst) with
      | none=>none
      | some dg=>match st.tmps dg with
       | .tup []=>run4 E ops n res its (st.put o.dst (.tup [])) K
       | .a (.v .bool t) =>
        if res.elem dg=true then (if t=gb then do4 E b o st fun st1=>run4 E ops n res its st1 K else run4 E ops n res its (st.put o.dst (.tup [])) K)
        else if t=true then run4 E ops n (dg::res) ((b,i)::its) (st.put (some dg) (.a (.v .bool true))) K
        else run4 E ops n (dg::res) ((b,i)::its) (st.put (some dg) (.a (.v .bool false))) K
       | _=>none)
    else none
def back4 (ops:Array Oper):Bool:=(List.range ops.size).all fun i=>match ops[i]? with
 | none=>false
 | some o=>(preds o).all fun k=>Nat.blt k i
def drawI4 (E:Cz) (ops:Array Oper) (its:List (Bool×Nat)){R:Type} (st:St) (K:St→Option R):Option R :=
 if back4 ops=true∧Region.noSelect ops=true∧nodupB (its.map (·.2))=true∧((its.map (·.2)).all fun j=>Nat.blt j ops.size)=true∧((List.range ops.size).all fun j=>(its.map (·.2)).elem j)=true then
  run4 E ops (ops.size+ops.size+ops.size+1) [] its st K
 else none
def drawK4 (E:Cz) (ops:Array Oper){R:Type} (st:St) (K:St→Option R):Option R :=
 drawI4 E ops (sched4 ops (ops.size+1) (List.range ops.size)) st K
section
variable {P:Program}{E:Cz}{w0 w w':World}{G:Blk}{st st':St}{a:Act}{S:Stab}{pls:Nat→Pl}{X:Nat→List Nat}{ops:Array Oper}
theorem wpAnyL_mono {Q:Exit→Act→World→Prop}{S S':Array Bool→World→Prop} (h:∀ L w,S' L w→S L w):∀ (fuel:Nat){L:Array Bool}{a:Act}{w:World},wpAnyL P ops Q S' fuel L a w→wpAnyL P ops Q S fuel L a w:=by
 intro fuel
 induction fuel with
 | zero=>exact fun h=>h
 | succ f ih=>exact fun hh=>⟨hh.1,fun i hi=>wpOp_mono (fun a' w' k=>⟨h _ _ k.1,ih k.2⟩) (hh.2 i hi)⟩
theorem run4_sound (hE:EnvOK P E) (hsel:Region.noSelect ops=true) (hback:∀ i o,ops[i]?=some o→∀ k∈preds o,k<i){Q:Exit→Act→World→Prop} (hpan:∀ c a w,¬ Q (.panic c) a w){R:Type}{K:St→Option R}{r:R}
  {wI:World}{S0:Stab}{a0:Act} (hend:∀ st' a' w' S' pls' X',K st'=some r→Inv E.toCx w0 G st' a' w' S' pls' X'→Grows w0 G S0 S' wI w'→(∀ t,t ∉ dsts ops.toList→a'.tmps.getD t undef=a0.tmps.getD t undef)→Q .normal a' w') :
  ∀ (n:Nat) (res:List Nat) (its:List (Bool×Nat)) (fuel:Nat){st:St}{L:Array Bool}{a:Act}{w:World}{S:Stab}{pls:Nat→Pl}{X:Nat→List Nat},
   run4 E ops n res its st K=some r→(its.map (·.2)).Nodup→(∀ i∈its.map (·.2),i<ops.size) →
   L.size=ops.size→Closed ops L→(∀ j,j<ops.size→L.getD j false=!(its.map (·.2)).elem j)→left L≤fuel →
   Inv E.toCx w0 G st a w S pls X→Grows w0 G S0 S wI w→(∀ t,t ∉ dsts ops.toList→a.tmps.getD t undef=a0.tmps.getD t undef) →
   wpAnyL P ops Q (fun _ w'=>∀ m b,S m b→hp w' b=hp w b) fuel L a w:=by
 intro n
 induction n with
 | zero=>intro res its fuel st L a w S pls X h;simp [run4] at h
 | succ n ih =>
  intro res its fuel st L a w S pls X h hnd hlt hsz hc hl hf hI hg hfr
  cases its with
  | nil =>
   simp only [run4] at h
   have hr:Region.ready .any ops L=[]:=by
    rw [List.eq_nil_iff_forall_not_mem]
    intro i hi
    obtain ⟨h1,o,h2,_⟩:=ready_preds.1 hi
    have hil:i<ops.size:=(Array.getElem?_eq_some_iff.1 h2).1
    rw [getD_flip (by omega),hl i hil] at h1
    simp at h1
   have hq:=hend st a w S pls X h hI hg hfr
   cases fuel with
   | zero=>exact ⟨hr,hq⟩
   | succ f=>exact ⟨fun _=>hq,fun i hi=>by rw [hr] at hi;cases hi⟩
  | cons p its =>
   obtain ⟨b,i⟩:=p
   have hnd':=hnd
   simp only [List.map_cons,List.nodup_cons] at hnd'
   have hilt:i<ops.size:=hlt i (by simp)
   have hun:L.getD i false=false:=by rw [hl i hilt];simp
   have hunt:L.getD i true=false:=by rw [getD_flip (by omega)];exact hun
   have hleft:=left_set hunt
   cases fuel with
   | zero =>
    have:=left_zero (Nat.le_zero.1 hf) (i:=i)
    rw [hunt] at this;cases this
   | succ f =>
    have hnew:∀ j,j<ops.size→(L.setIfInBounds i true).getD j false=!(its.map (·.2)).elem j:=by
     intro j hj
     rw [set_getD]
     split
     ·rename_i e
      obtain ⟨rfl,_⟩:=e
      have:(its.map (·.2)).elem i=false:=by
       cases e:(its.map (·.2)).elem i with
       | false=>rfl
       | true=>exact absurd (List.mem_of_elem_eq_true e) hnd'.1
      rw [this];rfl
     ·rename_i e
      rw [hl j hj]
      have:j≠i:=fun e'=>e ⟨e'.symm,by omega⟩
      simp [this]
    have hlt':∀ j∈its.map (·.2),j<ops.size:=fun j hj=>hlt j (by simp only [List.map_cons,List.mem_cons];exact .inr hj)
    have hout:∀ {o:Oper},ops[i]?=some o→∀ t,t ∉ dsts ops.toList→o.dst≠some t:=by
     intro o ho t ht e
     apply ht
     simp only [dsts,List.mem_filterMap]
     exact ⟨o,by have:=Array.mem_of_getElem? ho;simpa using this,e⟩
    simp only [run4] at h
    split at h
    ·cases h
    rename_i o ho
    split at h
    rotate_left
    ·cases h
    rename_i hcond
    obtain ⟨hd,hcond⟩:=hcond
    have hfr':∀ v t,t ∉ dsts ops.toList→(a.put o.dst v).tmps.getD t undef=a0.tmps.getD t undef:=fun v t ht=>by rw [act_put (hout ho t ht)];exact hfr t ht
    have hmemu:∀ {j:Nat},j<ops.size→L.getD j false=false→j=i∨j∈its.map (·.2):=by
     intro j hj hju
     have:=hl j hj
     rw [hju] at this
     have:(((b,i)::its).map (·.2)).elem j=true:=by
      cases e:(((b,i)::its).map (·.2)).elem j with
      | true=>rfl
      | false=>rw [e] at this;cases this
     have:=List.mem_of_elem_eq_true this
     simpa only [List.map_cons,List.mem_cons] using this
    -- a value that is thought now
    have first:b=true→∀ {v:Value}{tv:TV},YieldsIf P ops (fun w'=>∀ m b,S m b→hp w' b=hp w b) o v a→TRel S (hp w) pls st.roots v tv→run4 E ops n res its (st.put o.dst tv) K=some r →
      wpAnyL P ops Q (fun _ w'=>∀ m b,S m b→hp w' b=hp w b) (f+1) L a w:=by
     intro hb v tv hy hv hk
     subst hb
     simp only [cond_true,late4,bA] at hcond
     obtain ⟨⟨⟨c1,c2⟩,c3⟩,c4⟩:=hcond
     have hready:i∈Region.ready .any ops L:=by
      refine ready_preds.2 ⟨hunt,o,ho,fun j hj=>?_⟩
      have hji:=hback i o ho j hj
      have:=List.all_eq_true.1 c3 j hj
      rw [hl j (by omega)]
      simp only [List.map_cons]
      exact this
     refine wpAnyL_first (Y:=fun w'=>∀ m b,S m b→hp w' b=hp w b) (v:=v) ho (Region.noSelect_spec hsel) (fun c a w hq=>absurd hq (hpan _ _ _)) (fun _ _=>Iff.rfl) (fun _ _ _ _ _ h=>h) f L a w hsz hc ?_ hready hy (fun _ _ _=>rfl) ?_
     ·intro j oj hj hji hju hno
      have hjl:j<ops.size:=(Array.getElem?_eq_some_iff.1 hj).1
      rcases hmemu hjl (by rw [← getD_flip (by omega)];exact hju) with e | hm
      ·exact absurd e hji
      have:=List.all_eq_true.1 c4 j hm
      rw [hj] at this
      simp only [Bool.or_eq_true] at this
      rcases this with e | e
      ·exfalso
       have hm:=List.mem_of_elem_eq_true e
       simp only [preds,List.mem_map,List.mem_filter] at hm
       obtain ⟨ed,⟨he1,he2⟩,he3⟩:=hm
       exact hno ed (by simpa using he1) he2 he3
      ·exact e
     ·exact ih res its f hk hnd'.2 hlt' (by simp [hsz]) (hc.add hready) hnew (by omega) (hI.put (fun d e=>by rw [e] at hd;simpa [dOK] using hd) hv) hg (hfr' v)
    -- one that comes up now
    have only:b=false→(∀ j∈Region.ready .any ops L,j=i):=by
     intro hb j hj
     subst hb
     simp only [cond_false,lone4] at hcond
     obtain ⟨hj1,oj,hoj,hj3⟩:=ready_preds.1 hj
     have hjl:j<ops.size:=(Array.getElem?_eq_some_iff.1 hoj).1
     rcases hmemu hjl (by rw [← getD_flip (by omega)];exact hj1) with e | hm
     ·exact e
     ·exfalso
      have:=List.all_eq_true.1 hcond j hm
      rw [hoj] at this
      obtain ⟨k,hk1,hk2⟩:=List.any_eq_true.1 this
      have:=hj3 k hk1
      have hkj:=hback j oj hoj k hk1
      rw [hl k (by omega)] at this
      simp only [List.map_cons] at this
      rw [hk2] at this;cases this
    have hnil:Region.ready .any ops L=[]→False:=fun hr=>by
     have:=ready_nil hsz hback hr i hilt
     rw [hun] at this;cases this
    have next:∀ {v:Value}{w2:World}{S2:Stab}{pls2:Nat→Pl}{X2:Nat→List Nat}{st2:St},i∈Region.ready .any ops L→run4 E ops n res its st2 K=some r→Inv E.toCx w0 G st2 (a.put o.dst v) w2 S2 pls2 X2→Grows w0 G S S2 w w2 →
      (∀ m b,S m b→hp w2 b=hp w b)∧wpAnyL P ops Q (fun _ w'=>∀ m b,S m b→hp w' b=hp w b) f (L.setIfInBounds i true) (a.put o.dst v) w2:=by
     intro v w2 S2 pls2 X2 st2 hi hk hI2 hg2
     refine ⟨hg2.still,wpAnyL_mono (fun L w' h m b hb=>?_) f (ih res its f hk hnd'.2 hlt' (by simp [hsz]) (hc.add hi) hnew (by omega) hI2 (hg.trans hg2) (hfr' v))⟩
     rw [h m b (hg2.more m b hb)]
     exact hg2.still m b hb
    have run:Region.wanted o (yielded ops a.tmps)=true→do4 E b o st (fun st1=>run4 E ops n res its st1 K)=some r→wpAnyL P ops Q (fun _ w'=>∀ m b,S m b→hp w' b=hp w b) (f+1) L a w:=by
     intro hw hk
     unfold do4 at hk
     split at hk
     ·rename_i hb
      split at hk
      rotate_left
      ·cases hk
      rename_i hrd
      rw [pureK_bind] at hk
      obtain ⟨tv,hp1,hk⟩:=Option.bind_eq_some_iff.1 hk
      obtain ⟨v,hrun,hv⟩:=pure_run hE.tab hI hp1
      exact first hb (.inl ⟨hw,fun w' hw'=>hrun w' ⟨hw',fun id hid=>by rw [hrd] at hid;cases hid⟩⟩) hv hk
     ·rename_i hb
      have hb:b=false:=by simpa using hb
      refine ⟨fun hr=>(hnil hr).elim,fun j hj=>?_⟩
      have e:=only hb j hj
      subst e
      rw [opK_bind] at hk
      obtain ⟨st2,hop,hk⟩:=Option.bind_eq_some_iff.1 hk
      unfold wpOp
      simp only [ho,hw,if_true]
      refine .inl (op_done hE hI hop _ _ ?_)
      rintro v w2 ⟨S2,pls2,X2,hI2,hg2⟩
      exact next hj hk hI2 hg2
    have skip:Region.wanted o (yielded ops a.tmps)=false→run4 E ops n res its (st.put o.dst (.tup [])) K=some r→wpAnyL P ops Q (fun _ w'=>∀ m b,S m b→hp w' b=hp w b) (f+1) L a w:=by
     intro hw hk
     cases b with
     | true=>exact first rfl (tv:=.tup []) (.inr ⟨hw,rfl⟩) ⟨[],rfl,trivial⟩ hk
     | false =>
      refine ⟨fun hr=>(hnil hr).elim,fun j hj=>?_⟩
      have e:=only rfl j hj
      subst e
      unfold wpOp
      simp only [ho,hw,bF,if_false]
      exact ⟨fun _ _ _=>trivial,(next (v:=undef) hj hk (hI.put (tv:=.tup []) (fun d e=>by rw [e] at hd;simpa [dOK] using hd) ⟨[],rfl,trivial⟩) Grows.refl).2⟩
    split at h
    ·rename_i hgd
     exact run (by simp [Region.wanted,hgd]) h
    ·rename_i g gb hgd
     split at h
     ·cases h
     rename_i dg hdg
     have hvg:=hI.tmps dg
     split at h
     ·rename_i e
      rw [e] at hvg
      obtain ⟨vs,hvg,hlr⟩:=hvg
      cases vs with
      | cons _ _=>simp [LRel] at hlr
      | nil=>exact skip (by rw [wanted_of hgd hdg hvg];rfl) h
     ·rename_i t e
      rw [e] at hvg
      obtain ⟨vs,hvg,⟨rfl,_⟩⟩:=hvg
      split at h
      ·split at h
       ·rename_i htb
        exact run (by rw [wanted_of hgd hdg hvg];simp [valOf,Ty.isAgg,isB,htb]) h
       ·rename_i htb
        exact skip (by rw [wanted_of hgd hdg hvg];simpa [valOf,Ty.isAgg,isB] using htb) h
      ·split at h
       ·rename_i ht
        rw [put_id (by rw [e,ht])] at h
        exact ih _ _ (f+1) h hnd hlt hsz hc hl hf hI hg hfr
       ·rename_i ht
        rw [put_id (by rw [e];simp at ht;rw [ht])] at h
        exact ih _ _ (f+1) h hnd hlt hsz hc hl hf hI hg hfr
     ·cases h
theorem drawI4_sound (hE:EnvOK P E) (hm:P.follows .mixedOrders=true){R:Type}{id:Nat}{its:List (Bool×Nat)}
  {K:St→Option R}{r:R}{Q:Exit→Act→World→Prop} (hpan:∀ c a w,¬ Q (.panic c) a w) (hI:Inv E.toCx w0 G st a w S pls X) (h:drawI4 E ops its st K=some r)
  (hQ:∀ st' a' w',K st'=some r→Fits E.toCx w0 G S w st' a' w'→(∀ t,t ∉ dsts ops.toList→a'.tmps.getD t undef=a.tmps.getD t undef)→Q .normal a' w'):(Code.region id ops true).wp P Q a w:=by
 unfold drawI4 at h
 split at h
 rotate_left
 ·cases h
 rename_i hc
 obtain ⟨o1,hsel,o2,o3,o4⟩:=hc
 have hback:∀ i o,ops[i]?=some o→∀ k∈preds o,k<i:=by
  intro i o ho k hk
  have hlt:i<ops.size:=(Array.getElem?_eq_some_iff.1 ho).1
  have:=List.all_eq_true.1 o1 i (List.mem_range.2 hlt)
  rw [ho] at this
  have:=List.all_eq_true.1 this k hk
  exact Nat.succ_le_iff.1 (Nat.le_of_ble_eq_true this)
 have hI':Inv E.toCx w0 G st a w.drew S pls X:=hI.drew
 refine wp_region_any hm (wpAny_of_L (S:=fun _ w'=>∀ m b,S m b→hp w' b=hp w.drew b) _ _ _ _ ?_)
 refine run4_sound (w0:=w0) (G:=G) (wI:=w.drew) (S0:=S) (a0:=a) hE hsel hback hpan (fun st' a' w' S' pls' X' hK hI2 hg2 hfr2=>hQ st' a' w' hK ⟨S',pls',X',hI2,⟨hg2.more,hg2.still,hg2.new,hg2.any⟩⟩ hfr2)
  _ [] its _ h (nodupB_spec o2) (fun i hi=>Nat.succ_le_iff.1 (Nat.le_of_ble_eq_true (List.all_eq_true.1 o3 i hi))) (by simp) ?_ ?_ ?_ hI' Grows.refl (fun _ _=>rfl)
 ·intro k o ho hk
  rw [getD_rep] at hk;cases hk
 ·intro j hj
  rw [getD_rep,List.all_eq_true.1 o4 j (List.mem_range.2 hj)];rfl
 ·unfold left
  refine Nat.le_trans (List.length_filter_le _ _) ?_
  simp
theorem draw4_sound (hE:EnvOK P E) (hm:P.follows .mixedOrders=true){R:Type}{id:Nat}
  {K:St→Option R}{r:R}{Q:Exit→Act→World→Prop} (hpan:∀ c a w,¬ Q (.panic c) a w) (hI:Inv E.toCx w0 G st a w S pls X) (h:drawK4 E ops st K=some r)
  (hQ:∀ st' a' w',K st'=some r→Fits E.toCx w0 G S w st' a' w'→(∀ t,t ∉ dsts ops.toList→a'.tmps.getD t undef=a.tmps.getD t undef)→Q .normal a' w'):(Code.region id ops true).wp P Q a w :=
 drawI4_sound hE hm hpan hI h hQ
end
end Go.Rf
namespace Go.Rf
def callsB (ops:Array Oper) (l:List Nat):Bool:=l.all fun i=>match ops[i]? with
 | some o=>(match o.op with
  | .call _=>true
  | _=>false)
 | none=>false
def fuseB (ops:Array Oper) (l:List Nat):Bool:=l.any fun i=>match ops[i]? with
 | some o=>(match o.op with
  | .indexAddr ..=>true
  | _=>false)
 | none=>false
def rootOf (st:St) (env:List (Nat×Nat)) (o:Operand):Option Nat :=
 match o with
 | .tmp t=>match env.find? (fun p=>Nat.beq p.1 t) with
  | some p=>some p.2
  | none=>match st.tmps t with
   | .a (.ptr id _)=>some id
   | _=>none
 | _=>none
def rdIds (st:St):List Oper→List (Nat×Nat)→List Nat
 | [],_=>[]
 | o::l,env=>match o.op,o.dst with
  | .fieldAddr _ x _,some d=>(match rootOf st env x with
   | some id=>rdIds st l ((d,id)::env)
   | none=>rdIds st l env)
  | .nilCheck x,some d=>(match rootOf st env x with
   | some id=>rdIds st l ((d,id)::env)
   | none=>rdIds st l env)
  | .move x,some d=>(match rootOf st env x with
   | some id=>rdIds st l ((d,id)::env)
   | none=>rdIds st l env)
  | .load _ x,_=>(match rootOf st env x with
   | some id=>id::rdIds st l env
   | none=>rdIds st l env)
  | _,_=>rdIds st l env
def clashB (ops:Array Oper) (m:Nat) (F:List Nat) (st:St):Bool :=
 (rdIds st (ops.toList.take m) []).any fun id=>(rdIds st (F.filterMap (ops[·]?)) []).elem id
def drawA (E:Cz) (ops:Array Oper){R:Type} (st:St) (K:St→Option R):Option R :=
 if (orderOK ops (freeN E ops.toList) (flo ops (freeN E ops.toList)) && !clashB ops (freeN E ops.toList) (flo ops (freeN E ops.toList)) st)=true then drawK E ops st K
 else if (order2 ops (tailI ops 0 (flo ops 0)) (cutT ops (flo ops 0) (tailI ops 0 (flo ops 0))).2 (flo ops 0) && (callsB ops (cutT ops (flo ops 0) (tailI ops 0 (flo ops 0))).1 || fuseB ops (cutT ops (flo ops 0) (tailI ops 0 (flo ops 0))).2))=true then drawK2 E ops st K
 else if (ops.toList.any fun o=>o.guard.isSome)=true then drawK4 E ops st K
 else drawK3 E ops st K
theorem drawA_sound {P:Program}{E:Cz}{w0 w:World}{G:Blk}{st:St}{a:Act}{S:Stab}{pls:Nat→Pl}{X:Nat→List Nat}{ops:Array Oper} (hE:EnvOK P E) (hm:P.follows .mixedOrders=true){R:Type}{id:Nat}
  {K:St→Option R}{r:R}{Q:Exit→Act→World→Prop} (hpan:∀ c a w,¬ Q (.panic c) a w) (hI:Inv E.toCx w0 G st a w S pls X) (h:drawA E ops st K=some r)
  (hQ:∀ st' a' w',K st'=some r→Fits E.toCx w0 G S w st' a' w'→(∀ t,t ∉ dsts ops.toList→a'.tmps.getD t undef=a.tmps.getD t undef)→Q .normal a' w'):(Code.region id ops true).wp P Q a w:=by
 unfold drawA at h
 split at h
 ·exact draw_sound hE hm hpan hI h hQ
 ·split at h
  ·exact draw2_sound hE hm hpan hI h hQ
  ·split at h
   ·exact draw4_sound hE hm hpan hI h hQ
   ·exact draw3_sound hE hm hpan hI h hQ
end Go.Rf
