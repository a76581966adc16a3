/-
  A symbolic evaluator of the model's code, second part: stores, boxes, append, make, literals, contracts and calls; of whatever program.
-/
import Derived.Test.YtcgneindmpkhgaaGreatDoorRRfA
import Derived.Deep.AppendSrc
import Derived.IntWalk
set_option linter.unusedSimpArgs false
set_option linter.unusedVariables false
set_option autoImplicit false
namespace Go.Rf
inductive Sk where
 | leaf | unit | pair (a b:Sk)
 deriving DecidableEq
def Ty.skel:Ty→Sk
 | .pair a b=>.pair a.skel b.skel
 | .unit=>.unit
 | _=>.leaf
def Sk.size:Sk→Nat
 | .leaf=>1
 | .unit=>0
 | .pair a b=>a.size+b.size
theorem Ty.skel_size:∀ τ:Ty,τ.skel.size=τ.size
 | .int _ | .bool | .str | .nil | .dead | .unit | .clo _ _=>rfl
 | .sl _ _=>rfl
 | .pair a b=>by simp [Ty.skel,Sk.size,Ty.size,Ty.skel_size a,Ty.skel_size b]
theorem skel_size_eq {τ σ:Ty} (h:τ.skel=σ.skel):τ.size=σ.size:=by rw [← Ty.skel_size,h,Ty.skel_size]
theorem skel_agg {τ σ:Ty} (h:τ.skel=σ.skel):τ.isAgg=σ.isAgg:=by cases τ <;> cases σ <;> simp_all [Ty.skel,Ty.isAgg]
theorem setP_skel:∀ (p:Path){τ:Ty}{x:τ.D}{σ ρ:Ty}{y:σ.D}{z:ρ.D}{τn:Ty}{xn:τn.D},getP p τ x=some ⟨σ,y⟩→setP p τ x ρ z=some ⟨τn,xn⟩→ρ.skel=σ.skel →
  τn.skel=τ.skel:=by
 intro p
 induction p with
 | nil =>
  intro τ x σ ρ y z τn xn hg hs hk
  simp only [getP,sI,Sigma.mk.injEq] at hg
  obtain ⟨rfl,hg⟩:=hg;cases hg
  simp only [setP] at hs
  rw [if_pos (skel_size_eq hk).symm] at hs
  simp only [sI,Sigma.mk.injEq] at hs
  obtain ⟨rfl,hs⟩:=hs
  exact hk
 | cons s p ih =>
  intro τ x σ ρ y z τn xn hg hs hk
  cases s with
  | L =>
   cases τ <;> simp only [getP,reduceCtorEq] at hg
   simp only [setP] at hs
   split at hs
   ·rename_i a' z' hs'
    simp only [sI,Sigma.mk.injEq] at hs
    obtain ⟨rfl,hs⟩:=hs
    simp [Ty.skel,ih hg hs' hk]
   ·cases hs
  | R =>
   cases τ <;> simp only [getP,reduceCtorEq] at hg
   simp only [setP] at hs
   split at hs
   ·rename_i a' z' hs'
    simp only [sI,Sigma.mk.injEq] at hs
    obtain ⟨rfl,hs⟩:=hs
    simp [Ty.skel,ih hg hs' hk]
   ·cases hs
  | ix i =>
   cases τ with
   | sl m e =>
    cases m <;> simp only [getP,reduceCtorEq] at hg
    simp only [setP] at hs
    split at hs
    ·split at hs
     ·simp only [sI,Sigma.mk.injEq] at hs
      obtain ⟨rfl,hs⟩:=hs;rfl
     ·cases hs
    ·cases hs
   | _=>simp [getP] at hg
theorem at_skel {H H':Heap}:∀ (q:Path){τ τ':Ty}{x:τ.D} (x':τ'.D){σ:Ty}{y:σ.D}{vs vs' v1:List Value}{l l1:Option (Nat×Nat)},hasIx q=false→τ'.skel=τ.skel →
  getP q τ x=some ⟨σ,y⟩→vs'.length=vs.length→At H q τ vs l v1 l1 →
  ∃ (σ':Ty) (y':σ'.D) (v1':List Value),getP q τ' x'=some ⟨σ',y'⟩∧Valid q τ' x'∧At H' q τ' vs' l v1' l1:=by
 intro q
 induction q with
 | nil =>
  intro τ τ' x x' σ y vs vs' v1 l l1 _ hk hg hl ha
  obtain ⟨rfl,rfl⟩:=ha
  exact ⟨τ',x',vs',rfl,trivial,rfl,rfl⟩
 | cons s q ih =>
  intro τ τ' x x' σ y vs vs' v1 l l1 hx hk hg hl ha
  cases s with
  | L =>
   cases τ <;> simp only [getP,reduceCtorEq] at hg
   cases τ' <;> simp only [Ty.skel,reduceCtorEq,Sk.pair.injEq] at hk
   have:=skel_size_eq hk.1
   exact ih x'.1 hx hk.1 hg (by simp [this];omega) ha
  | R =>
   cases τ <;> simp only [getP,reduceCtorEq] at hg
   cases τ' <;> simp only [Ty.skel,reduceCtorEq,Sk.pair.injEq] at hk
   have:=skel_size_eq hk.1
   simp only [At] at ha ⊢
   rw [this]
   exact ih x'.2 hx hk.2 hg (by simp;omega) ha
  | ix i=>simp [hasIx] at hx
theorem At.heap {S:Stab}{H H':Heap}:∀ (p:Path){τ:Ty}{vs:List Value}{x:τ.D}{fp:List Nat}{l l':Option (Nat×Nat)}{vs':List Value},
  Rep S H τ vs x fp→Valid p τ x→(∀ b∈fp,H' b=H b)→At H p τ vs l vs' l'→At H' p τ vs l vs' l':=by
 intro p
 induction p with
 | nil=>intro τ vs x fp l l' vs' _ _ _ h;exact h
 | cons s p ih =>
  intro τ vs x fp l l' vs' hr hv hf h
  cases s with
  | L =>
   cases τ <;> simp only [Valid] at hv
   obtain ⟨v1,v2,f1,f2,rfl,rfl,h1,h2⟩:=hr
   simp only [At] at h ⊢
   rw [← h1.length,List.take_left] at h ⊢
   exact ih h1 hv (fun b hb=>hf b (by simp [hb])) h
  | R =>
   cases τ <;> simp only [Valid] at hv
   obtain ⟨v1,v2,f1,f2,rfl,rfl,h1,h2⟩:=hr
   simp only [At] at h ⊢
   rw [← h1.length,List.drop_left] at h ⊢
   exact ih h2 hv (fun b hb=>hf b (by simp [hb])) h
  | ix i =>
   cases τ with
   | sl m e =>
    cases m <;> simp only [Valid] at hv
    obtain ⟨hi,hv⟩:=hv
    obtain ⟨pa,len,cap,rfl,hl1,hc,hh⟩:=hr
    obtain ⟨b1,o1,len1,cap1,c,el,fr,e1,hb,ha⟩:=h
    simp only [List.cons.injEq,Value.slice.injEq,and_true] at e1
    obtain ⟨rfl,rfl,rfl⟩:=e1
    rcases hh with ⟨h,_⟩ | ⟨b2,o2,c2,el2,fr2,f2,e2,hb2,hsz,hr,h⟩
    ·omega
    simp only [sI,Addr.mk.injEq,and_true] at e2
    obtain ⟨rfl,rfl⟩:=e2
    rw [hb] at hb2;simp only [sI,Obj.cells.injEq] at hb2
    obtain ⟨rfl,rfl,rfl⟩:=hb2
    obtain ⟨g1,f',g2,g3⟩:=getD_row hr hi
    rcases h with ⟨h,_⟩ | ⟨_,_,rfl⟩
    ·simp at h
    rw [List.drop_drop] at g2
    exact ⟨b1,o1,len,cap,c,el,fr,rfl,by rw [hf b1 (by simp)];exact hb,ih g2 hv (fun b hb=>hf b (by simp [g3 b hb])) ha⟩
   | _=>simp [Valid] at hv
def AV.refs:AV→Option Nat
 | .ref id _=>some id
 | .ptr id _=>some id
 | _=>none
theorem Holds.heap {H H':Heap}{pl:Pl}{n:Nat}{vs:List Value}{l:Option (Nat×Nat)} (h:Holds H pl n vs l) (hb:∀ B o,l=some (B,o)→H' B=H B):Holds H' pl n vs l:=by
 cases pl with
 | mem B pre post el fr =>
  obtain ⟨h1,h2,rfl,h3⟩:=h
  exact ⟨by rw [hb B _ rfl];exact h1,h2,rfl,h3⟩
 | val ws=>exact h
theorem RootRel.loc {S:Stab}{H:Heap}{pl:Pl}{r:Root}{X:List Nat} (h:RootRel S H pl r X){vs:List Value}{l:Option (Nat×Nat)} (hh:Holds H pl r.τ.size vs l) :
  ∀ B o,l=some (B,o)→B∈X:=by
 obtain ⟨k,τ,x⟩:=r
 cases k <;> cases pl <;> simp only [RootRel] at h
 ·obtain ⟨vs',l',fp,h1,h2,rfl⟩:=h
  obtain ⟨_,_,rfl,_⟩:=hh
  intro B o e
  simp only [sI,Prod.mk.injEq] at e
  simp [e.1]
 ·obtain ⟨_,rfl⟩:=hh
  intro B o e;cases e
theorem VRel.heap {S S':Stab}{H H':Heap}{pls pls':Nat→Pl}{roots roots':Nat→Option Root}{X:Nat→List Nat}{val:Value}{v:AV}
  (hroots:∀ id r,roots id=some r→RootRel S H (pls id) r (X id)) (hS:∀ m b,S m b→H' b=H b) (hSS:∀ m b,S m b→S' m b)
  (hid:∀ id,v.refs=some id→roots' id=roots id∧pls' id=pls id∧∀ b∈X id,H' b=H b) (h:VRel S H pls roots val v):VRel S' H' pls' roots' val v:=by
 cases v with
 | v τ x =>
  obtain ⟨vs,e,hr⟩:=h
  exact ⟨vs,e,(hr.heap hS (by simp)).stab hSS⟩
 | junk=>trivial
 | sptr τ x =>
  obtain ⟨b,off,c,el,fr,e1,e2,e3,e4,m,e5⟩:=h
  exact ⟨b,off,c,el,fr,e1,by rw [hS m b e5];exact e2,e3,(e4.heap hS (by simp)).stab hSS,m,hSS m b e5⟩
 | ref id p =>
  obtain ⟨h1,h2,h3⟩:=hid id rfl
  obtain ⟨r,hr,σ,y,vs,l,vs',l',g1,g2,g3,g4,g5⟩:=h
  have hrr:=hroots id r hr
  obtain ⟨v1,l1,fp,k1,k2,k3⟩:=hrr.holds
  obtain ⟨rfl,rfl⟩:=k1.det g3
  refine ⟨r,by rw [h1];exact hr,σ,y,v1,l1,vs',l',g1,g2,?_,g4.heap p k2 g2 (fun b hb=>h3 b (k3 b hb)),g5⟩
  rw [h2];exact g3.heap (fun B o e=>h3 B (hrr.loc g3 B o e))
 | ptr id p =>
  obtain ⟨h1,h2,h3⟩:=hid id rfl
  obtain ⟨r,hr,σ,y,vs,l,vs',b,off,g1,g2,g3,g4,g5⟩:=h
  have hrr:=hroots id r hr
  obtain ⟨v1,l1,fp,k1,k2,k3⟩:=hrr.holds
  obtain ⟨rfl,rfl⟩:=k1.det g3
  refine ⟨r,by rw [h1];exact hr,σ,y,v1,l1,vs',b,off,g1,g2,?_,g4.heap p k2 g2 (fun b hb=>h3 b (k3 b hb)),g5⟩
  rw [h2];exact g3.heap (fun B o e=>h3 B (hrr.loc g3 B o e))
def TV.refs (id:Nat):TV→Prop
 | .a v=>v.refs=some id
 | .tup l=>∃ v∈l,v.refs=some id
theorem TRel.heap {S S':Stab}{H H':Heap}{pls pls':Nat→Pl}{roots roots':Nat→Option Root}{X:Nat→List Nat}{val:Value}{tv:TV}
  (hroots:∀ id r,roots id=some r→RootRel S H (pls id) r (X id)) (hS:∀ m b,S m b→H' b=H b) (hSS:∀ m b,S m b→S' m b)
  (hid:∀ id,tv.refs id→roots' id=roots id∧pls' id=pls id∧∀ b∈X id,H' b=H b) (h:TRel S H pls roots val tv):TRel S' H' pls' roots' val tv:=by
 cases tv with
 | a v=>exact VRel.heap hroots hS hSS hid h
 | tup l =>
  obtain ⟨vs,e,hl⟩:=h
  refine ⟨vs,e,?_⟩
  clear e
  induction l generalizing vs with
  | nil=>cases vs <;> simp_all [LRel]
  | cons v l ih =>
   cases vs with
   | nil=>simp [LRel] at hl
   | cons u us =>
    exact ⟨VRel.heap hroots hS hSS (fun id h=>hid id ⟨v,by simp,h⟩) hl.1,ih (fun id ⟨v',hv,h⟩=>hid id ⟨v',by simp [hv],h⟩) us hl.2⟩
theorem live {S:Stab}{H:Heap}{pls:Nat→Pl}{roots:Nat→Option Root}{val:Value}{tv:TV} (h:TRel S H pls roots val tv){id:Nat} (hr:tv.refs id):∃ r,roots id=some r:=by
 have key:∀ (val:Value) (v:AV),VRel S H pls roots val v→v.refs=some id→∃ r,roots id=some r:=by
  intro val v h e
  cases v <;> simp only [AV.refs,reduceCtorEq,sI] at e
  ·subst e;obtain ⟨r,hr,_⟩:=h;exact ⟨r,hr⟩
  ·subst e;obtain ⟨r,hr,_⟩:=h;exact ⟨r,hr⟩
 cases tv with
 | a v=>exact key _ _ h hr
 | tup l =>
  obtain ⟨vs,e0,hl⟩:=h
  obtain ⟨v,hv,e⟩:=hr
  clear e0
  induction l generalizing vs with
  | nil=>simp at hv
  | cons u l ih =>
   cases vs with
   | nil=>simp [LRel] at hl
   | cons w ws =>
    simp only [List.mem_cons] at hv
    rcases hv with rfl | hv
    ·exact key _ _ hl.1 e
    ·exact ih ws hl.2 hv
section
variable {P:Program}{C:Cx}{w0 w:World}{G:Blk}{st:St}{a:Act}{S:Stab}{pls:Nat→Pl}{X:Nat→List Nat}
theorem Inv.put (hI:Inv C w0 G st a w S pls X){dst:Option Nat}{v:Value}{tv:TV} (hd:∀ d,dst=some d→d<C.n) (h:TRel S (hp w) pls st.roots v tv) :
  Inv C w0 G (st.put dst tv) (a.put dst v) w S pls X:=by
 cases dst with
 | none=>exact hI
 | some d =>
  have hd:=hd d rfl
  refine { hI with roots:=hI.roots,tmps:=?_,size:=by simp [Act.put,hI.size],defers:=hI.defers }
  intro t
  simp only [St.put,Act.put]
  by_cases e:t=d
  ·subst e
   simp [hI.size,hd];exact h
  ·rw [if_neg e]
   have:=hI.tmps t
   simpa [Array.getD_eq_getD_getElem?,Array.getElem?_setIfInBounds_ne (Ne.symm e)] using this
def AV.kill (id:Nat):AV→AV
 | .ref i p=>if i=id then .junk else .ref i p
 | .ptr i p=>if i=id then .junk else .ptr i p
 | x=>x
def TV.kill (id:Nat):TV→TV
 | .a v=>.a (v.kill id)
 | .tup l=>.tup (l.map (AV.kill id))
theorem AV.kill_refs {id:Nat}{v:AV}:(v.kill id).refs≠some id∧∀ i,(v.kill id).refs=some i→v.refs=some i:=by
 cases v <;> simp only [AV.kill] <;> (try split) <;> simp_all [AV.refs]
theorem VRel.kill {H:Heap}{roots:Nat→Option Root}{val:Value}{v:AV} (id:Nat) (h:VRel S H pls roots val v):VRel S H pls roots val (v.kill id):=by
 cases v <;> simp only [AV.kill] <;> (try split) <;> first | exact h | trivial
theorem TRel.kill {H:Heap}{roots:Nat→Option Root}{val:Value}{v:TV} (id:Nat) (h:TRel S H pls roots val v):TRel S H pls roots val (v.kill id):=by
 cases v with
 | a v=>exact VRel.kill id h
 | tup l =>
  obtain ⟨vs,e,hl⟩:=h
  refine ⟨vs,e,?_⟩
  clear e
  induction l generalizing vs with
  | nil=>cases vs <;> simp_all [LRel]
  | cons v l ih =>
   cases vs with
   | nil=>simp [LRel] at hl
   | cons u us=>exact ⟨VRel.kill id hl.1,ih us hl.2⟩
theorem TV.kill_refs {id:Nat}{v:TV}:¬ (v.kill id).refs id∧∀ i,(v.kill id).refs i→v.refs i:=by
 cases v with
 | a v=>exact AV.kill_refs
 | tup l =>
  constructor
  ·rintro ⟨v,hv,e⟩
   simp only [List.mem_map] at hv
   obtain ⟨u,_,rfl⟩:=hv
   exact AV.kill_refs.1 e
  ·rintro i ⟨v,hv,e⟩
   simp only [List.mem_map] at hv
   obtain ⟨u,hu,rfl⟩:=hv
   exact ⟨u,hu,AV.kill_refs.2 i e⟩
def St.kill (st:St) (id:Nat):St :=
 {tmps:=fun t=>(st.tmps t).kill id,roots:=fun i=>if i=id then none else st.roots i }
def upd {α:Type} (f:Nat→α) (d:Nat) (x:α):Nat→α:=fun i=>if i=d then x else f i
@[simp] theorem upd_same {α:Type} (f:Nat→α) (d:Nat) (x:α):upd f d x d=x:=by simp [upd]
theorem upd_other {α:Type} (f:Nat→α){d i:Nat} (x:α) (h:i≠d):upd f d x i=f i:=by simp [upd,h]
theorem Inv.kill (hI:Inv C w0 G st a w S pls X) (id:Nat):Inv C w0 G (st.kill id) a w S pls (upd X id []):=by
 refine { frm:=hI.frm,stab:=hI.stab,kl:=hI.kl,size:=hI.size,defers:=hI.defers,glb:=hI.glb,pin:=fun i r hr hk=>hI.pin i r (by simp only [St.kill] at hr;split at hr;cases hr;exact hr) hk,own:=?_,nd:=?_,dis:=?_,roots:=?_,tmps:=?_ }
 ·intro i b hb
  by_cases e:i=id
  ·subst e;simp at hb
  ·rw [upd_other _ _ e] at hb;exact hI.own i b hb
 ·intro i
  by_cases e:i=id
  ·subst e;simp
  ·rw [upd_other _ _ e];exact hI.nd i
 ·intro i j b hij hb
  by_cases e:i=id
  ·subst e;simp at hb
  ·rw [upd_other _ _ e] at hb
   by_cases e':j=id
   ·subst e';simp
   ·rw [upd_other _ _ e'];exact hI.dis i j b hij hb
 ·intro i r hr
  simp only [St.kill] at hr
  split at hr
  ·cases hr
  ·rename_i e;rw [upd_other _ _ e];exact hI.roots i r hr
 ·intro t
  have h:=(hI.tmps t).kill (id:=id)
  refine TRel.heap hI.roots (fun _ _ _=>rfl) (fun _ _ h=>h) (fun i hi=>?_) h
  have hne:i≠id:=by rintro rfl;exact TV.kill_refs.1 hi
  exact ⟨by simp [St.kill,hne],rfl,fun _ _=>rfl⟩
theorem hp_alloc_old {o:Obj}{b:Nat} (h:b<w.heap.size):hp (w.alloc o) b=hp w b:=RowKit.Below.heap_alloc w o b h
theorem hp_alloc_new {o:Obj}:hp (w.alloc o) w.heap.size=some o:=by
 show (w.heap.push o)[w.heap.size]?=some o
 simp
theorem Rep.lt {H:Heap}{n:Nat} (hH:∀ b o,H b=some o→b<n):∀ {τ:Ty}{vs:List Value}{x:τ.D}{fp:List Nat},Rep S H τ vs x fp→∀ b∈fp,b<n:=by
 intro τ
 induction τ with
 | int k=>rintro vs x fp ⟨_,rfl⟩;simp
 | bool=>rintro vs x fp ⟨_,rfl⟩;simp
 | str=>rintro vs x fp ⟨_,rfl⟩;simp
 | nil=>rintro vs x fp ⟨_,rfl⟩;simp
 | dead=>rintro vs x fp ⟨_,rfl⟩;simp
 | unit=>rintro vs x fp ⟨_,rfl⟩;simp
 | clo g c _=>rintro vs x fp ⟨rfl,_⟩;simp
 | pair a b iha ihb =>
  rintro vs x fp ⟨v1,v2,f1,f2,rfl,rfl,h1,h2⟩ b hb
  simp only [List.mem_append] at hb
  rcases hb with h | h
  ·exact iha h1 b h
  ·exact ihb h2 b h
 | sl o e ih =>
  rintro vs x fp ⟨a,len,cap,rfl,hl,hc,hh⟩ b hb
  rcases hh with h | ⟨b0,off,c,el,fr,f2,rfl,hb0,hsz,hr,h⟩
  ·rw [h.2] at hb;simp at hb
  ·rcases h with ⟨_,_,_,rfl⟩ | ⟨_,_,rfl⟩
   ·simp at hb
   ·simp only [List.mem_cons] at hb
    rcases hb with rfl | hb
    ·exact hH _ _ hb0
    ·clear hb0 hsz hl hc
     generalize c.toList.drop off=cs at hr
     revert hr
     induction (x:List e.D) generalizing cs f2 with
     | nil=>intro hr;cases hr;simp at hb
     | cons y ys ihy =>
      rintro ⟨g1,g2,rfl,k1,k2⟩
      simp only [List.mem_append] at hb
      rcases hb with h | h
      ·exact ih k1 b h
      ·exact ihy _ h _ k2
theorem Inv.alloc (hI:Inv C w0 G st a w S pls X) (o:Obj):Inv C w0 G st a (w.alloc o) S pls X:=by
 have hS:∀ m b,S m b→hp (w.alloc o) b=hp w b:=fun m b h=>hp_alloc_old (hI.stab m b h)
 have hX:∀ id,∀ b∈X id,hp (w.alloc o) b=hp w b:=fun id b h=>hp_alloc_old (hI.own id b h).1
 refine { kl:=hI.kl,size:=hI.size,defers:=hI.defers,glb:=glb_of hS (fun _ _ h=>h) hI.glb,pin:=hI.pin,nd:=hI.nd,dis:=hI.dis,frm:=?_,stab:=?_,own:=?_,roots:=?_,tmps:=?_ }
 ·refine ⟨hI.frm.os,hI.frm.tape,hI.frm.output,by have:=hI.frm.size;simp;omega,fun b hb hG=>?_⟩
  rw [hp_alloc_old (Nat.lt_of_lt_of_le hb hI.frm.size)];exact hI.frm.block b hb hG
 ·intro m b h;have:=hI.stab m b h;simp;omega
 ·intro id b h;obtain ⟨h1,h2⟩:=hI.own id b h;exact ⟨by simp;omega,h2⟩
 ·intro id r hr
  have h:=hI.roots id r hr
  obtain ⟨k,τ,x⟩:=r
  cases k <;> cases hpl:pls id <;> rw [hpl] at h <;> simp only [RootRel] at h ⊢
  ·obtain ⟨vs,l,fp,h1,h2,h3⟩:=h
   refine ⟨vs,l,fp,h1.heap (fun B o' e=>hX id B ?_),h2.heap hS (fun b hb=>hX id b (by rw [h3];simp [hb])),h3⟩
   obtain ⟨_,_,rfl,_⟩:=h1
   simp only [sI,Prod.mk.injEq] at e
   rw [h3];simp [e.1]
  ·exact h.heap hS (hX id)
 ·intro t
  exact TRel.heap hI.roots hS (fun _ _ h=>h) (fun id _=>⟨rfl,rfl,hX id⟩) (hI.tmps t)
theorem Inv.newRoot (hI:Inv C w0 G st a w S pls X){d:Nat}{r:Root}{pl:Pl}{Y:List Nat} (h0:st.roots d=none) (hr:RootRel S (hp w) pl r Y)
  (hY:∀ b∈Y,b<w.heap.size∧(∀ m,¬ S m b)∧(w0.heap.size≤b∨b∈G)) (hn:Y.Nodup) (hd:∀ id,id≠d→∀ b∈Y,b ∉ X id) (hz:r.k.io=true→G.z d=some pl) :
  Inv C w0 G { st with roots:=fun i=>if i=d then some r else st.roots i } a w S (upd pls d pl) (upd X d Y):=by
 refine { frm:=hI.frm,stab:=hI.stab,kl:=hI.kl,size:=hI.size,defers:=hI.defers,glb:=hI.glb,pin:=?_,own:=?_,nd:=?_,dis:=?_,roots:=?_,tmps:=?_ }
 ·intro i b hb
  by_cases e:i=d
  ·subst e;simp at hb;exact hY b hb
  ·rw [upd_other _ _ e] at hb;exact hI.own i b hb
 ·intro i
  by_cases e:i=d
  ·subst e;simpa using hn
  ·rw [upd_other _ _ e];exact hI.nd i
 ·intro i j b hij hb
  by_cases e:i=d
  ·subst e;simp at hb
   rw [upd_other _ _ (Ne.symm hij)]
   exact hd j (Ne.symm hij) b hb
  ·rw [upd_other _ _ e] at hb
   by_cases e':j=d
   ·subst e';simp;exact fun hb'=>hd i e b hb' hb
   ·rw [upd_other _ _ e'];exact hI.dis i j b hij hb
 ·intro i r' hr'
  simp only at hr'
  split at hr'
  ·rename_i e;subst e;cases hr';simpa using hr
  ·rename_i e;rw [upd_other _ _ e,upd_other _ _ e];exact hI.roots i r' hr'
 ·intro t
  refine TRel.heap hI.roots (fun _ _ _=>rfl) (fun _ _ h=>h) (fun i hi=>?_) (hI.tmps t)
  obtain ⟨r',hr'⟩:=live (hI.tmps t) hi
  have hne:i≠d:=by rintro rfl;rw [h0] at hr';cases hr'
  exact ⟨by simp [hne],upd_other _ _ hne,fun _ _=>rfl⟩
 ·intro i r' hr' hk
  simp only at hr'
  by_cases e:i=d
  ·subst e;simp only [if_true,sI] at hr';subst hr';rw [upd_same];exact hz hk
  ·rw [if_neg e] at hr';rw [upd_other _ _ e];exact hI.pin i r' hr' hk
end
end Go.Rf
namespace Go.Rf
def AV.dirty (id:Nat) (ix:Bool):AV→AV
 | .ref i []=>if i=id∧ix=false then .junk else .ref i []
 | .ref i (s::p)=>if i=id then .junk else .ref i (s::p)
 | .ptr i p=>if i=id∧hasIx p=true then .junk else .ptr i p
 | x=>x
def TV.dirty (id:Nat) (ix:Bool):TV→TV
 | .a v=>.a (v.dirty id ix)
 | .tup l=>.tup (l.map (AV.dirty id ix))
theorem lrel_map {S S':Stab}{H H':Heap}{pls pls':Nat→Pl}{roots roots':Nat→Option Root} (f:AV→AV) (hf:∀ val v,VRel S H pls roots val v→VRel S' H' pls' roots' val (f v)) :
  ∀ (l:List AV) (vs:List Value),LRel S H pls roots vs l→LRel S' H' pls' roots' vs (l.map f):=by
 intro l
 induction l with
 | nil=>intro vs h;cases vs <;> simp_all [LRel]
 | cons v l ih =>
  intro vs h
  cases vs with
  | nil=>simp [LRel] at h
  | cons u us=>exact ⟨hf _ _ h.1,ih us h.2⟩
section
variable {P:Program}{C:Cx}{w0 w:World}{G:Blk}{st:St}{a:Act}{S:Stab}{pls:Nat→Pl}{X:Nat→List Nat}
theorem Inv.store (hI:Inv C w0 G st a w S pls X){id:Nat}{p:Path}{r:Root} (hr:st.roots id=some r){σ:Ty}{y:σ.D} (hg:getP p r.τ r.x=some ⟨σ,y⟩)
  {b off:Nat}{c:Array Value}{el:Nat}{fr:Nat×Nat} (hb:hp w b=some (.cells c el fr))
  {vs0 vs':List Value}{l0:Option (Nat×Nat)} (hh0:Holds (hp w) (pls id) r.τ.size vs0 l0) (ha0:At (hp w) p r.τ vs0 l0 vs' (some (b,off))) (hv:Valid p r.τ r.x)
  {ρ:Ty}{z:ρ.D}{ws:List Value}{g:List Nat} (hk:ρ.skel=σ.skel){τn:Ty}{xn:τn.D} (hs:setP p r.τ r.x ρ z=some ⟨τn,xn⟩) (hrep:Rep S (hp w) ρ ws z g)
  (hg1:∀ q∈g,q<w.heap.size∧(∀ m,¬ S m q)∧(w0.heap.size≤q∨q∈G)) (hg2:g.Nodup) (hg3:∀ i,∀ q∈g,q ∉ X i) :
  (Soft fr c.size∧off+ws.length≤c.size) ∧
  ∃ Y,Inv C w0 G { tmps:=fun t=>(st.tmps t).dirty id (hasIx p),roots:=fun i=>if i=id then some ⟨r.k,τn,xn⟩ else st.roots i } a
   (w.setRow b (lput c.toList off ws).toArray) S pls (upd X id Y):=by
 have hrr:=hI.roots id r hr
 have hsk:=setP_skel p hg hs hk
 have hsz:=skel_size_eq hk
 have hnd:=hI.nd id
 -- the block lies in what the root owns
 have hroot:∃ vs l fp,Holds (hp w) (pls id) r.τ.size vs l∧Rep S (hp w) r.τ vs r.x fp∧fp.Nodup∧(((∃ io,r.k=.box io)∧∃ B pre post el fr,pls id=.mem B pre post el fr∧l=some (B,pre.length)∧X id=B::fp)∨((∃ io,r.k=.val io)∧pls id=.val vs∧l=none∧X id=fp)):=by
  obtain ⟨k,τ,x⟩:=r
  cases k <;> cases hpl:pls id <;> rw [hpl] at hrr <;> simp only [RootRel] at hrr
  ·rename_i B pre post el fr
   obtain ⟨vs,l,fp,h1,h2,h3⟩:=hrr
   rw [h3] at hnd
   refine ⟨vs,l,fp,h1,h2,(List.nodup_cons.1 hnd).2,.inl ⟨⟨_,rfl⟩,B,pre,post,el,fr,rfl,h1.2.2.1,h3⟩⟩
  ·rename_i vs
   exact ⟨vs,none,X id,⟨rfl,rfl⟩,hrr,hnd,.inr ⟨⟨_,rfl⟩,rfl,rfl,rfl⟩⟩
 obtain ⟨vs,l,fp,hh,hrp,hndf,hkind⟩:=hroot
 obtain ⟨rfl,rfl⟩:=hh.det hh0
 obtain ⟨vs1,l1,f1,f',f2,hfp,hat,hrep1,hset⟩:=hrp.set p l hv hndf hg
 obtain ⟨rfl,rfl⟩:=hat.det p ha0
 have hwl:ws.length=σ.size:=by rw [hrep.length,hsz]
 have hfpX:∀ q∈fp,q∈X id:=by
  rcases hkind with ⟨_,B,pre,post,el,fr,_,_,hX⟩ | ⟨_,_,_,hX⟩
  ·intro q hq;rw [hX];simp [hq]
  ·intro q hq;rw [hX];exact hq
 -- facts on the block that is written
 have hblk:b∈X id∧Soft fr c.size∧off+ws.length≤c.size:=by
  rcases hset with ⟨hx,δ,hl1,hd,_⟩ | ⟨hx,b',off',c',el',fr',e,hb1,hb2,hso,hof,_⟩
  ·rcases hkind with ⟨_,B,pre,post,el',fr',hpl,rfl,hX⟩ | ⟨_,_,rfl,_⟩
   ·have:=hl1 B pre.length rfl
    simp only [sI,Prod.mk.injEq] at this
    obtain ⟨rfl,rfl⟩:=this
    rw [hpl] at hh
    obtain ⟨e1,e2,_,e4⟩:=hh
    rw [hb] at e1
    simp only [sI,Obj.cells.injEq] at e1
    obtain ⟨rfl,rfl,rfl⟩:=e1
    refine ⟨by rw [hX];simp,by simpa using e4,by simp;omega⟩
   ·obtain ⟨c9,el9,fr9,_⟩:=at_mem p hrp hv hat (holds_mem (S:=S) hh) hg
    exfalso
    -- a value root has no place of its own
    revert hat hx
    clear hs hrep hl1 hrep1 hsk
    have key:∀ (p:Path) (τ:Ty) (vs v1:List Value) (q:Nat×Nat),hasIx p=false→At (hp w) p τ vs none v1 (some q)→False:=by
     intro p
     induction p with
     | nil=>rintro τ vs v1 q _ ⟨_,h⟩;cases h
     | cons s p ih =>
      intro τ vs v1 q hx h
      cases s with
      | L=>cases τ <;> simp only [At] at h;exact ih _ _ _ _ hx h
      | R=>cases τ <;> simp only [At] at h;exact ih _ _ _ _ hx h
      | ix i=>simp [hasIx] at hx
    exact fun hx hat=>key p _ _ _ _ hx hat
  ·simp only [sI,Prod.mk.injEq] at e
   obtain ⟨rfl,rfl⟩:=e
   rw [hb] at hb2
   simp only [sI,Obj.cells.injEq] at hb2
   obtain ⟨rfl,rfl,rfl⟩:=hb2
   exact ⟨hfpX _ (by rw [hfp];simp [hb1]),hso,by omega⟩
 obtain ⟨hbX,hsoft,hroom⟩:=hblk
 refine ⟨⟨hsoft,hroom⟩,?_⟩
 obtain ⟨hb1,hb2,hb3⟩:=hI.own id b hbX
 -- the new heap
 have hsame:hp (w.setRow b (lput c.toList off ws).toArray) b=some (.cells (lput c.toList off ws).toArray el fr):=hp_setRow_same hb
 have hoth:∀ q,q≠b→hp (w.setRow b (lput c.toList off ws).toArray) q=hp w q:=fun q hq=>hp_setRow_other hq
 have hS:∀ m q,S m q→hp (w.setRow b (lput c.toList off ws).toArray) q=hp w q:=fun m q hq=>hoth q (by rintro rfl;exact hb2 m hq)
 have hXo:∀ i,i≠id→∀ q∈X i,hp (w.setRow b (lput c.toList off ws).toArray) q=hp w q:=fun i hi q hq=>hoth q (by rintro rfl;exact hI.dis i id q hi hq hbX)
 have hgo:∀ q∈g,hp (w.setRow b (lput c.toList off ws).toArray) q=hp w q:=fun q hq=>hoth q (by rintro rfl;exact hg3 id q hq hbX)
 have hrep':=hrep.heap hS hgo
 generalize hH':hp (w.setRow b (lput c.toList off ws).toArray)=H' at *
 -- the new root
 have hnew:∃ Y vsn ln,RootRel S H' (pls id) ⟨r.k,τn,xn⟩ Y∧Holds H' (pls id) τn.size vsn ln∧ln=l∧vsn.length=vs.length∧(hasIx p=true→vsn=vs)∧Y.Nodup ∧
   (∀ q∈Y,q∈X id∨q∈g):=by
  have hndg:(f1++g++f2).Nodup:=by
   rw [hfp] at hndf
   have h1:=List.nodup_append.1 hndf
   have h2:=List.nodup_append.1 h1.1
   refine List.nodup_append.2 ⟨List.nodup_append.2 ⟨h2.1,hg2,?_⟩,h1.2.1,?_⟩
   ·rintro q hq q' hq' rfl;exact hg3 id q hq' (hfpX q (by rw [hfp];simp [hq]))
   ·rintro q hq q' hq' rfl
    simp only [List.mem_append] at hq
    rcases hq with h | h
    ·exact h1.2.2 q (by simp [h]) q hq' rfl
    ·exact hg3 id q h (hfpX q (by rw [hfp];simp [hq']))
  rcases hset with ⟨hx,δ,hl1,hd,hset⟩ | ⟨hx,b',off',c',el',fr',e,hb1',hb2',hso,hof,hset⟩
  ·rcases hkind with ⟨⟨io,hkk⟩,B,pre,post,el',fr',hpl,rfl,hX⟩ | ⟨_,_,rfl,_⟩
   ·have:=hl1 B pre.length rfl
    simp only [sI,Prod.mk.injEq] at this
    obtain ⟨rfl,rfl⟩:=this
    rw [hpl] at hh
    obtain ⟨e1,e2,_,e4⟩:=hh
    rw [hb] at e1
    simp only [sI,Obj.cells.injEq] at e1
    obtain ⟨rfl,rfl,rfl⟩:=e1
    have hput:lput (pre++vs++post) (pre.length+δ) ws=pre++lput vs δ ws++post:=by
     rw [List.append_assoc,put_append_right,put_append_left (by omega),List.append_assoc]
    rw [hX] at hnd
    have hBn:=(List.nodup_cons.1 hnd).1
    have hrn:=hset S H' ρ z ws g τn xn hsz.symm hs (fun _ _ h=>h) hS (fun q hq=>hoth q (by rintro rfl;exact hBn (by rw [hfp];simp only [List.mem_append] at hq ⊢;rcases hq with h | h <;> simp [h]))) hrep'
    have hHn:Holds H' (pls id) τn.size (lput vs δ ws) (some (b,pre.length)):=by
     rw [hpl]
     refine ⟨?_,by rw [put_length (by omega),skel_size_eq hsk];exact e2,rfl,?_⟩
     ·rw [hsame];simp only [List.toList_toArray,hput]
     ·have:(pre++lput vs δ ws++post).length=(pre++vs++post).length:=by simp [put_length (show δ+ws.length≤vs.length by omega)]
      rw [this];exact e4
    refine ⟨b::(f1++g++f2),_,_,?_,hHn,rfl,put_length (by omega),fun h=>(by rw [hx] at h;cases h),?_,?_⟩
    ·rw [hkk,hpl]
     rw [hpl] at hHn
     exact ⟨_,_,_,hHn,hrn,rfl⟩
    ·refine List.nodup_cons.2 ⟨fun hq=>?_,hndg⟩
     simp only [List.mem_append] at hq
     rcases hq with (h | h) | h
     ·exact hBn (by rw [hfp];simp [h])
     ·exact hg3 id b h (by rw [hX];simp)
     ·exact hBn (by rw [hfp];simp [h])
    ·intro q hq
     simp only [List.mem_cons,List.mem_append] at hq
     rcases hq with h | (h | h) | h
     ·left;rw [hX];simp [h]
     ·left;exact hfpX q (by rw [hfp];simp [h])
     ·right;exact h
     ·left;exact hfpX q (by rw [hfp];simp [h])
   ·exfalso
    have:=hbX
    -- as above: no place
    obtain ⟨c9,el9,fr9,_⟩:=at_mem p hrp hv hat (holds_mem (S:=S) hh) hg
    have key:∀ (p:Path) (τ:Ty) (vs v1:List Value) (q:Nat×Nat),hasIx p=false→At (hp w) p τ vs none v1 (some q)→False:=by
     intro p
     induction p with
     | nil=>rintro τ vs v1 q _ ⟨_,h⟩;cases h
     | cons s p ih =>
      intro τ vs v1 q hx h
      cases s with
      | L=>cases τ <;> simp only [At] at h;exact ih _ _ _ _ hx h
      | R=>cases τ <;> simp only [At] at h;exact ih _ _ _ _ hx h
      | ix i=>simp [hasIx] at hx
    exact key p _ _ _ _ hx hat
  ·simp only [sI,Prod.mk.injEq] at e
   obtain ⟨rfl,rfl⟩:=e
   rw [hb] at hb2'
   simp only [sI,Obj.cells.injEq] at hb2'
   obtain ⟨rfl,rfl,rfl⟩:=hb2'
   have hrn:=hset S H' ρ z ws g τn xn hsz.symm hs (fun _ _ h=>h) hS (fun q _ hq=>hoth q hq) hsame hrep'
   rcases hkind with ⟨⟨io,hkk⟩,B,pre,post,el',fr',hpl,rfl,hX⟩ | ⟨hkk,hpl,rfl,hX⟩
   ·rw [hX] at hnd
    have hBn:=(List.nodup_cons.1 hnd).1
    have hBb:B≠b:=by rintro rfl;exact hBn (by rw [hfp];simp [hb1'])
    have hHn:Holds H' (pls id) τn.size vs (some (B,pre.length)):=by
     rw [skel_size_eq hsk]
     exact hh.heap (fun B' o e=>by simp only [sI,Prod.mk.injEq] at e;obtain ⟨rfl,_⟩:=e;exact hoth _ hBb)
    refine ⟨B::(f1++g++f2),vs,_,?_,hHn,rfl,rfl,fun _=>rfl,?_,?_⟩
    ·rw [hkk,hpl]
     rw [hpl] at hHn
     exact ⟨_,_,_,hHn,hrn,rfl⟩
    ·refine List.nodup_cons.2 ⟨fun hq=>?_,hndg⟩
     simp only [List.mem_append] at hq
     rcases hq with (h | h) | h
     ·exact hBn (by rw [hfp];simp [h])
     ·exact hg3 id B h (by rw [hX];simp)
     ·exact hBn (by rw [hfp];simp [h])
    ·intro q hq
     simp only [List.mem_cons,List.mem_append] at hq
     rcases hq with h | (h | h) | h
     ·left;rw [hX];simp [h]
     ·left;exact hfpX q (by rw [hfp];simp [h])
     ·right;exact h
     ·left;exact hfpX q (by rw [hfp];simp [h])
   ·have hHn:Holds H' (pls id) τn.size vs none:=by
     rw [hpl];exact ⟨rfl,rfl⟩
    refine ⟨f1++g++f2,vs,none,?_,hHn,rfl,rfl,fun _=>rfl,hndg,?_⟩
    ·obtain ⟨io,hkk⟩:=hkk;rw [hkk,hpl];exact hrn
    ·intro q hq
     simp only [List.mem_append] at hq
     rcases hq with (h | h) | h
     ·left;exact hfpX q (by rw [hfp];simp [h])
     ·right;exact h
     ·left;exact hfpX q (by rw [hfp];simp [h])
 obtain ⟨Y,vsn,ln,hrr',hHn,rfl,hlen,hvsn,hYn,hYq⟩:=hnew
 have hYdis:∀ i,i≠id→∀ q∈Y,q ∉ X i:=by
  intro i hi q hq
  rcases hYq q hq with h | h
  ·exact hI.dis id i q (Ne.symm hi) h
  ·exact hg3 i q h
 refine ⟨Y,{ kl:=hI.kl,size:=hI.size,defers:=hI.defers,glb:=glb_of (w:=w) (by rw [hH'];exact hS) (fun _ _ h=>h) hI.glb,pin:=fun i r2 h2 hk=>(by by_cases e:i=id;(subst e;simp only [if_true,sI] at h2;subst h2;exact hI.pin _ r hr hk);(simp only [if_neg e] at h2;exact hI.pin i r2 h2 hk)),frm:=?_,stab:=?_,own:=?_,nd:=?_,dis:=?_,roots:=?_,tmps:=?_ }⟩
 ·refine ⟨hI.frm.os,hI.frm.tape,hI.frm.output,by have:=hI.frm.size;simpa using this,fun q hq hG=>?_⟩
  rw [hH']
  rw [hoth q (by rintro rfl;rcases hb3 with h | h <;> first | omega | exact hG h)]
  exact hI.frm.block q hq hG
 ·intro m q hq;have:=hI.stab m q hq;simpa using this
 ·intro i q hq
  by_cases e:i=id
  ·subst e
   simp only [upd_same] at hq
   simp only [setRow_size]
   rcases hYq q hq with h | h
   ·exact hI.own i q h
   ·exact hg1 q h
  ·rw [upd_other _ _ e] at hq;simp only [setRow_size];exact hI.own i q hq
 ·intro i
  by_cases e:i=id
  ·subst e;simpa using hYn
  ·rw [upd_other _ _ e];exact hI.nd i
 ·intro i j q hij hq
  by_cases e:i=id
  ·subst e
   simp only [upd_same] at hq
   rw [upd_other _ _ (Ne.symm hij)]
   exact hYdis j (Ne.symm hij) q hq
  ·rw [upd_other _ _ e] at hq
   by_cases e':j=id
   ·subst e';simp only [upd_same];exact fun h=>hYdis i e q h hq
   ·rw [upd_other _ _ e'];exact hI.dis i j q hij hq
 ·intro i r' hr'
  rw [hH']
  simp only at hr'
  split at hr'
  ·rename_i e;subst e;cases hr';rw [upd_same];exact hrr'
  ·rename_i e
   rw [upd_other _ _ e]
   have h:=hI.roots i r' hr'
   obtain ⟨k,τ,x⟩:=r'
   cases k <;> cases hpl:pls i <;> rw [hpl] at h <;> simp only [RootRel] at h ⊢
   ·obtain ⟨vs,l,fp,h1,h2,h3⟩:=h
    refine ⟨vs,l,fp,h1.heap (fun B o' e'=>hXo i e B ?_),h2.heap hS (fun q hq=>hXo i e q (by rw [h3];simp [hq])),h3⟩
    obtain ⟨_,_,rfl,_⟩:=h1
    simp only [sI,Prod.mk.injEq] at e'
    rw [h3];simp [e'.1]
   ·exact h.heap hS (hXo i e)
 ·intro t
  rw [hH']
  have hgen:∀ val v,VRel S (hp w) pls st.roots val v→VRel S H' pls (fun i=>if i=id then some ⟨r.k,τn,xn⟩ else st.roots i) val (v.dirty id (hasIx p)):=by
   intro val v hvv
   by_cases hid:v.refs=some id
   ·cases v <;> simp only [AV.refs,reduceCtorEq,sI] at hid
    ·rename_i i q
     subst hid
     cases q with
     | cons s q=>simp only [AV.dirty,if_true];trivial
     | nil =>
      simp only [AV.dirty]
      split
      ·trivial
      ·rename_i hix
       have hix:hasIx p=true:=by simpa using hix
       obtain ⟨r1,hr1,σ1,y1,va,la,vb,lb,g1,g2,g3,g4,g5⟩:=hvv
       rw [hr] at hr1;cases hr1
       obtain ⟨rfl,rfl⟩:=g4
       simp only [getP,sI,Sigma.mk.injEq] at g1
       obtain ⟨rfl,g1⟩:=g1
       obtain ⟨rfl,rfl⟩:=g3.det hh
       refine ⟨⟨r.k,τn,xn⟩,by simp,τn,xn,vsn,_,vsn,_,rfl,trivial,hHn,⟨rfl,rfl⟩,?_⟩
       rw [g5,hvsn hix]
       exact valOf_like (skel_agg hsk).symm
    ·rename_i i q
     subst hid
     simp only [AV.dirty]
     split
     ·trivial
     ·rename_i hix
      have hix:hasIx q=false:=by simpa using hix
      obtain ⟨r1,hr1,σ1,y1,va,la,vb,b1,off1,g1,g2,g3,g4,g5⟩:=hvv
      rw [hr] at hr1;cases hr1
      obtain ⟨rfl,rfl⟩:=g3.det hh
      obtain ⟨σ',y',v1',k1,k2,k3⟩:=at_skel (H':=H') q (τ':=τn) xn hix hsk g1 hlen g4
      exact ⟨⟨r.k,τn,xn⟩,by simp,σ',y',vsn,_,v1',b1,off1,k1,k2,hHn,k3,g5⟩
   ·have hd:v.dirty id (hasIx p)=v:=by
     cases v with
     | ref i q=>cases q <;> simp_all [AV.dirty,AV.refs]
     | ptr i q=>simp_all [AV.dirty,AV.refs]
     | _=>rfl
    rw [hd]
    refine VRel.heap hI.roots hS (fun _ _ h=>h) (fun i hi=>?_) hvv
    have hne:i≠id:=by rintro rfl;exact hid hi
    exact ⟨by simp [hne],rfl,hXo i hne⟩
  have ht:=hI.tmps t
  show TRel S H' pls (fun i=>if i=id then some ⟨r.k,τn,xn⟩ else st.roots i) (a.tmps.getD t undef) ((st.tmps t).dirty id (hasIx p))
  generalize st.tmps t=tv at ht
  cases tv with
  | a v=>exact hgen _ _ ht
  | tup l' =>
   obtain ⟨us,e,hl⟩:=ht
   exact ⟨us,e,lrel_map _ hgen _ _ hl⟩
end
end Go.Rf
namespace Go.Rf
structure Free (w0 w:World) (G:Blk) (S:Stab) (X:Nat→List Nat) (g:List Nat):Prop where
 ok:∀ q∈g,q<w.heap.size∧(∀ m,¬ S m q)∧(w0.heap.size≤q∨q∈G)
 nd:g.Nodup
 dis:∀ i,∀ q∈g,q ∉ X i
def take (st:St):TV→Option ((Σ τ:Ty,τ.D)×St)
 | .a (.v τ x)=>some (⟨τ,x⟩,st)
 | .a (.ref id [])=>match st.roots id with
  | some r=>match r.k with
   | .val _=>some (⟨r.τ,r.x⟩,st.kill id)
   | .box _=>some (⟨r.τ,r.x⟩,st.kill id)
  | none=>none
 | .a (.ref id (s::p))=>match st.roots id with
  | some r=>match getP (s::p) r.τ r.x with
   | some q=>some (q,st.kill id)
   | none=>none
  | none=>none
 | _=>none
def takeL (st:St):List Operand→Option (List (Σ τ:Ty,τ.D)×St)
 | []=>some ([],st)
 | o::os=>match take st (opnd st o) with
  | some (x,st1)=>match takeL st1 os with
   | some (xs,st2)=>some (x::xs,st2)
   | none=>none
  | none=>none
def PartsRel (S:Stab) (H:Heap):List Value→List (Σ τ:Ty,τ.D)→List Nat→Prop
 | [],[],fp=>fp=[]
 | v::vs,q::qs,fp=>∃ ws f1 f2,v=valOf q.1 ws∧Rep S H q.1 ws q.2 f1∧fp=f1++f2∧PartsRel S H vs qs f2
 | _,_,_=>False
theorem zero_rep (S:Stab) (H:Heap):∀ s:Ty,Rep S H (zeroT s) (zeroC s) (zeroV s) []
 | .int k=>⟨rfl,rfl⟩
 | .bool=>⟨rfl,rfl⟩
 | .str=>⟨rfl,rfl⟩
 | .sl _ _=>⟨⟨none,rfl⟩,rfl⟩
 | .nil=>⟨⟨none,rfl⟩,rfl⟩
 | .dead=>⟨⟨.map none,rfl,rfl⟩,rfl⟩
 | .unit=>⟨rfl,rfl⟩
 | .clo _ _=>⟨⟨.map none,rfl,rfl⟩,rfl⟩
 | .pair a b=>⟨_,_,[],[],rfl,rfl,zero_rep S H a,zero_rep S H b⟩
theorem zero_skel:∀ s:Ty,(zeroT s).skel=s.skel
 | .int _ | .bool | .str | .nil | .dead | .unit | .clo _ _=>rfl
 | .sl _ _=>rfl
 | .pair a b=>by simp [zeroT,Ty.skel,zero_skel a,zero_skel b]
section
variable {P:Program}{C:Cx}{w0 w:World}{G:Blk}{st:St}{a:Act}{S:Stab}{pls:Nat→Pl}{X:Nat→List Nat}
theorem Free.nil:Free w0 w G S X []:=⟨by simp,by simp,by simp⟩
theorem Free.sub {g h:List Nat} (hf:Free w0 w G S X g) (hs:h.Sublist g):Free w0 w G S X h :=
 ⟨fun q hq=>hf.ok q (hs.subset hq),hs.nodup hf.nd,fun i q hq=>hf.dis i q (hs.subset hq)⟩
theorem Free.perm {g h:List Nat} (hf:Free w0 w G S X g) (hp:h.Perm g):Free w0 w G S X h :=
 ⟨fun q hq=>hf.ok q (hp.mem_iff.1 hq),hp.nodup_iff.2 hf.nd,fun i q hq=>hf.dis i q (hp.mem_iff.1 hq)⟩
theorem take_spec (hI:Inv C w0 G st a w S pls X){h:List Nat} (hF:Free w0 w G S X h){tv:TV}{val:Value} (hv:TRel S (hp w) pls st.roots val tv){x:Σ τ:Ty,τ.D}{st':St}
  (ht:take st tv=some (x,st')):∃ X' g ws,Inv C w0 G st' a w S pls X'∧Free w0 w G S X' (h++g)∧val=valOf x.1 ws∧Rep S (hp w) x.1 ws x.2 g ∧
   (∀ i r,st'.roots i=some r→st.roots i=some r):=by
 cases tv with
 | tup l=>simp [take] at ht
 | a v =>
  cases v with
  | v τ x0 =>
   simp only [take,sI,Prod.mk.injEq] at ht
   obtain ⟨rfl,rfl⟩:=ht
   obtain ⟨ws,h1,h2⟩:=hv
   exact ⟨X,[],ws,hI,by simpa using hF,h1,h2,fun _ _ h=>h⟩
  | ref id p =>
   cases p with
   | cons s p =>
    simp only [take] at ht
    obtain ⟨r,hr,σ,y,vs,l,vs',l',g1,g2,g3,g4,g5⟩:=hv
    rw [hr] at ht
    simp only [g1,sI,Prod.mk.injEq] at ht
    obtain ⟨rfl,rfl⟩:=ht
    have hrr:=hI.roots id r hr
    have hnd:=hI.nd id
    have hkind:∃ vs l fp,Holds (hp w) (pls id) r.τ.size vs l∧Rep S (hp w) r.τ vs r.x fp∧fp.Nodup∧∀ q∈fp,q∈X id:=by
     obtain ⟨k,τ,x⟩:=r
     cases k <;> cases hpl:pls id <;> rw [hpl] at hrr <;> simp only [RootRel] at hrr
     ·obtain ⟨us,l2,fp,q1,q2,q3⟩:=hrr
      rw [q3] at hnd
      exact ⟨us,l2,fp,q1,q2,(List.nodup_cons.1 hnd).2,fun q hq=>by rw [q3];simp [hq]⟩
     ·exact ⟨_,none,X id,⟨rfl,rfl⟩,hrr,hnd,fun _ h=>h⟩
    obtain ⟨us,l2,fp,q1,q2,hndf,hin⟩:=hkind
    obtain ⟨rfl,rfl⟩:=q1.det g3
    obtain ⟨vs1,l1,f1,f',f2,hfp,hat,hrep1,_⟩:=q2.set (s::p) l2 g2 hndf g1
    obtain ⟨rfl,rfl⟩:=hat.det (s::p) g4
    have hsub:∀ q∈f',q∈X id:=fun q hq=>hin q (by rw [hfp];simp [hq])
    have hn':f'.Nodup:=by
     rw [hfp] at hndf
     exact (List.nodup_append.1 (List.nodup_append.1 hndf).1).2.1
    refine ⟨upd X id [],f',_,hI.kill id,⟨?_,?_,?_⟩,g5,hrep1,?_⟩
    ·intro q hq
     simp only [List.mem_append] at hq
     rcases hq with hq | hq
     ·exact hF.ok q hq
     ·exact hI.own id q (hsub q hq)
    ·exact List.nodup_append.2 ⟨hF.nd,hn',fun q hq q' hq' e=>hF.dis id q hq (e▸hsub q' hq')⟩
    ·intro i q hq hi
     by_cases e:i=id
     ·subst e;simp at hi
     ·rw [upd_other _ _ e] at hi
      simp only [List.mem_append] at hq
      rcases hq with hq | hq
      ·exact hF.dis i q hq hi
      ·exact hI.dis id i q (Ne.symm e) (hsub q hq) hi
    ·intro i r' hr'
     simp only [St.kill] at hr'
     split at hr'
     ·cases hr'
     ·exact hr'
   | nil =>
    simp only [take] at ht
    obtain ⟨r,hr,σ,y,vs,l,vs',l',g1,g2,g3,g4,g5⟩:=hv
    rw [hr] at ht
    simp only at ht
    have hrr:=hI.roots id r hr
    obtain ⟨rfl,rfl⟩:=g4
    simp only [getP,sI,Sigma.mk.injEq] at g1
    obtain ⟨rfl,g1⟩:=g1
    cases g1
    cases hk:r.k with
    | box =>
     rw [hk] at ht
     simp only [sI,Prod.mk.injEq] at ht
     obtain ⟨rfl,rfl⟩:=ht
     cases hpl:pls id with
     | val us=>rw [hpl] at hrr;simp only [RootRel,hk] at hrr
     | mem B pre post el fr =>
      rw [hpl] at hrr g3
      simp only [RootRel,hk] at hrr
      obtain ⟨us,l2,fp,q1,q2,q3⟩:=hrr
      obtain ⟨rfl,rfl⟩:=q1.det g3
      have hin:∀ q∈fp,q∈X id:=fun q hq=>by rw [q3];simp [hq]
      have hnd:=hI.nd id
      rw [q3] at hnd
      refine ⟨upd X id [],fp,_,hI.kill id,?_,g5,q2,?_⟩
      ·refine ⟨?_,?_,?_⟩
       ·intro q hq
        simp only [List.mem_append] at hq
        rcases hq with hq | hq
        ·exact hF.ok q hq
        ·exact hI.own id q (hin q hq)
       ·exact List.nodup_append.2 ⟨hF.nd,(List.nodup_cons.1 hnd).2,fun q hq q' hq' e=>hF.dis id q hq (e▸hin q' hq')⟩
       ·intro i q hq hi
        by_cases e:i=id
        ·subst e;simp at hi
        ·rw [upd_other _ _ e] at hi
         simp only [List.mem_append] at hq
         rcases hq with hq | hq
         ·exact hF.dis i q hq hi
         ·exact hI.dis id i q (Ne.symm e) (hin q hq) hi
      ·intro i r' hr'
       simp only [St.kill] at hr'
       split at hr'
       ·cases hr'
       ·exact hr'
    | val =>
     rw [hk] at ht
     simp only [sI,Prod.mk.injEq] at ht
     obtain ⟨rfl,rfl⟩:=ht
     cases hpl:pls id with
     | mem _ _ _ _ _=>rw [hpl] at hrr;simp only [RootRel,hk] at hrr
     | val us =>
      rw [hpl] at hrr g3
      simp only [RootRel,hk] at hrr
      obtain ⟨rfl,_⟩:=g3
      refine ⟨upd X id [],X id,_,hI.kill id,?_,g5,hrr,?_⟩
      ·refine ⟨?_,?_,?_⟩
       ·intro q hq
        simp only [List.mem_append] at hq
        rcases hq with hq | hq
        ·exact hF.ok q hq
        ·exact hI.own id q hq
       ·exact List.nodup_append.2 ⟨hF.nd,hI.nd id,fun q hq q' hq' e=>hF.dis id q hq (e▸hq')⟩
       ·intro i q hq hi
        by_cases e:i=id
        ·subst e;simp at hi
        ·rw [upd_other _ _ e] at hi
         simp only [List.mem_append] at hq
         rcases hq with hq | hq
         ·exact hF.dis i q hq hi
         ·exact hI.dis id i q (Ne.symm e) hq hi
      ·intro i r' hr'
       simp only [St.kill] at hr'
       split at hr'
       ·cases hr'
       ·exact hr'
  | _=>simp [take] at ht
theorem takeL_spec:∀ (os:List Operand){st st':St}{X:Nat→List Nat}{h:List Nat}{xs:List (Σ τ:Ty,τ.D)},Inv C w0 G st a w S pls X→Free w0 w G S X h →
  takeL st os=some (xs,st')→∃ X' g,Inv C w0 G st' a w S pls X'∧Free w0 w G S X' (h++g)∧PartsRel S (hp w) (os.map a.eval) xs g∧(∀ i r,st'.roots i=some r→st.roots i=some r):=by
 intro os
 induction os with
 | nil =>
  intro st st' X h xs hI hF ht
  simp only [takeL,sI,Prod.mk.injEq] at ht
  obtain ⟨rfl,rfl⟩:=ht
  exact ⟨X,[],hI,by simpa using hF,rfl,fun _ _ h=>h⟩
 | cons o os ih =>
  intro st st' X h xs hI hF ht
  simp only [takeL] at ht
  split at ht
  ·rename_i x st1 h1
   split at ht
   ·rename_i ys st2 h2
    simp only [sI,Prod.mk.injEq] at ht
    obtain ⟨rfl,rfl⟩:=ht
    obtain ⟨X1,g1,ws,k1,k2,k3,k4,k5⟩:=take_spec hI hF (hI.opnd o) h1
    obtain ⟨X2,g2,m1,m2,m3,m4⟩:=ih k1 k2 h2
    exact ⟨X2,g1++g2,m1,by rw [← List.append_assoc];exact m2,⟨ws,g1,g2,k3,k4,rfl,m3⟩,fun i r hr=>k5 i r (m4 i r hr)⟩
   ·cases ht
  ·cases ht
theorem Inv.drew (hI:Inv C w0 G st a w S pls X):Inv C w0 G st a w.drew S pls X :=
 {hI with frm:=⟨hI.frm.os,hI.frm.tape,hI.frm.output,hI.frm.size,hI.frm.block⟩,stab:=hI.stab,own:=hI.own,roots:=hI.roots,tmps:=hI.tmps,glb:=glb_of (w:=w) (w':=w.drew) (fun _ _ _=>rfl) (fun _ _ h=>h) hI.glb }
theorem Free.drew {g:List Nat} (hf:Free w0 w G S X g):Free w0 w.drew G S X g:=⟨hf.ok,hf.nd,hf.dis⟩
theorem Free.alloc (hI:Inv C w0 G st a w S pls X){g:List Nat} (hf:Free w0 w G S X g) (o:Obj):Free w0 (w.alloc o) G S X (w.heap.size::g):=by
 refine ⟨?_,List.nodup_cons.2 ⟨fun h=>Nat.lt_irrefl _ (hf.ok _ h).1,hf.nd⟩,?_⟩
 ·intro q hq
  simp only [List.mem_cons] at hq
  rcases hq with rfl | hq
  ·exact ⟨by simp,fun m h=>Nat.lt_irrefl _ (hI.stab m _ h),.inl hI.frm.size⟩
  ·obtain ⟨h1,h2⟩:=hf.ok q hq;exact ⟨by simp;omega,h2⟩
 ·intro i q hq h
  simp only [List.mem_cons] at hq
  rcases hq with rfl | hq
  ·exact Nat.lt_irrefl _ (hI.own i _ h).1
  ·exact hf.dis i q hq h
theorem Rep.alloc (hI:Inv C w0 G st a w S pls X){τ:Ty}{vs:List Value}{x:τ.D}{g:List Nat} (hr:Rep S (hp w) τ vs x g) (hf:∀ q∈g,q<w.heap.size) (o:Obj):Rep S (hp (w.alloc o)) τ vs x g :=
 hr.heap (fun m b h=>hp_alloc_old (hI.stab m b h)) (fun b h=>hp_alloc_old (hf b h))
theorem soft0 (n:Nat):Soft (0,0) n:=fun o _=>by simp
theorem Inv.writeFree (hI:Inv C w0 G st a w S pls X){g:List Nat} (hf:Free w0 w G S X g){b:Nat} (hb:b∈g) (c':Array Value):Inv C w0 G st a (w.setRow b c') S pls X:=by
 obtain ⟨h1,h2,h3⟩:=hf.ok b hb
 have hoth:∀ q,q≠b→hp (w.setRow b c') q=hp w q:=fun q hq=>hp_setRow_other hq
 have hS:∀ m q,S m q→hp (w.setRow b c') q=hp w q:=fun m q hq=>hoth q (by rintro rfl;exact h2 m hq)
 have hX:∀ i,∀ q∈X i,hp (w.setRow b c') q=hp w q:=fun i q hq=>hoth q (by rintro rfl;exact hf.dis i q hb hq)
 refine { kl:=hI.kl,size:=hI.size,defers:=hI.defers,glb:=glb_of hS (fun _ _ h=>h) hI.glb,pin:=hI.pin,nd:=hI.nd,dis:=hI.dis,frm:=?_,stab:=?_,own:=?_,roots:=?_,tmps:=?_ }
 ·refine ⟨hI.frm.os,hI.frm.tape,hI.frm.output,by have:=hI.frm.size;simpa using this,fun q hq hG=>?_⟩
  rw [hoth q (by rintro rfl;rcases h3 with h | h <;> first | omega | exact hG h)]
  exact hI.frm.block q hq hG
 ·intro m q hq;have:=hI.stab m q hq;simpa using this
 ·intro i q hq;simp only [setRow_size];exact hI.own i q hq
 ·intro i r hr
  have h:=hI.roots i r hr
  obtain ⟨k,τ,x⟩:=r
  cases k <;> cases hpl:pls i <;> rw [hpl] at h <;> simp only [RootRel] at h ⊢
  ·obtain ⟨vs,l,fp,h1,h2,h3⟩:=h
   refine ⟨vs,l,fp,h1.heap (fun B o' e'=>hX i B ?_),h2.heap hS (fun q hq=>hX i q (by rw [h3];simp [hq])),h3⟩
   obtain ⟨_,_,rfl,_⟩:=h1
   simp only [sI,Prod.mk.injEq] at e'
   rw [h3];simp [e'.1]
  ·exact h.heap hS (hX i)
 ·intro t
  exact TRel.heap hI.roots hS (fun _ _ h=>h) (fun id _=>⟨rfl,rfl,hX id⟩) (hI.tmps t)
def St.root (st:St) (d:Nat) (r:Root):St:={ st with roots:=fun i=>if i=d then some r else st.roots i }
theorem Inv.newBox (hI:Inv C w0 G st a w S pls X){d:Nat} (h0:st.roots d=none){τ:Ty}{vs:List Value}{x:τ.D}{g:List Nat} (hr:Rep S (hp w) τ vs x g) (hf:Free w0 w G S X g) (el:Nat) :
  Inv C w0 G (st.root d ⟨.box false,τ,x⟩) a (w.alloc (.cells vs.toArray el)) S (upd pls d (.mem w.heap.size [] [] el (0,0))) (upd X d (w.heap.size::g)) ∧
  VRel S (hp (w.alloc (.cells vs.toArray el))) (upd pls d (.mem w.heap.size [] [] el (0,0))) (st.root d ⟨.box false,τ,x⟩).roots (.pointer (some ⟨w.heap.size,0,none⟩)) (.ptr d []):=by
 have hF:=hf.alloc hI (.cells vs.toArray el)
 have hI':=hI.alloc (.cells vs.toArray el)
 have hr':=hr.alloc hI (fun q hq=>(hf.ok q hq).1) (.cells vs.toArray el)
 have hh:Holds (hp (w.alloc (.cells vs.toArray el))) (.mem w.heap.size [] [] el (0,0)) τ.size vs (some (w.heap.size,0)) :=
  ⟨by rw [hp_alloc_new];simp,hr.length,rfl,soft0 _⟩
 refine ⟨hI'.newRoot h0 (r:=⟨.box false,τ,x⟩) ⟨vs,_,g,hh,hr',rfl⟩ hF.ok hF.nd (fun i hi q hq=>hF.dis i q hq) (by simp [RK.io]),?_⟩
 refine ⟨⟨.box false,τ,x⟩,by simp [St.root],τ,x,vs,_,vs,w.heap.size,0,rfl,trivial,?_,⟨rfl,rfl⟩,rfl⟩
 simp only [upd_same];exact hh
theorem Inv.newVal (hI:Inv C w0 G st a w S pls X){d:Nat} (h0:st.roots d=none){τ:Ty}{vs:List Value}{x:τ.D}{g:List Nat} (hr:Rep S (hp w) τ vs x g) (hf:Free w0 w G S X g) :
  Inv C w0 G (st.root d ⟨.val false,τ,x⟩) a w S (upd pls d (.val vs)) (upd X d g) ∧
  VRel S (hp w) (upd pls d (.val vs)) (st.root d ⟨.val false,τ,x⟩).roots (valOf τ vs) (.ref d []):=by
 refine ⟨hI.newRoot h0 (r:=⟨.val false,τ,x⟩) (pl:=.val vs) hr hf.ok hf.nd (fun i hi q hq=>hf.dis i q hq) (by simp [RK.io]),?_⟩
 refine ⟨⟨.val false,τ,x⟩,by simp [St.root],τ,x,vs,none,vs,none,rfl,trivial,?_,⟨rfl,rfl⟩,rfl⟩
 simp only [upd_same];exact ⟨rfl,rfl⟩
end
end Go.Rf
namespace Go.Rf
theorem foldl_put (off:Nat):∀ (vs:List Value) (k:Nat) (cells:Array Value),off+k+vs.length≤cells.size →
  ((vs.zipIdx k).foldl (fun cs p=>cs.setIfInBounds (off+p.2) p.1) cells)=(lput cells.toList (off+k) vs).toArray
 | [],k,cells,_=>by simp [lput]
 | v::vs,k,cells,h=>by
  simp only [List.zipIdx_cons,List.foldl_cons]
  rw [foldl_put off vs (k+1) _ (by simp at h ⊢;omega)]
  congr 1
  have e:=list_seg_step cells.toList (off+k) v vs (by simp at h ⊢;omega)
  simpa [lput,Array.toList_setIfInBounds,Nat.add_assoc] using e
theorem fill_one {place:Nat→Option (Nat×Nat)}{cells:Array Value}{i off:Nat}{v:Value}{vs:List Value} (hv:v.cells=vs.toArray) (hp:place i=some (off,vs.length)) (h:off+vs.length≤cells.size)
  (rest:List (Nat×Value)):Instr.fill place cells ((i,v)::rest)=Instr.fill place (lput cells.toList off vs).toArray rest:=by
 simp only [Instr.fill,hp,hv,List.size_toArray]
 rw [if_neg (by simp;omega)]
 congr 1
 have:=foldl_put off vs 0 cells (by omega)
 rw [← Array.foldl_toList,Array.toList_zipIdx]
 simpa using this
def buildV:(τ:Ty)→τ.D→List (Nat×(Σ σ:Ty,σ.D))→Option (Σ σ:Ty,σ.D)
 | τ,x,[]=>some ⟨τ,x⟩
 | τ,x,(k,q)::ps=>match τ.fld k with
  | some f=>if f.skel=q.1.skel∧f.plain=true then
    (match setP (fieldPath k) τ x q.1 q.2 with
     | some ⟨τ',x'⟩=>buildV τ' x' ps
     | none=>none) else none
  | none=>none
theorem rep_setfield {S:Stab}{H:Heap}:∀ {τ:Ty}{vs:List Value}{x:τ.D}{fp:List Nat}{k:Nat}{f:Ty},Rep S H τ vs x fp→τ.fld k=some f→f.plain=true →
  ∀ {ρ:Ty}{z:ρ.D}{ws:List Value}{g:List Nat}{τn:Ty}{xn:τn.D},f.skel=ρ.skel→setP (fieldPath k) τ x ρ z=some ⟨τn,xn⟩→Rep S H ρ ws z g →
  ∃ f1 f2,fp=f1++f2∧Rep S H τn (lput vs (τ.offs k) ws) xn (f1++g++f2)∧τ.offs k+ws.length≤vs.length∧τn.skel=τ.skel∧(∀ j,τn.offs j=τ.offs j)∧(∀ j,j≠k→τn.fld j=τ.fld j):=by
 intro τ
 induction τ with
 | pair a b _ ihb =>
  intro vs x fp k f hr hf hp ρ z ws g τn xn hk hs hrr
  obtain ⟨v1,v2,f1,f2,rfl,rfl,h1,h2⟩:=hr
  cases k with
  | zero =>
   simp only [Ty.fld,sI] at hf
   subst hf
   simp only [fieldPath,setP] at hs
   rw [if_pos (skel_size_eq hk)] at hs
   simp only [sI,Sigma.mk.injEq] at hs
   obtain ⟨rfl,hs⟩:=hs;cases hs
   have:=h1.plain hp;subst this
   have hl:ws.length=v1.length:=by rw [hrr.length,h1.length,skel_size_eq hk]
   refine ⟨[],f2,by simp,⟨ws,v2,g,f2,?_,by simp,hrr,h2⟩,by simp [Ty.offs];omega,by simp [Ty.skel,hk],?_,?_⟩
   ·simp only [Ty.offs]
    rw [put_append_left (by omega),put_all hl]
   ·intro j;cases j <;> simp [Ty.offs,skel_size_eq hk]
   ·intro j hj;cases j with
    | zero=>exact absurd rfl hj
    | succ j=>rfl
  | succ k =>
   simp only [Ty.fld] at hf
   simp only [fieldPath,setP] at hs
   split at hs
   ·rename_i b' z' hs'
    simp only [sI,Sigma.mk.injEq] at hs
    obtain ⟨rfl,hs⟩:=hs;cases hs
    obtain ⟨g1,g2,rfl,k1,k2,k3,k4,k5⟩:=ihb h2 hf hp hk hs' hrr
    refine ⟨f1++g1,g2,by simp,⟨v1,_,f1,g1++g++g2,?_,by simp,h1,k1⟩,by simp [Ty.offs,h1.length];omega,by simp [Ty.skel,k3],?_,?_⟩
    ·simp only [Ty.offs]
     rw [← h1.length,put_append_right]
    ·intro j;cases j <;> simp [Ty.offs,k4]
    ·intro j hj;cases j with
     | zero=>rfl
     | succ j=>exact k5 j (by omega)
   ·cases hs
 | _=>intro vs x fp k f hr hf;simp [Ty.fld] at hf
theorem fld_skel:∀ {τ σ:Ty},τ.skel=σ.skel→∀ {k:Nat}{f:Ty},τ.fld k=some f→σ.offs k=τ.offs k∧∃ f',σ.fld k=some f'∧f'.skel=f.skel:=by
 intro τ
 induction τ with
 | pair a b _ ihb =>
  intro σ h k f hf
  cases σ <;> simp only [Ty.skel,reduceCtorEq,Sk.pair.injEq] at h
  cases k with
  | zero =>
   simp only [Ty.fld,sI] at hf
   subst hf
   exact ⟨rfl,_,rfl,h.1.symm⟩
  | succ k =>
   simp only [Ty.fld] at hf
   obtain ⟨h1,f',h2,h3⟩:=ihb h.2 hf
   exact ⟨by simp [Ty.offs,h1,skel_size_eq h.1],f',h2,h3⟩
 | _=>intro σ h k f hf;simp [Ty.fld] at hf
section
variable {P:Program}{C:Cx}{w0 w:World}{G:Blk}{st:St}{a:Act}{S:Stab}{pls:Nat→Pl}{X:Nat→List Nat}
theorem fill_rep {S:Stab}{H:Heap}{s:Ty}{place:Nat→Option (Nat×Nat)} (hpl:∀ k f,s.fld k=some f→place k=some (s.offs k,f.size)) :
  ∀ (parts:List (Nat×Operand)) (vals:List Value) (xs:List (Σ τ:Ty,τ.D)) (τ:Ty) (x:τ.D) (vs:List Value) (fp g:List Nat) (τn:Ty) (xn:τn.D),vals=parts.map (fun p=>a.eval p.2)→τ.skel=s.skel →
   Rep S H τ vs x fp→PartsRel S H vals xs g→buildV τ x (parts.map (·.1) |>.zip xs)=some ⟨τn,xn⟩→parts.length=xs.length →
   ∃ vsn fpn,Instr.fill place vs.toArray ((parts.map (·.1)).zip vals)=some vsn.toArray∧Rep S H τn vsn xn fpn∧fpn.Perm (fp++g)∧τn.skel=s.skel:=by
 intro parts
 induction parts with
 | nil =>
  intro vals xs τ x vs fp g τn xn hv hk hr hp hb hl
  subst hv
  cases xs with
  | cons _ _=>simp at hl
  | nil =>
   simp only [PartsRel,List.map_nil] at hp
   subst hp
   simp only [List.map_nil,List.zip_nil_left,buildV,sI,Sigma.mk.injEq] at hb
   obtain ⟨rfl,hb⟩:=hb;cases hb
   exact ⟨vs,fp,by simp [Instr.fill],hr,by simp,hk⟩
 | cons p parts ih =>
  intro vals xs τ x vs fp g τn xn hv hk hr hp hb hl
  subst hv
  cases xs with
  | nil=>simp at hl
  | cons q xs =>
   simp only [List.map_cons,PartsRel] at hp
   obtain ⟨ws,g1,g2,e1,e2,rfl,hp⟩:=hp
   simp only [List.map_cons,List.zip_cons_cons,buildV] at hb
   split at hb
   ·rename_i f hf
    split at hb
    ·rename_i hc
     split at hb
     ·rename_i τ' x' hs
      obtain ⟨f1,f2,rfl,k1,k2,k3,k4,k5⟩:=rep_setfield hr hf hc.2 hc.1 hs e2
      obtain ⟨o1,f',o2,o3⟩:=fld_skel hk hf
      have hwl:ws.length=f'.size:=by rw [e2.length,← skel_size_eq hc.1,skel_size_eq o3]
      have hcells:(a.eval p.2).cells=ws.toArray:=by rw [e1];exact valOf_cells e2.length e2.oneCell
      obtain ⟨vsn,fpn,m1,m2,m3,m4⟩:=ih (parts.map fun p=>a.eval p.2) xs τ' x' _ _ g2 τn xn rfl (k3.trans hk) k1 hp hb (by simpa using hl)
      refine ⟨vsn,fpn,?_,m2,?_,m4⟩
      ·simp only [List.map_cons,List.zip_cons_cons]
       rw [fill_one hcells (by rw [hpl p.1 f' o2,o1,hwl]) (by simpa using k2)]
       simpa using m1
      ·refine m3.trans ?_
       simp only [List.append_assoc]
       refine List.Perm.append_left f1 ?_
       rw [← List.append_assoc,← List.append_assoc]
       exact List.Perm.append_right g2 List.perm_append_comm
     ·cases hb
    ·cases hb
   ·cases hb
theorem mapM_places {tab:Nat→Option Ty} (hT:TabOK P tab):∀ (fs:List Field) (o:Nat) (s:Ty),fldsOK tab o s (fs.map fun f=>(f.offset,f.type))=true →
  ∃ ps:List (Nat×Nat),(fs.mapM (fun f=>do pure (f.offset,← sizeOf f.type):Field→Sem (Nat×Nat))).run P w=.ok ps w∧∀ k f,s.fld k=some f→ps[k]?=some (o+s.offs k,f.size):=by
 intro fs
 induction fs with
 | nil =>
  intro o s h
  refine ⟨[],by simp,fun k f hf=>?_⟩
  cases s <;> simp [fldsOK,Ty.fld] at h hf
 | cons fd fs ih =>
  intro o s h
  cases s <;> simp only [List.map_cons,fldsOK,bF] at h
  rename_i a b
  simp only [bA,beq_iff_eq] at h
  obtain ⟨ps,h1,h2⟩:=ih _ _ h.2
  have h5:=(hT _ _ h.1.2).size (w:=w)
  refine ⟨(fd.offset,a.size)::ps,?_,?_⟩
  ·simp only [List.mapM_cons,Sem.run_bind,h5,Result.andThen_ok,Sem.run_pure,h1]
  ·intro k f hf
   cases k with
   | zero =>
    simp only [Ty.fld,sI] at hf
    subst hf
    simp [Ty.offs,h.1.1]
   | succ k =>
    simp only [Ty.fld] at hf
    have:=h2 k f hf
    simp only [List.getElem?_cons_succ,this,Ty.offs]
    congr 2;omega
theorem run_build {tab:Nat→Option Ty} (hT:TabOK P tab){t:Nat}{s:Ty} (hs:tab t=some s) (hpair:∃ a b,s=.pair a b){parts:List (Nat×Operand)}{xs:List (Σ τ:Ty,τ.D)}{g:List Nat}{τn:Ty}{xn:τn.D}
  (hpr:PartsRel S (hp w) (parts.map fun p=>a.eval p.2) xs g) (hb:buildV (zeroT s) (zeroV s) ((parts.map (·.1)).zip xs)=some ⟨τn,xn⟩) (hl:parts.length=xs.length) :
  ∃ vsn fpn,(Instr.build t (parts.map fun p=>(p.1,a.eval p.2)).toArray).run P w=.ok (valOf τn vsn) w∧Rep S (hp w) τn vsn xn fpn∧fpn.Perm g∧τn.skel=s.skel:=by
 obtain ⟨sa,sb,rfl⟩:=hpair
 obtain ⟨d,hd,hk⟩:=(hT t _ hs).under
 have hz:=(hT t _ hs).zero (w:=w)
 cases d with
 | struct fs =>
  simp only [dk,descOK] at hk
  obtain ⟨ps,h1,h2⟩:=mapM_places (w:=w) hT fs.toList 0 _ hk
  have hzl:(zeroC (.pair sa sb)).length=(Ty.pair sa sb).size:=by
   have:=(zero_rep S (hp w) (.pair sa sb)).length
   rw [this,skel_size_eq (zero_skel _)]
  have hzc:(valOf (.pair sa sb) (zeroC (.pair sa sb))).cells=(zeroC (.pair sa sb)).toArray:=by simp [valOf,Ty.isAgg,Value.cells]
  obtain ⟨vsn,fpn,m1,m2,m3,m4⟩:=fill_rep (S:=S) (H:=hp w) (a:=a) (place:=fun k=>ps[k]?) (s:=.pair sa sb) (fun k f hf=>by simpa using h2 k f hf) parts _ xs _ _ _ _ g τn xn rfl (zero_skel _) (zero_rep S (hp w) _) hpr hb hl
  refine ⟨vsn,fpn,?_,m2,by simpa using m3,m4⟩
  have hmap:(fs.mapM (fun f=>do pure (f.offset,← sizeOf f.type):Field→Sem (Nat×Nat))).run P w=.ok ps.toArray w:=by
   rw [Array.mapM_eq_mapM_toList]
   simp only [Sem.run_map,h1,Result.andThen_ok]
  have hzip:(parts.map fun p=>(p.1,a.eval p.2))=(parts.map (·.1)).zip (parts.map fun p=>a.eval p.2):=by
   rw [List.zip_map,List.map_eq_map_iff.2 (fun _ _=>rfl)]
   induction parts with
   | nil=>rfl
   | cons p ps ih=>simp [List.zip]
  have hag:τn.isAgg=true:=by rw [skel_agg m4];rfl
  simp only [Instr.build,Sem.run_bind,hz,Result.andThen_ok,hd,hmap]
  have:Instr.fill (fun x=>ps.toArray[x]?) (valOf (sa.pair sb) (zeroC (sa.pair sb))).cells (parts.map fun p=>(p.1,a.eval p.2))=some vsn.toArray:=by
   rw [hzc,hzip]
   simpa using m1
  simp only [List.toList_toArray,this,Sem.run_pure]
  simp [valOf,hag]
 | _=>simp [dk,descOK] at hk
end
end Go.Rf
namespace Go.Rf
theorem Rows.append {α:Type}{R:List Value→α→List Nat→Prop}{sz:Nat}:∀ {xs ys:List α}{cs:List Value}{f g:List Nat},Rows R sz cs xs f→Rows R sz (cs.drop (xs.length*sz)) ys g →
  Rows R sz cs (xs++ys) (f++g):=by
 intro xs
 induction xs with
 | nil=>intro ys cs f g h1 h2;cases h1;simpa using h2
 | cons x xs ih =>
  rintro ys cs f g ⟨f1,f2,rfl,h1,h2⟩ h3
  refine ⟨f1,f2++g,by simp,h1,ih h2 ?_⟩
  rw [List.drop_drop]
  rw [show sz+xs.length*sz=(x::xs).length*sz by simp [Nat.add_mul];omega]
  exact h3
theorem Rows.congr {α:Type}{R:List Value→α→List Nat→Prop}{sz:Nat}:∀ {xs:List α}{cs cs':List Value}{f:List Nat},cs.take (xs.length*sz)=cs'.take (xs.length*sz)→Rows R sz cs xs f→Rows R sz cs' xs f:=by
 intro xs
 induction xs with
 | nil=>intro cs cs' f _ h;exact h
 | cons x xs ih =>
  rintro cs cs' f hc ⟨f1,f2,rfl,h1,h2⟩
  have e1:cs.take sz=cs'.take sz:=by
   have:=congrArg (List.take sz) hc
   rw [List.take_take,List.take_take] at this
   rw [Nat.min_eq_left (by simp [Nat.add_mul])] at this
   exact this
  have e2:(cs.drop sz).take (xs.length*sz)=(cs'.drop sz).take (xs.length*sz):=by
   have:=congrArg (List.drop sz) hc
   rw [List.drop_take,List.drop_take] at this
   rw [show (x::xs).length*sz-sz=xs.length*sz by simp [Nat.add_mul]] at this
   exact this
  exact ⟨f1,f2,rfl,by rw [← e1];exact h1,ih e2 h2⟩
theorem Rows.const {α:Type}{R:List Value→α→List Nat→Prop}{sz:Nat}{z:α}:∀ (n:Nat){cs:List Value},(∀ i,i<n→R ((cs.drop (i*sz)).take sz) z [])→Rows R sz cs (List.replicate n z) []:=by
 intro n
 induction n with
 | zero=>intro cs _;rfl
 | succ n ih =>
  intro cs h
  refine ⟨[],[],rfl,by simpa using h 0 (by omega),ih fun i hi=>?_⟩
  have:=h (i+1) (by omega)
  rw [List.drop_drop,show sz+i*sz=(i+1)*sz by rw [Nat.add_mul];omega]
  exact this
def coe0:(τ σ:Ty)→τ.D→Option σ.D
 | .pair a b,.pair a' b',x=>match coe0 a a' x.1,coe0 b b' x.2 with
  | some y,some z=>some (y,z)
  | _,_=>none
 | .nil,.sl _ _,_=>some []
 | τ,σ,x=>if h:τ=σ then some (h▸x) else none
theorem coe0_rep {S:Stab}{H:Heap}:∀ {τ σ:Ty}{x:τ.D}{y:σ.D}{vs:List Value}{fp:List Nat},coe0 τ σ x=some y→Rep S H τ vs x fp→Rep S H σ vs y fp:=by
 intro τ
 have base:∀ {τ σ:Ty}{x:τ.D}{y:σ.D}{vs:List Value}{fp:List Nat},(if h:τ=σ then some (h▸x) else none)=some y→Rep S H τ vs x fp→Rep S H σ vs y fp:=by
  intro τ σ x y vs fp h hr
  split at h
  ·rename_i e;subst e;cases h;exact hr
  ·cases h
 induction τ with
 | pair a b iha ihb =>
  intro σ x y vs fp h hr
  cases σ with
  | pair a' b' =>
   simp only [coe0] at h
   split at h
   ·rename_i y' z' e1 e2
    cases h
    obtain ⟨v1,v2,f1,f2,rfl,rfl,h1,h2⟩:=hr
    exact ⟨v1,v2,f1,f2,rfl,rfl,iha e1 h1,ihb e2 h2⟩
   ·cases h
  | _=>exact base h hr
 | nil =>
  intro σ x y vs fp h hr
  cases σ with
  | sl m e =>
   simp only [coe0,sI] at h
   subst h
   obtain ⟨⟨q,rfl⟩,rfl⟩:=hr
   exact ⟨q,0,0,rfl,rfl,Nat.le_refl _,.inl ⟨rfl,rfl⟩⟩
  | _=>exact base h hr
 | _=>intro σ x y vs fp h hr;cases σ <;> exact base h hr
theorem coe0_skel:∀ {τ σ:Ty}{x:τ.D}{y:σ.D},coe0 τ σ x=some y→τ.skel=σ.skel:=by
 intro τ
 have base:∀ {τ σ:Ty}{x:τ.D}{y:σ.D},(if h:τ=σ then some (h▸x) else none)=some y→τ.skel=σ.skel:=by
  intro τ σ x y h
  split at h
  ·rename_i e;rw [e]
  ·cases h
 induction τ with
 | pair a b iha ihb =>
  intro σ x y h
  cases σ with
  | pair a' b' =>
   simp only [coe0] at h
   split at h
   ·rename_i y' z' e1 e2
    simp [Ty.skel,iha e1,ihb e2]
   ·cases h
  | _=>exact base h
 | nil=>intro σ x y h;cases σ <;> first | rfl | exact base h
 | _=>intro σ x y h;cases σ <;> exact base h
def coeL (e σ:Ty):List e.D→Option (List σ.D)
 | []=>some []
 | x::xs=>match coe0 e σ x,coeL e σ xs with
  | some y,some ys=>some (y::ys)
  | _,_=>none
theorem coeL_rep {S:Stab}{H:Heap}{e σ:Ty}{sz:Nat}:∀ {xs:List e.D}{ys:List σ.D}{cs:List Value}{f:List Nat},coeL e σ xs=some ys→Rows (Rep S H e) sz cs xs f→Rows (Rep S H σ) sz cs ys f:=by
 intro xs
 induction xs with
 | nil=>intro ys cs f h hr;simp only [coeL,sI] at h;subst h;exact hr
 | cons x xs ih =>
  rintro ys cs f h ⟨f1,f2,rfl,h1,h2⟩
  simp only [coeL] at h
  split at h
  ·rename_i y' ys' e1 e2
   cases h
   exact ⟨f1,f2,rfl,coe0_rep e1 h1,ih e2 h2⟩
  ·cases h
theorem coeL_length {e σ:Ty}:∀ {xs:List e.D}{ys:List σ.D},coeL e σ xs=some ys→ys.length=xs.length:=by
 intro xs
 induction xs with
 | nil=>intro ys h;simp only [coeL,sI] at h;subst h;rfl
 | cons x xs ih =>
  intro ys h
  simp only [coeL] at h
  split at h
  ·rename_i y' ys' e1 e2;cases h;simp [ih e2]
  ·cases h
section
variable {P:Program}{C:Cx}{w0 w:World}{G:Blk}{st:St}{a:Act}{S:Stab}{pls:Nat→Pl}{X:Nat→List Nat}
theorem Rows.heap' {S:Stab}{H H':Heap}{e:Ty}{cs:List Value}{xs:List e.D}{f:List Nat} (hS:∀ m b,S m b→H' b=H b) (hf:∀ b∈f,H' b=H b) (h:Rows (Rep S H e) e.size cs xs f) :
  Rows (Rep S H' e) e.size cs xs f:=Rows.mono' (fun vs x g hg hr=>hr.heap hS (fun b hb=>hf b (hg b hb))) h
theorem append_spec' (hT:TabOK P C.tab) (hI:Inv C w0 G st a w S pls X){t tx ty:Nat}{m0:Mode}{s e:Ty} (ht:C.tab t=some (.sl m0 s)) (hse:s.size=e.size)
  {sx vy:Value}{xs ys:List e.D}{fx gy:List Nat}{n:Nat}{news:List Value} (hx:Rep S (hp w) (.sl .own e) [sx] xs fx) (hF:Free w0 w G S X (fx++gy))
  (hsrc:Src P e.size tx vy n news w) (hn:n=ys.length) (hy:Rows (Rep S (hp w) e) e.size news ys gy) (hb:xs.length+ys.length≤4294967296) :
  ∃ v' w' fp',(Builtin.append_ #[t,tx] ty #[sx,vy]).run P w=.ok v' w'∧Inv C w0 G st a w' S pls X∧Rep S (hp w') (.sl .own e) [v'] (xs++ys) fp'∧Free w0 w' G S X fp' ∧
   (n=1→∃ l',At (hp w') [.ix xs.length] (.sl .own e) [v'] none news l'):=by
 obtain ⟨d,hd,hk⟩:=(hT t _ ht).under
 cases d with
 | slice el =>
  simp only [dk,descOK,beq_iff_eq] at hk
  obtain ⟨i,hby,hisz,hz,hi⟩:=(hT _ _ hk).bytes
  have hu:P.underlying t=some (.slice el):=by
   have:=hd w
   simp only [underlying,Sem.run_bind,run_program,Result.andThen_ok] at this
   cases hh:P.underlying t <;> simp [hh] at this
   simp [this]
  have hinfo:P.info? el=some i:=by
   have:=hi w
   simp only [typeInfo,Sem.run_bind,run_program,Result.andThen_ok] at this
   cases hh:P.info? el <;> simp [hh] at this
   simp [this]
  have hie:i.size=e.size:=by rw [hisz,hse]
  rw [← hie] at hsrc
  obtain ⟨base,len,cap,hsx,hlen,hlc,hh⟩:=hx
  simp only [List.cons.injEq,and_true] at hsx
  subst hsx
  have hnl:=hsrc.newsLen
  rw [hie] at hnl
  by_cases hroom:len+n≤cap
  ·-- in place
   rcases hh with ⟨hc0,rfl⟩ | ⟨b,off,c,el',fr,f2,rfl,hbb,hsz,hr,h⟩
   ·-- nothing there,nothing new
    have hn0:n=0:=by omega
    have hl0:len=0:=by omega
    have hys:ys=[]:=List.eq_nil_of_length_eq_zero (by omega)
    have hxs:xs=[]:=List.eq_nil_of_length_eq_zero (by omega)
    have hnw:news=[]:=List.eq_nil_of_length_eq_zero (by rw [hnl,hn0];simp)
    subst hys hxs hnw hc0
    subst hn0 hl0
    refine ⟨.slice base 0 0,w,[],?_,hI,⟨base,0,0,rfl,rfl,Nat.le_refl _,.inl ⟨rfl,rfl⟩⟩,Free.nil,fun h=>by cases h⟩
    rcases hsrc.kind with ⟨e',hk'⟩ | hk' <;> cases base <;>
     simp [Builtin.append_,run_underlying hu,run_underlying hk',sizeOf,typeInfo,hinfo,hsrc.len,hsrc.cells,storeCells]
   ·rcases h with ⟨h,_⟩ | ⟨_,hso,rfl⟩
    ·simp at h
    have hfit:off+len*e.size+news.length≤c.size:=by
     have:=Nat.mul_le_mul_right e.size hroom
     rw [Nat.add_mul] at this
     omega
    have hcl':=hsrc.cells
    rw [hie] at hcl'
    have hst:=run_storeCells_soft (P:=P) b (off+len*e.size) el' fr news 0 c w hbb hso (by omega) hsrc.one
    simp only [Nat.add_zero] at hst
    have hbF:b∈b::f2++gy:=by simp
    have hI':=hI.writeFree hF hbF (lput c.toList (off+len*e.size) news).toArray
    have hoth:∀ q,q≠b→hp (w.setRow b (lput c.toList (off+len*e.size) news).toArray) q=hp w q:=fun q hq=>hp_setRow_other hq
    have hS:∀ m q,S m q→hp (w.setRow b (lput c.toList (off+len*e.size) news).toArray) q=hp w q:=fun m q hq=>hoth q (by rintro rfl;exact (hF.ok q hbF).2.1 m hq)
    have hnd:(b::(f2++gy)).Nodup:=hF.nd
    have hbn:=(List.nodup_cons.1 hnd).1
    have hff:∀ q∈f2++gy,hp (w.setRow b (lput c.toList (off+len*e.size) news).toArray) q=hp w q:=fun q hq=>hoth q (by rintro rfl;exact hbn hq)
    refine ⟨.slice (some ⟨b,off,none⟩) (len+n) cap,_,b::f2++gy,?_,hI',?_,⟨by simpa using hF.ok,hF.nd,hF.dis⟩,fun h1=>⟨_,b,off,_,_,_,_,_,rfl,hp_setRow_same hbb,?_,rfl⟩⟩
    ·rcases hsrc.kind with ⟨e',hk'⟩ | hk' <;>
      simp [Builtin.append_,run_underlying hu,run_underlying hk',sizeOf,typeInfo,hinfo,hsrc.len,hroom,hcl',addr_add,hie,hst]
    ·refine ⟨_,_,_,rfl,by simp [hlen,hn],hroom,.inr ⟨b,off,_,el',fr,f2++gy,rfl,hp_setRow_same hbb,?_,?_,.inr ⟨rfl,?_,by simp⟩⟩⟩
     ·simp only [List.size_toArray]
      rw [put_length (by simpa using hfit)];simpa using hsz
     ·refine Rows.append (Rows.congr ?_ (Rows.heap' hS (fun q hq=>hff q (by simp [hq])) hr)) (Rows.congr ?_ (Rows.heap' hS (fun q hq=>hff q (by simp [hq])) hy))
      ·rw [← hlen]
       simp only [List.toList_toArray]
       rw [put_drop (by omega) (by simpa using hfit),put_take' (by omega) (by simp;omega)]
      ·rw [← hlen,List.drop_drop,← hn,← hnl]
       simp only [List.toList_toArray]
       rw [take_put (by simpa using hfit)]
       simp
     ·simp only [List.size_toArray]
      rw [put_length (by simpa using hfit)];simpa using hso
    ·rw [← hlen]
     simp only [List.toList_toArray]
     have hne:e.size=news.length:=by rw [hnl,h1];simp
     rw [hne] at hfit ⊢
     rw [take_put (by simpa using hfit)]
  ·-- a new row
   have hg:cap<len+n:=by omega
   have hold:∃ olds:List Value,(Builtin.firstCells i.size len (.slice base len cap)).run P w.drew=.ok olds.toArray w.drew∧olds.length=len*e.size∧∃ f2,Rows (Rep S (hp w) e) e.size olds xs f2∧f2.Sublist fx:=by
    rcases hh with ⟨hc0,rfl⟩ | ⟨b,off,c,el',fr,f2,rfl,hbb,hsz,hr,h⟩
    ·have hl0:len=0:=by omega
     have hxs:xs=[]:=List.eq_nil_of_length_eq_zero (by omega)
     subst hxs hl0
     refine ⟨[],?_,by simp,[],rfl,List.Sublist.refl _⟩
     cases base <;> simp [Builtin.firstCells,loadCells,loadCellsFrom]
    ·have hfit:off+len*e.size≤c.size:=by
      have:=Nat.mul_le_mul_right e.size hlc
      omega
     refine ⟨(c.toList.drop off).take (len*e.size),?_,by simp;omega,f2,Rows.congr (by rw [← hlen,List.take_take,Nat.min_self]) hr,?_⟩
     ·have hbb':hp w.drew b=some (.cells c el' fr):=hbb
      simp only [Builtin.firstCells,hie]
      exact run_loadCells_at hbb' hfit
     ·rcases h with ⟨h,_⟩ | ⟨_,_,rfl⟩
      ·simp at h
      ·simp
   obtain ⟨olds,ho1,ho2,f2,ho3,ho4⟩:=hold
   have hneed:(len+n)*i.bytes≤140737488355328:=by
    have h1:len+n≤4294967296:=by omega
    have h2:=Nat.mul_le_mul h1 hby
    omega
   have hrun:=run_append_grow_src (P:=P) w t tx ty el i _ hu hinfo hz base len cap olds ho1 vy n news hsrc hg (by omega) (growslice_fits hg hneed)
   have hcapg:len+n≤grownCap w (len+n) cap el:=by
    unfold grownCap;simp only [Question.cut];omega
   generalize hcells:((olds++news).toArray++Builtin.zeroCells (valOf s (zeroC s)).cells (grownCap w (len+n) cap el-(len+n)))=cells at hrun
   have hcl:cells.toList=olds++news++(Builtin.zeroCells (valOf s (zeroC s)).cells (grownCap w (len+n) cap el-(len+n))).toList:=by rw [← hcells];simp
   have hzl:(valOf s (zeroC s)).cells.size=e.size:=by
    have h1:=(zero_rep S (hp w) s).length
    rw [valOf_like (skel_agg (zero_skel s)).symm,valOf_cells h1 (zero_rep S (hp w) s).oneCell]
    simp [h1,skel_size_eq (zero_skel s),hse]
   have hsize:grownCap w (len+n) cap el*e.size≤cells.size:=by
    rw [← Array.length_toList,hcl]
    simp only [List.length_append,Array.length_toList,Builtin.zeroCells,Array.size_map,Array.size_range,hzl,ho2,hnl]
    rw [← Nat.add_mul,← Nat.add_mul]
    exact Nat.mul_le_mul_right _ (by omega)
   have hI':=hI.drew.alloc (.cells cells el)
   have hS:∀ m q,S m q→hp (w.drew.alloc (.cells cells el)) q=hp w q:=fun m q hq=>hp_alloc_old (w:=w.drew) (hI.stab m q hq)
   have hff:∀ q∈fx++gy,hp (w.drew.alloc (.cells cells el)) q=hp w q:=fun q hq=>hp_alloc_old (w:=w.drew) (hF.ok q hq).1
   refine ⟨_,_,w.heap.size::(f2++gy),hrun,hI',?_,(hF.sub (List.Sublist.append_right ho4 gy)).drew.alloc hI.drew (.cells cells el),fun h1=>⟨_,w.heap.size,0,_,_,_,_,_,rfl,hp_alloc_new (w:=w.drew),?_,rfl⟩⟩
   rotate_left
   ·have hne:e.size=news.length:=by rw [hnl,h1];simp
    rw [Nat.zero_add,hcl,← hlen,← ho2,List.append_assoc,List.drop_left,hne,List.take_left]
   refine ⟨_,_,_,rfl,by simp [hlen,hn],hcapg,.inr ⟨w.heap.size,0,cells,el,(0,0),f2++gy,rfl,hp_alloc_new (w:=w.drew),by omega,?_,.inr ⟨rfl,soft0 _,rfl⟩⟩⟩
   simp only [List.drop_zero,hcl]
   refine Rows.append (Rows.congr ?_ (Rows.heap' hS (fun q hq=>hff q (by simp [ho4.subset hq])) ho3)) (Rows.congr ?_ (Rows.heap' hS (fun q hq=>hff q (by simp [hq])) hy))
   ·rw [← hlen,← ho2,List.append_assoc,List.take_left,List.take_length]
   ·rw [← hlen,← ho2,List.append_assoc,List.drop_left,← hn,← hnl,List.take_left,List.take_length]
 | _=>simp [dk,descOK] at hk
theorem append_spec (hT:TabOK P C.tab) (hI:Inv C w0 G st a w S pls X){t tx ty:Nat}{m0:Mode}{s e:Ty} (ht:C.tab t=some (.sl m0 s)) (hse:s.size=e.size)
  {sx vy:Value}{xs ys:List e.D}{fx gy:List Nat}{n:Nat}{news:List Value} (hx:Rep S (hp w) (.sl .own e) [sx] xs fx) (hF:Free w0 w G S X (fx++gy))
  (hsrc:Src P e.size tx vy n news w) (hn:n=ys.length) (hy:Rows (Rep S (hp w) e) e.size news ys gy) (hb:xs.length+ys.length≤4294967296) :
  ∃ v' w' fp',(Builtin.append_ #[t,tx] ty #[sx,vy]).run P w=.ok v' w'∧Inv C w0 G st a w' S pls X∧Rep S (hp w') (.sl .own e) [v'] (xs++ys) fp'∧Free w0 w' G S X fp':=by
 obtain ⟨v',w',fp',h1,h2,h3,h4,_⟩:=append_spec' hT hI ht hse hx hF hsrc hn hy hb (ty:=ty)
 exact ⟨v',w',fp',h1,h2,h3,h4⟩
end
end Go.Rf
namespace Go.Rf
structure Cy extends Cx where
 ann:Nat→Option Ty
section
variable {R:Type}
def mkV (st:St) (d:Nat) (q:Σ τ:Ty,τ.D) (K:St→Option R):Option R :=
 if q.1.plain=true then K (st.put (some d) (.a (.v q.1 q.2)))
 else match st.roots d with
  | none=>K ((st.root d ⟨.val false,q.1,q.2⟩).put (some d) (.a (.ref d [])))
  | some _=>none
def ownTop (st:St) (id:Nat):Root→Option (Option (Σ e:Ty,List e.D)×St)
 | ⟨.val _,.sl .own e,xs⟩=>some (some ⟨e,xs⟩,st.kill id)
 | _=>none
def ownAt (st:St) (id:Nat) (p:Path) (r:Root):Option (Option (Σ e:Ty,List e.D)×St) :=
 match r.k,getP p r.τ r.x,setP p r.τ r.x .dead () with
 | .box io,some ⟨.sl .own e,xs⟩,some ⟨τn,xn⟩=>if hasIx p=true then none else
  some (some ⟨e,xs⟩,{ tmps:=fun t=>(st.tmps t).dirty id false,roots:=fun i=>if i=id then some ⟨r.k,τn,xn⟩ else st.roots i })
 | _,_,_=>none
def own1 (st:St):TV→Option (Option (Σ e:Ty,List e.D)×St)
 | .a (.v .nil _)=>some (none,st)
 | .a (.ref id p)=>match st.roots id with
  | none=>none
  | some r=>match p with
   | []=>(match r.k with
    | .val _=>ownTop st id r
    | .box _=>ownAt st id [] r)
   | s::p=>ownAt st id (s::p) r
 | _=>none
def bytesL (s:ByteArray):List Int:=s.data.toList.map fun b=>(b.toNat:Int)
def src2 (C:Cy) (st:St) (ty:Nat) (tv:TV):Option (Option (Σ e:Ty,List e.D)×St) :=
 match C.tab ty,tv with
 | some (.sl _ _),.a (.v .nil _)=>some (none,st)
 | some (.sl _ _),.a (.v (.sl m e) xs)=>if m=.own then none else some (some ⟨e,xs⟩,st)
 | some .str,.a (.v .str s)=>some (some ⟨.int .u8,bytesL s⟩,st)
 | some (.sl _ _),.a (.ref id p)=>match st.roots id with
  | none=>none
  | some r=>match getP p r.τ r.x with
   | some ⟨.sl .own e,xs⟩=>if e.plain=true then some (some ⟨e,xs⟩,st) else
     (match take st (.a (.ref id p)) with
      | some (⟨.sl .own e,xs⟩,st1)=>some (some ⟨e,xs⟩,st1)
      | _=>none)
   | _=>none
 | _,_=>none
def atTy (e σ:Ty) (xs:List e.D):Option (List σ.D):=if h:e=σ then some (h▸xs) else coeL e σ xs
def appendK (C:Cy) (st:St) (d:Nat) (t ty:Nat) (x y:Operand) (K:St→Option R):Option R :=
 match src2 C st ty (opnd st y) with
 | some (q2,st1)=>match own1 st1 (opnd st1 x) with
  | some (q1,st2) =>
   match q1,q2,C.tab t,st2.roots d with
   | some ⟨e,xs⟩,some ⟨e',ys⟩,some (.sl _ s),none=>match atTy e' e ys with
    | some ys=>if s.size=e.size then
      (if xs.length+ys.length≤4294967296 then K ((st2.root d ⟨.val false,.sl .own e,xs++ys⟩).put (some d) (.a (.ref d []))) else none) else none
    | none=>none
   | none,some ⟨e',ys⟩,some (.sl _ s),none=>match atTy e' ((C.ann d).getD e') ys with
    | some ys=>if s.size=((C.ann d).getD e').size then
      (if ys.length≤4294967296 then K ((st2.root d ⟨.val false,.sl .own ((C.ann d).getD e'),ys⟩).put (some d) (.a (.ref d []))) else none) else none
    | none=>none
   | _,_,_,_=>none
  | none=>none
 | none=>none
def listC (e:Ty):List (Σ τ:Ty,τ.D)→Option (List e.D)
 | []=>some []
 | q::qs=>match coe0 q.1 e q.2,listC e qs with
  | some y,some ys=>some (y::ys)
  | _,_=>none
def buildSliceK (C:Cy) (st:St) (d:Nat) (t n:Nat) (parts:List (Nat×Operand)) (K:St→Option R):Option R :=
 if parts.map (·.1)=List.range n then
  match takeL st (parts.map (·.2)),C.tab t with
  | some (xs,st1),some (.sl _ s)=>match xs with
   | []=>K (st1.put (some d) (.a (.v .nil ())))
   | q::_=>match listC ((C.ann d).getD q.1) xs,st1.roots d with
    | some ys,none=>if s.skel=((C.ann d).getD q.1).skel∧n*s.size≤16777216 then
      K ((st1.root d ⟨.val false,.sl .own ((C.ann d).getD q.1),ys⟩).put (some d) (.a (.ref d []))) else none
    | _,_=>none
  | _,_=>none
 else none
abbrev mkB (n m:Int):Prop:=0≤n∧n≤m∧m≤4294967296
def makeSliceK (C:Cy) (st:St) (d:Nat) (t:Nat) (len cap:Operand) (K:St→Option R):Option R :=
 match opnd st len,opnd st cap,C.tab t,st.roots d with
 | .a (.v (.int _) n),.a (.v (.int _) m),some (.sl _ s),none =>
  match coe0 (zeroT s) ((C.ann d).getD (zeroT s)) (zeroV s) with
  | some z=>if mkB n m then K ((st.root d ⟨.val false,.sl .own ((C.ann d).getD (zeroT s)),List.replicate (Int.toNat n) z⟩).put (some d) (.a (.ref d []))) else none
  | none=>none
 | _,_,_,_=>none
def storeK (C:Cy) (st:St) (t:Nat) (addr val:Operand) (K:St→Option R):Option R :=
 match take st (opnd st val) with
 | some (q,st1)=>match opnd st1 addr with
  | .a (.ptr id p)=>match st1.roots id with
   | some r=>match getP p r.τ r.x,setP p r.τ r.x q.1 q.2 with
    | some ⟨σ,_⟩,some ⟨τn,xn⟩=>if likeTy (C.tab t) q.1=true∧q.1.skel=σ.skel then
      K { tmps:=fun t=>(st1.tmps t).dirty id (hasIx p),roots:=fun i=>if i=id then some ⟨r.k,τn,xn⟩ else st1.roots i } else none
    | _,_=>none
   | none=>none
  | _=>none
 | none=>none
def boxK (C:Cy) (st:St) (d:Nat) (t:Nat) (x:Operand) (K:St→Option R):Option R :=
 match take st (opnd st x) with
 | some (q,st1)=>if likeTy (C.tab t) q.1=true then
   (match st1.roots d with
    | none=>K ((st1.root d ⟨.box false,q.1,q.2⟩).put (some d) (.a (.ptr d [])))
    | some _=>none) else none
 | none=>none
def allocK (C:Cy) (st:St) (d:Nat) (t:Nat) (K:St→Option R):Option R :=
 match C.tab t,st.roots d with
 | some s,none=>K ((st.root d ⟨.box false,zeroT s,zeroV s⟩).put (some d) (.a (.ptr d [])))
 | _,_=>none
def buildK (C:Cy) (st:St) (d:Nat) (t:Nat) (parts:List (Nat×Operand)) (K:St→Option R):Option R :=
 match takeL st (parts.map (·.2)),C.tab t with
 | some (xs,st1),some (.pair sa sb)=>match buildV (zeroT (.pair sa sb)) (zeroV (.pair sa sb)) ((parts.map (·.1)).zip xs) with
  | some q=>mkV st1 d q K
  | none=>none
 | _,_=>none
end
section
variable {P:Program}{C:Cy}{w0 w:World}{G:Blk}{st:St}{a:Act}{S:Stab}{pls:Nat→Pl}{X:Nat→List Nat}
def Out (P:Program) (C:Cx) (w0:World) (G:Blk) (S:Stab) (a:Act) (w:World) (o:Oper) (st':St):Prop :=
 ∃ n w',(execOp a.eval o).run P w=.ok n w'∧((∃ v pls' X',n=.value v∧Inv C w0 G st' (a.put o.dst v) w' S pls' X')∨(∃ pls' X',n=.skip∧Inv C w0 G st' (a.put o.dst undef) w' S pls' X'))
theorem mkV_out {q:Σ τ:Ty,τ.D}{d:Nat}{st':St} (h:mkV st d q some=some st') (hd:d<C.n) (hI:Inv C.toCx w0 G st a w S pls X){vs:List Value}{g:List Nat}
  (hr:Rep S (hp w) q.1 vs q.2 g) (hF:Free w0 w G S X g):∃ pls' X',Inv C.toCx w0 G st' (a.put (some d) (valOf q.1 vs)) w S pls' X':=by
 unfold mkV at h
 split at h
 ·rename_i hp
  cases h
  have:=hr.plain hp;subst this
  exact ⟨pls,X,hI.put (fun d' e=>by cases e;exact hd) ⟨vs,rfl,hr⟩⟩
 ·split at h
  ·rename_i h0
   cases h
   obtain ⟨h1,h2⟩:=hI.newVal h0 hr hF
   exact ⟨_,_,h1.put (fun d' e=>by cases e;exact hd) h2⟩
  ·cases h
theorem build_out (hT:TabOK P C.tab) (hI:Inv C.toCx w0 G st a w S pls X){d t:Nat}{parts:Array (Nat×Operand)}{st':St} (hd:d<C.n) (h:buildK C st d t parts.toList some=some st'){ty:TypeId}{pos:String}{after:Array Edge}{guard:Option (Nat×Bool)} :
  Out P C.toCx w0 G S a w ⟨some d,.build t parts,ty,pos,after,guard⟩ st':=by
 unfold buildK at h
 split at h
 ·rename_i xs st1 sa sb ht htab
  split at h
  ·rename_i q hb
   obtain ⟨X1,g,h1,h2,h3,h4⟩:=takeL_spec _ hI (Free.nil (w0:=w0) (w:=w) (G:=G) (S:=S) (X:=X)) ht
   have hl:∀ (vs:List Value) (xs:List (Σ τ:Ty,τ.D)) (g:List Nat),PartsRel S (hp w) vs xs g→vs.length=xs.length:=by
    intro vs
    induction vs with
    | nil=>intro xs g h;cases xs <;> simp_all [PartsRel]
    | cons v vs ih =>
     intro xs g h
     cases xs with
     | nil=>simp [PartsRel] at h
     | cons x xs=>obtain ⟨_,_,f2,_,_,_,h⟩:=h;simp [ih _ _ h]
   obtain ⟨τn,xn⟩:=q
   obtain ⟨vsn,fpn,m1,m2,m3,m4⟩:=run_build (a:=a) (w:=w) hT htab ⟨sa,sb,rfl⟩ (parts:=parts.toList) (xs:=xs) (g:=g) (τn:=τn) (xn:=xn) (S:=S) (by rw [List.map_map] at h3;exact h3) hb (by have:=hl _ _ _ h3;simpa using this)
   obtain ⟨pls',X',k⟩:=mkV_out h hd h1 m2 ((h2.perm (by simpa using m3)))
   refine ⟨.value (valOf τn vsn),w,?_,.inl ⟨_,pls',X',rfl,k⟩⟩
   have:(parts.map fun (i,x)=>(i,a.eval x))=(parts.toList.map fun p=>(p.1,a.eval p.2)).toArray:=by
    apply Array.ext';simp
   simp only [execOp,Sem.run_bind,this,m1,Result.andThen_ok,Sem.run_pure]
  ·cases h
 ·cases h
theorem box_out (hT:TabOK P C.tab) (hI:Inv C.toCx w0 G st a w S pls X){d t:Nat}{x:Operand}{st':St} (hd:d<C.n) (h:boxK C st d t x some=some st'){ty:TypeId}{pos:String}{after:Array Edge}{guard:Option (Nat×Bool)} :
  Out P C.toCx w0 G S a w ⟨some d,.box t x,ty,pos,after,guard⟩ st':=by
 unfold boxK at h
 split at h
 ·rename_i q st1 ht
  split at h
  ·split at h
   ·rename_i h0
    cases h
    obtain ⟨X1,g,ws,h1,h2,h3,h4,h5⟩:=take_spec hI (Free.nil (w0:=w0) (w:=w) (G:=G) (S:=S) (X:=X)) (hI.opnd x) ht
    obtain ⟨k1,k2⟩:=h1.newBox h0 h4 (by simpa using h2) t
    refine ⟨.value (.pointer (some ⟨w.heap.size,0,none⟩)),_,?_,.inl ⟨_,_,_,rfl,k1.put (fun d' e=>by cases e;exact hd) k2⟩⟩
    have hc:(a.eval x).cells=ws.toArray:=by rw [h3];exact valOf_cells h4.length h4.oneCell
    simp [execOp,Instr.box,newVar,newRow,hc]
   ·cases h
  ·cases h
 ·cases h
theorem alloc_out (hT:TabOK P C.tab) (hI:Inv C.toCx w0 G st a w S pls X){d t:Nat}{st':St} (hd:d<C.n) (h:allocK C st d t some=some st'){ty:TypeId}{pos:String}{after:Array Edge}{guard:Option (Nat×Bool)} :
  Out P C.toCx w0 G S a w ⟨some d,.alloc t,ty,pos,after,guard⟩ st':=by
 unfold allocK at h
 split at h
 ·rename_i s hs h0
  cases h
  have hz:=zero_rep S (hp w) s
  obtain ⟨k1,k2⟩:=hI.newBox h0 hz Free.nil t
  refine ⟨.value (.pointer (some ⟨w.heap.size,0,none⟩)),_,?_,.inl ⟨_,_,_,rfl,k1.put (fun d' e=>by cases e;exact hd) k2⟩⟩
  have hc:(valOf s (zeroC s)).cells=(zeroC s).toArray:=by rw [valOf_like (skel_agg (zero_skel s)).symm];exact valOf_cells hz.length hz.oneCell
  simp [execOp,Instr.alloc,newVar,newRow,(hT t s hs).zero,hc]
 ·cases h
theorem storeVar_run {tab:Nat→Option Ty} (hT:TabOK P tab){t:Nat}{s:Ty} (hs:tab t=some s){b off:Nat}{c:Array Value}{el:Nat}{fr:Nat×Nat}{v:Value}{ws:List Value} (hv:v.cells=ws.toArray) (hl:ws.length=s.size)
  (hb:hp w b=some (.cells c el fr)) (hso:Soft fr c.size) (hn:off+ws.length≤c.size) (h1:∀ v∈ws,v.oneCell'=true) :
  (storeVar t ⟨b,off,none⟩ v).run P w=.ok () (w.setRow b (lput c.toList off ws).toArray):=by
 have hst:=run_storeCells_soft (P:=P) b off el fr ws 0 c w hb hso (by omega) h1
 simp only [Nat.add_zero] at hst
 simp [storeVar,(hT t s hs).size,hv,hl,hst]
theorem store_out (hT:TabOK P C.tab) (hI:Inv C.toCx w0 G st a w S pls X){t:Nat}{addr val:Operand}{st':St} (h:storeK C st t addr val some=some st'){ty:TypeId}{pos:String}{after:Array Edge}{guard:Option (Nat×Bool)} :
  Out P C.toCx w0 G S a w ⟨none,.store t addr val,ty,pos,after,guard⟩ st':=by
 unfold storeK at h
 split at h
 ·rename_i q st1 ht
  split at h
  ·rename_i id p hadr
   split at h
   ·rename_i r hr
    split at h
    ·rename_i σ y τn xn hg hs
     split at h
     ·rename_i hc
      cases h
      obtain ⟨X1,g,ws,h1,h2,h3,h4,h5⟩:=take_spec hI (Free.nil (w0:=w0) (w:=w) (G:=G) (S:=S) (X:=X)) (hI.opnd val) ht
      have hx:=h1.opnd addr
      rw [hadr] at hx
      obtain ⟨b,off,c,el,fr,vs',e1,e2,e3,e4,⟨vs,l,hh,hat⟩,hv,_⟩:=h1.ptr hx hr hg
      simp only [List.nil_append] at h2
      obtain ⟨⟨hso,hroom⟩,Y,k⟩:=h1.store hr hg e2 hh hat hv hc.2 hs h4 h2.ok h2.nd h2.dis
      obtain ⟨s,hs1,hs2,_⟩:=likeTy_spec hc.1
      have hrun:=storeVar_run (P:=P) hT hs1 (valOf_cells h4.length h4.oneCell) (by rw [h4.length,hs2]) e2 hso hroom h4.oneCell
      rw [← h3] at hrun
      refine ⟨.skip,_,?_,.inr ⟨_,_,rfl,k⟩⟩
      simp [execOp,Instr.storeAt,e1,Instr.sureAddr,hrun]
     ·cases h
    ·cases h
   ·cases h
  ·cases h
 ·cases h
theorem listC_rows {H:Heap}{e:Ty}:∀ {vals:List Value}{xs:List (Σ τ:Ty,τ.D)}{ys:List e.D}{g:List Nat},listC e xs=some ys→PartsRel S H vals xs g →
  ∃ cs:List (List Value),vals=cs.map (valOf e)∧(∀ c∈cs,c.length=e.size∧∀ v∈c,v.oneCell'=true)∧Rows (Rep S H e) e.size cs.flatten ys g∧cs.length=ys.length:=by
 intro vals
 induction vals with
 | nil =>
  intro xs ys g h hp
  cases xs with
  | cons _ _=>simp [PartsRel] at hp
  | nil =>
   simp only [PartsRel] at hp
   simp only [listC,sI] at h
   subst h hp
   exact ⟨[],rfl,by simp,rfl,rfl⟩
 | cons v vals ih =>
  intro xs ys g h hp
  cases xs with
  | nil=>simp [PartsRel] at hp
  | cons q xs =>
   obtain ⟨ws,f1,f2,e1,e2,rfl,hp⟩:=hp
   simp only [listC] at h
   split at h
   ·rename_i y ys' c1 c2
    cases h
    obtain ⟨cs,k1,k2,k3,k4⟩:=ih c2 hp
    have hr:=coe0_rep c1 e2
    refine ⟨ws::cs,?_,?_,⟨f1,f2,rfl,?_,?_⟩,by simp [k4]⟩
    ·simp [k1,e1,valOf_like (skel_agg (coe0_skel c1))]
    ·intro c hc
     simp only [List.mem_cons] at hc
     rcases hc with rfl | hc
     ·exact ⟨hr.length,hr.oneCell⟩
     ·exact k2 c hc
    ·simp only [List.flatten_cons]
     rw [← hr.length,List.take_left];exact hr
    ·simp only [List.flatten_cons]
     rw [← hr.length,List.drop_left,hr.length];exact k3
   ·cases h
theorem fill_rows (sz:Nat) (hsz:0<sz∨True):∀ (cs:List (List Value)) (k:Nat) (cur:List Value),(∀ c∈cs,c.length=sz∧∀ v∈c,v.oneCell'=true)→cur.length=(k+cs.length)*sz →
  ∀ (f:List Value→Value),(∀ c∈cs,(f c).cells=c.toArray) →
  Instr.fill (fun i=>some (i*sz,sz)) cur.toArray ((List.range' k cs.length).zip (cs.map f))=some (cur.take (k*sz)++cs.flatten).toArray:=by
 intro cs
 induction cs with
 | nil =>
  intro k cur _ hl f _
  simp only [List.length_nil,Nat.add_zero] at hl
  simp [Instr.fill,← hl]
 | cons c cs ih =>
  intro k cur hc hl f hf
  simp only [List.length_cons,List.range'_succ,List.map_cons,List.zip_cons_cons]
  have hcl:=(hc c (by simp)).1
  have hroom:k*sz+c.length≤cur.length:=by
   rw [hl,hcl]
   have:=Nat.mul_le_mul_right sz (show k+1≤k+(c::cs).length by simp)
   rw [Nat.add_mul] at this;omega
  rw [fill_one (hf c (by simp)) (by rw [hcl]) (by simpa using hroom)]
  simp only [List.toList_toArray]
  rw [ih (k+1) _ (fun c' h'=>hc c' (by simp [h'])) (by rw [put_length hroom,hl];simp [Nat.add_mul];omega) f (fun c' h'=>hf c' (by simp [h']))]
  congr 2
  simp only [lput,List.flatten_cons]
  rw [show (k+1)*sz=k*sz+c.length by rw [Nat.add_mul,hcl];omega]
  rw [List.take_append_of_le_length (by simp;omega),← List.append_assoc]
  congr 1
  have:(cur.take (k*sz)++c).length=k*sz+c.length:=by simp;omega
  rw [← this,List.take_length]
theorem buildSlice_out (hT:TabOK P C.tab) (hI:Inv C.toCx w0 G st a w S pls X){d t n:Nat}{parts:Array (Nat×Operand)}{st':St} (hd:d<C.n) (h:buildSliceK C st d t n parts.toList some=some st'){ty:TypeId}{pos:String}{after:Array Edge}{guard:Option (Nat×Bool)} :
  Out P C.toCx w0 G S a w ⟨some d,.buildSlice t n parts,ty,pos,after,guard⟩ st':=by
 unfold buildSliceK at h
 split at h
 ·rename_i hrng
  split at h
  ·rename_i xs st1 m s ht htab
   obtain ⟨X1,g,h1,h2,h3,h4⟩:=takeL_spec _ hI (Free.nil (w0:=w0) (w:=w) (G:=G) (S:=S) (X:=X)) ht
   simp only [List.nil_append] at h2
   have hn:parts.toList.length=n:=by have:=congrArg List.length hrng;simpa using this
   obtain ⟨dd,hdd,hk⟩:=(hT t _ htab).under
   cases dd with
   | slice el =>
    simp only [dk,descOK,beq_iff_eq] at hk
    have hsz:=(hT _ _ hk).size (w:=w)
    have hz:=(hT _ _ hk).zero (w:=w)
    have hpm:(parts.map fun (i,x)=>(i,a.eval x)).toList=(List.range n).zip (parts.toList.map fun p=>a.eval p.2):=by
     rw [← hrng,Array.toList_map]
     generalize parts.toList=pl
     induction pl with
     | nil=>rfl
     | cons q ql ih=>simp [ih]
    split at h
    ·-- an empty literal
     cases h
     rename_i hxs
     have hp0:parts.toList=[]:=by
      cases hpl:parts.toList with
      | nil=>rfl
      | cons q ql=>rw [hpl] at h3;simp [PartsRel] at h3
     have hn0:n=0:=by rw [← hn,hp0];rfl
     subst hn0
     have hps:parts=#[]:=by cases parts;simp at hp0;subst hp0;rfl
     subst hps
     refine ⟨.value (.slice (some ⟨w.heap.size,0,none⟩) 0 0),w.alloc (.cells #[] el),?_,.inl ⟨_,_,_,rfl,(h1.alloc _).put (fun d' e=>by cases e;exact hd) (show TRel _ _ _ _ _ (.a (.v .nil ())) from ⟨[.slice (some ⟨w.heap.size,0,none⟩) 0 0],rfl,⟨_,rfl⟩,rfl⟩)⟩⟩
     simp [execOp,Instr.buildSlice,hdd,hsz,Instr.fill,newRow,show Array.range 0=#[] from rfl]
    ·rename_i q qs
     split at h
     ·rename_i ys hl h0
      split at h
      ·rename_i hcc
       obtain ⟨hc,hlim⟩:=hcc
       cases h
       generalize (C.ann d).getD q.1=e at *
       obtain ⟨cs,k1,k2,k3,k4⟩:=listC_rows hl h3
       have hcl:cs.length=n:=by
        have:=congrArg List.length k1
        simp at this
        rw [← hn];simp;omega
       have hse:=skel_size_eq hc
       have hfl:cs.flatten.length=n*e.size:=by
        rw [← hcl]
        clear k1 k3 k4 hl h3 hcl
        induction cs with
        | nil=>simp
        | cons c cs ih =>
         simp only [List.flatten_cons,List.length_append,List.length_cons,Nat.add_mul]
         rw [ih (fun c h=>k2 c (by simp [h])),(k2 c (by simp)).1];omega
       have hrows:Rep S (hp (w.alloc (.cells cs.flatten.toArray el))) (.sl .own e) [.slice (some ⟨w.heap.size,0,none⟩) n n] ys (w.heap.size::g):=by
        refine ⟨_,_,_,rfl,by rw [← hcl,k4],Nat.le_refl _,.inr ⟨w.heap.size,0,_,el,(0,0),g,rfl,hp_alloc_new,by rw [List.size_toArray,hfl];omega,?_,.inr ⟨rfl,soft0 _,rfl⟩⟩⟩
        simp only [List.drop_zero]
        exact Rows.heap' (fun m b h=>hp_alloc_old (h1.stab m b h)) (fun b h=>hp_alloc_old (h2.ok b h).1) k3
       obtain ⟨m1,m2⟩:=(h1.alloc (.cells cs.flatten.toArray el)).newVal h0 hrows (h2.alloc h1 _)
       refine ⟨.value (.slice (some ⟨w.heap.size,0,none⟩) n n),_,?_,.inl ⟨_,_,_,rfl,m1.put (fun d' e=>by cases e;exact hd) m2⟩⟩
       have hz0:∀ q:Array Value,(Array.range (n*s.size)).map (fun i=>q[i % q.size]!)=((Array.range (n*s.size)).map (fun i=>q[i % q.size]!)).toList.toArray:=fun q=>(Array.toArray_toList).symm
       have hfill:∀ cur:List Value,cur.length=n*s.size→Instr.fill (fun i=>some (i*s.size,s.size)) cur.toArray ((List.range n).zip (parts.toList.map fun p=>a.eval p.2))=some cs.flatten.toArray:=by
        intro cur hcur
        have:=fill_rows s.size (.inr trivial) cs 0 cur (fun c h=>by rw [hse];exact k2 c h) (by simp [hcl,hcur]) (valOf e) (fun c h=>valOf_cells (k2 c h).1 (k2 c h).2)
        rw [hcl] at this
        rw [List.map_map] at k1
        rw [List.range_eq_range',show (parts.toList.map fun p=>a.eval p.2)=cs.map (valOf e) from k1]
        simpa using this
       have hl1:∀ q:Array Value,((Array.range (n*s.size)).map (fun i=>q[i % q.size]!)).toList.length=n*s.size:=fun q=>by simp
       have key:∀ q:Array Value,Instr.fill (fun i=>some (i*s.size,s.size)) ((Array.range (n*s.size)).map (fun i=>q[i % q.size]!)) (parts.map fun (i,x)=>(i,a.eval x)).toList=some cs.flatten.toArray:=by
        intro q
        rw [hz0 q,hpm]
        exact hfill _ (hl1 q)
       simp only [execOp,Instr.buildSlice,Sem.run_bind,hdd,Result.andThen_ok,hsz,Sem.run_ite]
       rw [if_neg (by omega)]
       by_cases hns:n*s.size=0
       ·rw [if_pos hns]
        simp only [Sem.run_pure,Result.andThen_ok]
        rw [key]
        simp [newRow]
       ·rw [if_neg hns]
        simp only [Sem.run_bind,hz,Sem.run_pure,Result.andThen_ok]
        rw [key]
        simp [newRow]
      ·cases h
     ·cases h
   | _=>simp [dk,descOK] at hk
  ·cases h
 ·cases h
end
end Go.Rf
namespace Go.Rf
section
variable {P:Program}{C:Cy}{w0 w:World}{G:Blk}{st:St}{a:Act}{S:Stab}{pls:Nat→Pl}{X:Nat→List Nat}
theorem mkB_spec {n m:Int} (h:mkB n m):0≤n∧n≤m∧m≤4294967296:=h
theorem zeros_row {zc:List Value}{n i:Nat} (hi:i<n) (h0:0<zc.length):((((Array.range (n*zc.length)).map fun j=>zc.toArray[j % zc.toArray.size]!).toList.drop (i*zc.length)).take zc.length)=zc:=by
 have hle:i*zc.length+zc.length≤n*zc.length:=by
  have:=Nat.mul_le_mul_right zc.length (Nat.succ_le_of_lt hi);rw [Nat.succ_mul] at this;exact this
 apply List.ext_getElem
 ·simp;omega
 ·intro j h1 h2
  simp only [List.getElem_take,List.getElem_drop,Array.getElem_toList,Array.getElem_map,Array.getElem_range,List.size_toArray]
  rw [show (i*zc.length+j) % zc.length=j by rw [Nat.mul_comm,Nat.mul_add_mod,Nat.mod_eq_of_lt h2]]
  simp [h2]
theorem makeSlice_out (hT:TabOK P C.tab) (hI:Inv C.toCx w0 G st a w S pls X){d t:Nat}{len cap:Operand}{st':St} (hd:d<C.n) (h:makeSliceK C st d t len cap some=some st'){ty:TypeId}{pos:String}{after:Array Edge}{guard:Option (Nat×Bool)} :
  Out P C.toCx w0 G S a w ⟨some d,.makeSlice t len cap,ty,pos,after,guard⟩ st':=by
 unfold makeSliceK at h
 have hx:=hI.opnd len
 have hy:=hI.opnd cap
 split at h
 ·rename_i k1 n k2 m m0 s e1 e2 htab h0
  rw [e1] at hx;rw [e2] at hy
  have hx:=vint_inv (pls:=pls) (roots:=st.roots) hx
  have hy:=vint_inv (pls:=pls) (roots:=st.roots) hy
  split at h
  ·rename_i z hz0
   split at h
   ·rename_i hb
    cases h
    obtain ⟨b1,b2,b3⟩:=mkB_spec hb
    obtain ⟨n,rfl⟩:∃ q:Int,q=n:=⟨n,rfl⟩
    obtain ⟨m,rfl⟩:∃ q:Int,q=m:=⟨m,rfl⟩
    generalize (C.ann d).getD (zeroT s)=e at *
    obtain ⟨dd,hdd,hk⟩:=(hT t _ htab).under
    cases dd with
    | slice el =>
     simp only [dk,descOK,beq_iff_eq] at hk
     have hsz:=(hT _ _ hk).size (w:=w)
     have hz:=(hT _ _ hk).zero (w:=w)
     obtain ⟨i,hby,hisz,_,hi⟩:=(hT _ _ hk).bytes
     have hzr:=coe0_rep hz0 (zero_rep S (hp w) s)
     have hse:s.size=e.size:=by rw [← skel_size_eq (zero_skel s),skel_size_eq (coe0_skel hz0)]
     have hzc:(valOf s (zeroC s)).cells=(zeroC s).toArray:=by
      rw [valOf_like (skel_agg (zero_skel s)).symm];exact valOf_cells (zero_rep S (hp w) s).length (zero_rep S (hp w) s).oneCell
     have hzl:(zeroC s).length=s.size:=by rw [(zero_rep S (hp w) s).length,skel_size_eq (zero_skel s)]
     have wn:IntKind.i64.wrap n=n:=IntWalk.i64_in n ⟨by omega,by omega⟩
     have wm:IntKind.i64.wrap m=m:=IntWalk.i64_in m ⟨by omega,by omega⟩
     have hbig:∀ q:Int,0≤q→q≤4294967296→¬ ((i.bytes:Int)*q>2 ^ 48):=by
      intro q q1 q2
      have h1:(i.bytes:Int)*q≤16384*4294967296:=Int.mul_le_mul (by omega) q2 q1 (by omega)
      have h2:(2:Int) ^ 48=281474976710656:=by decide
      rw [h2];omega
     -- the cells
     let cells:Array Value:=if m.toNat*s.size=0 then (Array.range (m.toNat*s.size)).map (fun j=>(#[]:Array Value)[j % 0]!) else (Array.range (m.toNat*s.size)).map (fun j=>(zeroC s).toArray[j % (zeroC s).toArray.size]!)
     have hcs:cells.size=m.toNat*s.size:=by
      simp only [cells];split <;> simp
     have hrun:(Instr.makeSlice t (.int k1 n) (.int k2 m)).run P w=.ok (.slice (some ⟨w.heap.size,0,none⟩) n.toNat m.toNat) (w.alloc (.cells cells el)):=by
      have t1:¬ (m<0):=by omega
      have t2:¬ (n<0):=by omega
      have t3:¬ (n>m):=by omega
      have t4:=hbig m (by omega) b3
      by_cases hms:m.toNat*s.size=0
      ·simp only [cells,hms,if_true]
       simp only [Instr.makeSlice,Sem.run_bind,hdd,Result.andThen_ok,asInt,asIntOf,Sem.run_pure,hi,wn,wm]
       have tl:(decide (m<0) || decide ((i.bytes:Int)*m>2 ^ 48))=false:=by simp only [t1,t4,decide_false,Bool.or_false]
       simp only [tl,t2,t3,bF,false_or,if_false,or_self,Sem.run_ite,decide_false]
       simp only [Sem.run_bind,run_askRoom,Result.andThen_ok,hsz,Sem.run_ite,hms,if_true,Sem.run_pure,newRow,run_newObj]
       rfl
      ·simp only [cells,hms,if_false]
       simp only [Instr.makeSlice,Sem.run_bind,hdd,Result.andThen_ok,asInt,asIntOf,Sem.run_pure,hi,wn,wm]
       have tl:(decide (m<0) || decide ((i.bytes:Int)*m>2 ^ 48))=false:=by simp only [t1,t4,decide_false,Bool.or_false]
       simp only [tl,t2,t3,bF,false_or,if_false,or_self,Sem.run_ite,decide_false]
       simp only [Sem.run_bind,run_askRoom,Result.andThen_ok,hsz,Sem.run_ite,hms,if_false,hz,Sem.run_pure,hzc,newRow,run_newObj]
       rfl
     have hrows:Rep S (hp (w.alloc (.cells cells el))) (.sl .own e) [.slice (some ⟨w.heap.size,0,none⟩) n.toNat m.toNat] (List.replicate n.toNat z) [w.heap.size]:=by
      refine ⟨_,_,_,rfl,by simp,by omega,.inr ⟨w.heap.size,0,cells,el,(0,0),[],rfl,hp_alloc_new,by rw [hcs,hse];omega,?_,.inr ⟨rfl,soft0 _,rfl⟩⟩⟩
      simp only [List.drop_zero]
      refine Rows.const _ fun j hj=>?_
      have hzr':=hzr.heap (H':=hp (w.alloc (.cells cells el))) (fun m b h=>hp_alloc_old (hI.stab m b h)) (by simp)
      by_cases hs0:s.size=0
      ·have h1:zeroC s=[]:=List.eq_nil_of_length_eq_zero (by omega)
       rw [h1] at hzr'
       rw [← hse,hs0];simpa using hzr'
      ·have hms:¬ (m.toNat*s.size=0):=by
        intro h;rcases Nat.mul_eq_zero.1 h with h | h <;> omega
       have hce:cells=(Array.range (m.toNat*s.size)).map (fun j=>(zeroC s).toArray[j % (zeroC s).toArray.size]!):=by simp only [cells,hms,if_false]
       have:=zeros_row (zc:=zeroC s) (n:=m.toNat) (i:=j) (by omega) (by omega)
       rw [hzl] at this
       have hrow:(List.take e.size (List.drop (j*e.size) cells.toList))=zeroC s:=by
        rw [← hse,hce];exact this
       rw [hrow];exact hzr'
     obtain ⟨m1,m2⟩:=(hI.alloc (.cells cells el)).newVal h0 hrows ((Free.nil (w0:=w0) (w:=w) (G:=G) (S:=S) (X:=X)).alloc hI _)
     refine ⟨.value (.slice (some ⟨w.heap.size,0,none⟩) n.toNat m.toNat),_,?_,.inl ⟨_,_,_,rfl,m1.put (fun d' e=>by cases e;exact hd) m2⟩⟩
     simp only [execOp,hx,hy,Sem.run_bind,hrun,Result.andThen_ok,Sem.run_pure]
    | _=>simp [dk,descOK] at hk
   ·cases h
  ·cases h
 ·cases h
def OwnRel (S:Stab) (H:Heap) (val:Value) (g:List Nat):Option (Σ e:Ty,List e.D)→Prop
 | none=>∃ p,val=.slice p 0 0∧g=[]
 | some ⟨e,xs⟩=>Rep S H (.sl .own e) [val] xs g
theorem ownAt_spec (hI:Inv C.toCx w0 G st a w S pls X){h:List Nat} (hF:Free w0 w G S X h){id:Nat}{p:Path}{r:Root} (hr:st.roots id=some r){val:Value} (hv:TRel S (hp w) pls st.roots val (.a (.ref id p))){q:Option (Σ e:Ty,List e.D)}{st':St}
  (ho:ownAt st id p r=some (q,st')):∃ X' g,Inv C.toCx w0 G st' a w S pls X'∧Free w0 w G S X' (g++h)∧OwnRel S (hp w) val g q:=by
 unfold ownAt at ho
 split at ho
 ·rename_i e xs τn xn hkk hg hs
  split at ho
  ·cases ho
  ·rename_i hix
   have hix:hasIx p=false:=by simpa using hix
   cases ho
   -- the header is moved out of its place
   obtain ⟨r',hr',σ,y,vs,l,vs',l',g1,g2,g3,g4,g5⟩:=hv
   rw [hr] at hr';cases hr'
   rw [hg] at g1;cases g1
   have hrr:=hI.roots id r hr
   have hsk:=setP_skel p hg hs rfl
   obtain ⟨k,τ,x⟩:=r
   have hk:∃ io,k=.box io∧∃ B pre post el fr,pls id=.mem B pre post el fr:=by
    simp only at hkk
    subst hkk
    cases hpl:pls id <;> rw [hpl] at hrr <;> simp only [RootRel] at hrr
    exact ⟨_,rfl,_,_,_,_,_,rfl⟩
   obtain ⟨io,rfl,B,pre,post,el,fr,hpl⟩:=hk
   rw [hpl] at hrr g3
   simp only [RootRel] at hrr
   obtain ⟨v1,l1,fp,k1,k2,k3⟩:=hrr
   obtain ⟨rfl,rfl⟩:=k1.det g3
   have hndX:=hI.nd id
   rw [k3] at hndX
   have hBn:=List.nodup_cons.1 hndX
   obtain ⟨u1,m1,f1,f',f2,hfp,hat,hrep,hset⟩:=k2.set p l1 g2 hBn.2 hg
   obtain ⟨rfl,rfl⟩:=hat.det _ g4
   rcases hset with ⟨_,δ,hl1,hδ,hset⟩ | ⟨hx,_⟩
   ·have hu1:∃ v0,u1=[v0]∧v0.oneCell'=true∧val=v0:=by
     have:=hrep
     obtain ⟨pa,len,cap,rfl,_⟩:=this
     exact ⟨_,rfl,rfl,by rw [g5];simp [valOf,Ty.isAgg]⟩
    obtain ⟨v0,rfl,hv0,rfl⟩:=hu1
    have hdead:Rep S (hp w) .dead [val] () []:=⟨⟨val,rfl,hv0⟩,rfl⟩
    have hnew:=hset S (hp w) .dead () [val] [] τn xn rfl hs (fun _ _ h=>h) (fun _ _ _=>rfl) (fun _ _=>rfl) hdead
    have hself:lput v1 δ [val]=v1:=by
     apply put_self
     have hm:=at_mem p k2 g2 (by rw [show l1=some (B,pre.length) from k1.2.2.1] at *;exact (hl1 B pre.length rfl)▸hat) (holds_mem (S:=S) (pl:=.mem B pre post el fr) (r:=⟨.box io,τ,x⟩) (by rw [show l1=some (B,pre.length) from k1.2.2.1] at k1;exact k1)) hg
     obtain ⟨c9,el9,fr9,q1,q2,q3⟩:=hm
     rw [k1.1] at q1
     simp only [sI,Obj.cells.injEq] at q1
     obtain ⟨rfl,rfl,rfl⟩:=q1
     simp only [Ty.size] at q3
     simp only [List.toList_toArray,List.append_assoc] at q3
     rw [List.drop_length_add_append] at q3
     rw [List.drop_append_of_le_length (by simp [Ty.size] at hδ;omega),List.take_append_of_le_length (by simp [Ty.size] at hδ ⊢;omega)] at q3
     exact q3
    rw [hself] at hnew
    simp only [List.append_nil] at hnew
    have hsub:(f1++f2).Sublist fp:=by rw [hfp,List.append_assoc];exact List.Sublist.append_left (by simp) f1
    have hXsub:∀ i,∀ q∈upd X id (B::(f1++f2)) i,q∈X i:=by
     intro i q hq
     by_cases e:i=id
     ·subst e
      simp only [upd_same,List.mem_cons] at hq
      rw [k3];simp only [List.mem_cons]
      exact hq.imp_right (fun h=>hsub.subset h)
     ·rw [upd_other _ _ e] at hq;exact hq
    have hf'X:∀ q∈f',q∈X id:=fun q hq=>by rw [k3,hfp];simp [hq]
    have hfpn:=hBn.2
    rw [hfp] at hfpn
    have hn1:=List.nodup_append.1 hfpn
    have hn2:=List.nodup_append.1 hn1.1
    refine ⟨upd X id (B::(f1++f2)),f',{ kl:=hI.kl,size:=hI.size,defers:=hI.defers,glb:=hI.glb,pin:=fun i r2 h2 hk2=>(by by_cases e:i=id;(subst e;simp only [if_true,sI] at h2;subst h2;exact hI.pin _ _ hr hk2);(simp only [if_neg e] at h2;exact hI.pin i r2 h2 hk2)),frm:=hI.frm,stab:=hI.stab,own:=?_,nd:=?_,dis:=?_,roots:=?_,tmps:=?_ },⟨?_,?_,?_⟩,hrep⟩
    ·intro i q hq;exact hI.own i q (hXsub i q hq)
    ·intro i
     by_cases e:i=id
     ·subst e;simp only [upd_same]
      exact List.nodup_cons.2 ⟨fun h=>hBn.1 (hsub.subset h),hsub.nodup hBn.2⟩
     ·rw [upd_other _ _ e];exact hI.nd i
    ·intro i j q hij hq hq'
     exact hI.dis i j q hij (hXsub i q hq) (hXsub j q hq')
    ·intro i r' hr'
     simp only at hr'
     split at hr'
     ·rename_i e;subst e;cases hr';rw [upd_same,hpl]
      refine ⟨v1,l1,f1++f2,?_,hnew,rfl⟩
      rw [skel_size_eq hsk];exact k1
     ·rename_i e;rw [upd_other _ _ e];exact hI.roots i r' hr'
    ·intro t
     have hgen:∀ val v,VRel S (hp w) pls st.roots val v→VRel S (hp w) pls (fun i=>if i=id then some ⟨.box io,τn,xn⟩ else st.roots i) val (v.dirty id false):=by
      intro val v hvv
      by_cases hid:v.refs=some id
      ·cases v <;> simp only [AV.refs,reduceCtorEq,sI] at hid
       ·rename_i i q
        subst hid
        cases q <;> simp only [AV.dirty,if_true,and_self] <;> trivial
       ·rename_i i q
        subst hid
        simp only [AV.dirty]
        split
        ·trivial
        ·rename_i hiq
         have hiq:hasIx q=false:=by simpa using hiq
         obtain ⟨r1,hr1,σ1,y1,va,la,vb,b1,off1,g1',g2',g3',g4',g5'⟩:=hvv
         rw [hr] at hr1;cases hr1
         rw [hpl] at g3'
         obtain ⟨rfl,rfl⟩:=g3'.det k1
         obtain ⟨σ',y',v1',q1,q2,q3⟩:=at_skel (H':=hp w) q (τ':=τn) xn hiq hsk g1' rfl g4'
         exact ⟨⟨.box io,τn,xn⟩,by simp,σ',y',_,_,v1',b1,off1,q1,q2,by rw [hpl,skel_size_eq hsk];exact k1,q3,g5'⟩
      ·have hd:v.dirty id false=v:=by
        cases v with
        | ref i q =>
         have hne:i≠id:=by simpa [AV.refs] using hid
         cases q <;> simp [AV.dirty,hne]
        | ptr i q =>
         have hne:i≠id:=by simpa [AV.refs] using hid
         simp [AV.dirty,hne]
        | _=>rfl
       rw [hd]
       refine VRel.heap hI.roots (fun _ _ _=>rfl) (fun _ _ h=>h) (fun i hi=>?_) hvv
       have hne:i≠id:=by rintro rfl;exact hid hi
       exact ⟨by simp [hne],rfl,fun _ _=>rfl⟩
     have ht:=hI.tmps t
     show TRel S (hp w) pls (fun i=>if i=id then some ⟨.box io,τn,xn⟩ else st.roots i) (a.tmps.getD t undef) ((st.tmps t).dirty id false)
     generalize st.tmps t=tv at ht
     cases tv with
     | a v=>exact hgen _ _ ht
     | tup l' =>
      obtain ⟨us,e,hl⟩:=ht
      exact ⟨us,e,lrel_map _ hgen _ _ hl⟩
    ·intro q hq
     simp only [List.mem_append] at hq
     rcases hq with hq | hq
     ·exact hI.own id q (hf'X q hq)
     ·exact hF.ok q hq
    ·exact List.nodup_append.2 ⟨hn2.2.1,hF.nd,fun q hq q' hq' e=>hF.dis id q' hq' (e▸hf'X q hq)⟩
    ·intro i q hq hi
     simp only [List.mem_append] at hq
     rcases hq with hq | hq
     ·by_cases e:i=id
      ·subst e
       simp only [upd_same,List.mem_cons,List.mem_append] at hi
       rcases hi with rfl | hi | hi
       ·exact hBn.1 (by rw [hfp];simp [hq])
       ·exact hn2.2.2 q hi q hq rfl
       ·exact hn1.2.2 q (by simp [hq]) q hi rfl
      ·rw [upd_other _ _ e] at hi
       exact hI.dis id i q (Ne.symm e) (hf'X q hq) hi
     ·exact hF.dis i q hq (hXsub i q hi)
   ·rw [hix] at hx;cases hx
 ·cases ho
theorem own1_spec (hI:Inv C.toCx w0 G st a w S pls X){h:List Nat} (hF:Free w0 w G S X h){tv:TV}{val:Value} (hv:TRel S (hp w) pls st.roots val tv){q:Option (Σ e:Ty,List e.D)}{st':St}
  (ho:own1 st tv=some (q,st')):∃ X' g,Inv C.toCx w0 G st' a w S pls X'∧Free w0 w G S X' (g++h)∧OwnRel S (hp w) val g q:=by
 unfold own1 at ho
 split at ho
 ·cases ho
  obtain ⟨vs,e,⟨p,rfl⟩,_⟩:=hv
  exact ⟨X,[],hI,by simpa using hF,p,by simpa [valOf,Ty.isAgg] using e,rfl⟩
 ·rename_i id p
  split at ho
  ·cases ho
  ·rename_i r hr
   split at ho
   ·obtain ⟨k,τ,x⟩:=r
    cases k with
    | val io =>
     simp only at ho
     unfold ownTop at ho
     split at ho
     ·rename_i k' e xs heq
      cases heq
      cases ho
      have ht:take st (.a (.ref id []))=some (⟨.sl .own e,xs⟩,st.kill id):=by simp [take,hr]
      obtain ⟨X',g,ws,h1,h2,h3,h4,_⟩:=take_spec hI hF hv ht
      refine ⟨X',g,h1,h2.perm List.perm_append_comm,?_⟩
      obtain ⟨pa,len,cap,rfl,hh⟩:=h4
      simp only [valOf,Ty.isAgg] at h3
      have h3:val=.slice pa len cap:=by simpa using h3
      rw [h3]
      exact ⟨pa,len,cap,rfl,hh⟩
     ·cases ho
    | box io=>exact ownAt_spec hI hF hr hv ho
   ·exact ownAt_spec hI hF hr hv ho
 ·cases ho
end
end Go.Rf
namespace Go.Rf
theorem Rows.oneCell {S:Stab}{H:Heap}{e:Ty}:∀ {xs:List e.D}{cs:List Value}{f:List Nat},Rows (Rep S H e) e.size cs xs f→∀ v∈cs.take (xs.length*e.size),v.oneCell'=true:=by
 intro xs
 induction xs with
 | nil=>intro cs f _ v hv;simp at hv
 | cons x xs ih =>
  rintro cs f ⟨f1,f2,rfl,h1,h2⟩ v hv
  have e1:(x::xs).length*e.size=e.size+xs.length*e.size:=by simp [Nat.add_mul];omega
  rw [e1,List.take_add] at hv
  simp only [List.mem_append] at hv
  rcases hv with h | h
  ·exact h1.oneCell v h
  ·exact ih h2 v h
section
variable {P:Program}{C:Cy}{w0 w:World}{G:Blk}{st:St}{a:Act}{S:Stab}{pls:Nat→Pl}{X:Nat→List Nat}
theorem slice_src {S:Stab}{m:Mode}{e:Ty}{val:Value}{xs:List e.D}{fp:List Nat}{tx:Nat}{el:TypeId} (hk:P.underlying tx=some (.slice el)) (hr:Rep S (hp w) (.sl m e) [val] xs fp) :
  ∃ news f2,Src P e.size tx val xs.length news w∧Rows (Rep S (hp w) e) e.size news xs f2∧f2.Sublist fp:=by
 obtain ⟨p,len,cap,hv,hl,hc,hh⟩:=hr
 simp only [List.cons.injEq,and_true] at hv
 subst hv
 rcases hh with ⟨hc0,rfl⟩ | ⟨b,off,c,el',fr,f2,rfl,hb,hsz,hr,h⟩
 ·have hl0:len=0:=by omega
  have hxs:xs=[]:=List.eq_nil_of_length_eq_zero (by omega)
  subst hxs hl0
  refine ⟨[],[],?_,rfl,List.Sublist.refl _⟩
  cases p with
  | none=>exact Src.ofNil w hk cap
  | some q=>exact Src.ofSlice w hk q 0 cap [] (by simp) (by simp) (by simp)
 ·have hfit:off+len*e.size≤c.size:=by
   have:=Nat.mul_le_mul_right e.size hc
   omega
  refine ⟨(c.toList.drop off).take (len*e.size),f2,?_,Rows.congr (by rw [← hl,List.take_take,Nat.min_self]) hr,?_⟩
  ·rw [← hl]
   refine Src.ofSlice w hk ⟨b,off,none⟩ len cap _ (by simp;omega) ?_ ?_
   ·intro j u hj
    rw [addr_add,cell_hp hb]
    rw [List.getElem?_take] at hj
    split at hj
    ·rw [List.getElem?_drop] at hj;simpa using hj
    ·cases hj
   ·have:=Rows.oneCell hr
    rw [← hl] at this
    exact this
  ·rcases h with ⟨_,_,rfl,rfl⟩ | ⟨_,_,rfl⟩
   ·exact List.Sublist.refl _
   ·simp
def SrcRel (P:Program) (S:Stab) (w:World) (tx:Nat) (val:Value) (g:List Nat):Option (Σ e:Ty,List e.D)→Prop
 | none=>g=[]∧∀ sz,Src P sz tx val 0 [] w
 | some ⟨e,xs⟩=>∃ news,Src P e.size tx val xs.length news w∧Rows (Rep S (hp w) e) e.size news xs g
theorem under_slice {tab:Nat→Option Ty} (hT:TabOK P tab){t:Nat}{m:Mode}{s:Ty} (h:tab t=some (.sl m s)):∃ el,P.underlying t=some (.slice el):=by
 obtain ⟨d,hd,hk⟩:=(hT t _ h).desc
 cases e:P.underlying t with
 | none=>simp [e] at hd
 | some d' =>
  simp [e] at hd
  cases d' <;> simp [dk] at hd <;> subst hd <;> simp [descOK] at hk
  exact ⟨_,rfl⟩
theorem under_str {tab:Nat→Option Ty} (hT:TabOK P tab){t:Nat} (h:tab t=some .str):P.underlying t=some .string:=by
 obtain ⟨d,hd,hk⟩:=(hT t _ h).desc
 cases e:P.underlying t with
 | none=>simp [e] at hd
 | some d' =>
  simp [e] at hd
  cases d' <;> simp [dk] at hd <;> subst hd <;> simp [descOK] at hk
  rfl
theorem bytes_rows {S:Stab}{H:Heap} (s:ByteArray):Rows (Rep S H (.int .u8)) 1 (byteCells s) (bytesL s) []:=by
 unfold byteCells bytesL
 generalize s.data.toList=l
 induction l with
 | nil=>rfl
 | cons b l ih=>exact ⟨[],[],rfl,⟨rfl,rfl⟩,ih⟩
theorem src2_spec (hT:TabOK P C.tab) (hI:Inv C.toCx w0 G st a w S pls X){tx:Nat}{tv:TV}{val:Value} (hv:TRel S (hp w) pls st.roots val tv){q:Option (Σ e:Ty,List e.D)}{st':St}
  (ho:src2 C st tx tv=some (q,st')):∃ X' g,Inv C.toCx w0 G st' a w S pls X'∧Free w0 w G S X' g∧SrcRel P S w tx val g q:=by
 unfold src2 at ho
 split at ho
 ·rename_i m s u ht
  cases ho
  obtain ⟨el,hk⟩:=under_slice hT ht
  obtain ⟨vs,e,⟨p,rfl⟩,_⟩:=hv
  have e:val=.slice p 0 0:=by simpa [valOf,Ty.isAgg] using e
  refine ⟨X,[],hI,Free.nil,rfl,fun sz=>?_⟩
  rw [e]
  cases p with
  | none=>exact Src.ofNil w hk 0
  | some q=>exact Src.ofSlice w hk q 0 0 [] (by simp) (by simp) (by simp)
 ·rename_i m s m' e xs ht
  split at ho
  ·cases ho
  ·rename_i hm
   cases ho
   obtain ⟨el,hk⟩:=under_slice hT ht
   obtain ⟨vs,e1,hr⟩:=hv
   have hvs:vs=[val]:=by
    obtain ⟨p,len,cap,rfl,_⟩:=hr
    rw [e1];simp [valOf,Ty.isAgg]
   rw [hvs] at hr
   obtain ⟨news,f2,h1,h2,h3⟩:=slice_src hk hr
   have:f2=[]:=by simpa using h3
   subst this
   exact ⟨X,[],hI,Free.nil,news,h1,h2⟩
 ·rename_i s ht
  cases ho
  have hval:=vstr_inv (pls:=pls) (roots:=st.roots) hv
  rw [hval]
  refine ⟨X,[],hI,Free.nil,byteCells s,?_,bytes_rows s⟩
  have:=Src.ofString (P:=P) w (under_str hT ht) s
  have hl:(bytesL s).length=s.size:=by simp [bytesL]
  rw [hl];exact this
 ·rename_i m s id p ht
  obtain ⟨el,hk⟩:=under_slice hT ht
  split at ho
  ·cases ho
  ·rename_i r hr
   split at ho
   ·rename_i e xs hg
    split at ho
    ·rename_i hp
     cases ho
     obtain ⟨r',hr',σ,y,vs,l,vs',l',g1,g2,g3,g4,g5⟩:=hv
     rw [hr] at hr';cases hr'
     rw [hg] at g1;cases g1
     obtain ⟨f',hrep,_⟩:=(hI.roots id r hr).at g3 g2 hg g4
     have hvs:vs'=[val]:=by
      obtain ⟨p,len,cap,rfl,_⟩:=hrep
      rw [g5];simp [valOf,Ty.isAgg]
     rw [hvs] at hrep
     obtain ⟨news,f2,h1,h2,h3⟩:=slice_src hk hrep
     have hnil:f2=[]:=by
      clear h1 h3 hrep hvs
      revert h2
      generalize (xs:List e.D)=ys
      intro h2
      induction ys generalizing news f2 with
      | nil=>exact h2
      | cons y ys ih =>
       obtain ⟨f1,f3,rfl,k1,k2⟩:=h2
       rw [k1.plain hp,ih _ _ k2];rfl
     subst hnil
     exact ⟨X,[],hI,Free.nil,news,h1,h2⟩
    ·split at ho
     ·rename_i e' xs' st1 ht'
      cases ho
      obtain ⟨X',g,ws,h1,h2,h3,h4,_⟩:=take_spec hI (Free.nil (w0:=w0) (w:=w) (G:=G) (S:=S) (X:=X)) hv ht'
      have hvs:ws=[val]:=by
       obtain ⟨p,len,cap,rfl,_⟩:=h4
       rw [h3];simp [valOf,Ty.isAgg]
      rw [hvs] at h4
      obtain ⟨news,f2,k1,k2,k3⟩:=slice_src hk h4
      exact ⟨X',f2,h1,(h2.sub (by simpa using k3)),news,k1,k2⟩
     ·cases ho
   ·cases ho
 ·cases ho
theorem atTy_rows {S:Stab}{H:Heap}{e σ:Ty}{xs:List e.D}{ys:List σ.D}{cs:List Value}{f:List Nat}{sz:Nat} (h:atTy e σ xs=some ys) (hr:Rows (Rep S H e) sz cs xs f) :
  Rows (Rep S H σ) sz cs ys f∧ys.length=xs.length∧(0<xs.length→e.size=σ.size):=by
 unfold atTy at h
 split at h
 ·rename_i he;subst he;cases h;exact ⟨hr,rfl,fun _=>rfl⟩
 ·refine ⟨coeL_rep h hr,coeL_length h,fun h0=>?_⟩
  cases xs with
  | nil=>simp at h0
  | cons x xs =>
   simp only [coeL] at h
   split at h
   ·rename_i y' ys' e1 e2;exact skel_size_eq (coe0_skel e1)
   ·cases h
theorem Src.size {sz sz':Nat}{tx:Nat}{x:Value}{news:List Value} (h:Src P sz tx x 0 news w):Src P sz' tx x 0 news w:=by
 have h0:news=[]:=List.eq_nil_of_length_eq_zero (by rw [h.newsLen];simp)
 subst h0
 refine ⟨h.kind,h.len,?_,?_,by simp,h.one⟩
 ·have:=h.cells
  cases x <;> simp [Builtin.firstCells] at this ⊢
  rename_i p _ _;cases p <;> simp [Builtin.firstCells,loadCells,loadCellsFrom] at this ⊢
 ·have:=h.cellsD
  cases x <;> simp [Builtin.firstCells] at this ⊢
  rename_i p _ _;cases p <;> simp [Builtin.firstCells,loadCells,loadCellsFrom] at this ⊢
theorem trel_sl {S:Stab}{H:Heap}{pls:Nat→Pl}{roots:Nat→Option Root}{m:Mode}{e:Ty}{v:Value}{av:AV} (h:VRel S H pls roots (valOf (.sl m e) [v]) av):TRel S H pls roots v (.a av):=by
 simpa [valOf,Ty.isAgg,TRel] using h
theorem append_out (hT:TabOK P C.tab) (hI:Inv C.toCx w0 G st a w S pls X){d t tx:Nat}{x y:Operand}{st':St} (hd:d<C.n) (h:appendK C st d t tx x y some=some st'){ty:TypeId}{pos:String}{after:Array Edge}{guard:Option (Nat×Bool)} :
  Out P C.toCx w0 G S a w ⟨some d,.call ⟨.builtin .append,#[x,y],#[t,tx]⟩,ty,pos,after,guard⟩ st':=by
 have hexec:∀ v w',(Builtin.append_ #[t,tx] ty #[a.eval x,a.eval y]).run P w=.ok v w'→(execOp a.eval ⟨some d,.call ⟨.builtin .append,#[x,y],#[t,tx]⟩,ty,pos,after,guard⟩).run P w=.ok (.value v) w':=by
  intro v w' hr
  simp [execOp,resolve,invoke,builtin,hr]
 unfold appendK at h
 split at h
 ·rename_i q2 st1 hs2
  split at h
  ·rename_i q1 st2 ho1
   obtain ⟨X1,g2,k1,k2,k3⟩:=src2_spec hT hI (hI.opnd y) hs2
   obtain ⟨X2,g1,m1,m2,m3⟩:=own1_spec k1 k2 (k1.opnd x) ho1
   split at h
   ·rename_i e xs e' ys m s htab h0
    split at h
    ·rename_i ys' hat
     split at h
     ·rename_i hse
      split at h
      ·rename_i hb
       cases h
       obtain ⟨news,n1,n2⟩:=k3
       obtain ⟨r1,r2,r3⟩:=atTy_rows hat n2
       by_cases hy0:0<ys.length
       ·rw [r3 hy0] at n1 r1
        obtain ⟨v',w',fp',j1,j2,j3,j4⟩:=append_spec hT m1 htab hse m3 m2 n1 r2.symm r1 (by omega) (ty:=ty)
        obtain ⟨i1,i2⟩:=j2.newVal h0 j3 j4
        exact ⟨.value v',w',hexec _ _ j1,.inl ⟨v',_,_,rfl,i1.put (fun d' e=>by cases e;exact hd) (trel_sl i2)⟩⟩
       ·have hy:ys=[]:=List.eq_nil_of_length_eq_zero (by omega)
        subst hy
        have hy':ys'=[]:=List.eq_nil_of_length_eq_zero (by rw [r2];rfl)
        subst hy'
        have hn0:news=[]:=List.eq_nil_of_length_eq_zero (by rw [n1.newsLen];simp)
        subst hn0
        have hg2:g2=[]:=n2
        obtain ⟨v',w',fp',j1,j2,j3,j4⟩:=append_spec hT m1 htab hse m3 m2 (Src.size n1) rfl (by rw [hg2];rfl) (by simpa using hb) (ty:=ty) (ys:=[])
        obtain ⟨i1,i2⟩:=j2.newVal h0 j3 j4
        exact ⟨.value v',w',hexec _ _ j1,.inl ⟨v',_,_,rfl,i1.put (fun d' e=>by cases e;exact hd) (trel_sl i2)⟩⟩
      ·cases h
     ·cases h
    ·cases h
   ·rename_i e' ys m s htab h0
    split at h
    ·rename_i ys' hat
     split at h
     ·rename_i hse
      split at h
      ·rename_i hb
       cases h
       obtain ⟨pa,hx,hg1⟩:=m3
       subst hg1
       have m3:Rep S (hp w) (.sl .own ((C.ann d).getD e')) [a.eval x] [] []:=by
        rw [hx];exact ⟨pa,0,0,rfl,rfl,Nat.le_refl _,.inl ⟨rfl,rfl⟩⟩
       obtain ⟨news,n1,n2⟩:=k3
       obtain ⟨r1,r2,r3⟩:=atTy_rows hat n2
       by_cases hy0:0<ys.length
       ·rw [r3 hy0] at n1 r1
        obtain ⟨v',w',fp',j1,j2,j3,j4⟩:=append_spec hT m1 htab hse m3 m2 n1 r2.symm r1 (by simpa using hb) (ty:=ty)
        obtain ⟨i1,i2⟩:=j2.newVal h0 j3 j4
        exact ⟨.value v',w',hexec _ _ j1,.inl ⟨v',_,_,rfl,i1.put (fun d' e=>by cases e;exact hd) (trel_sl i2)⟩⟩
       ·have hy:ys=[]:=List.eq_nil_of_length_eq_zero (by omega)
        subst hy
        have hy':ys'=[]:=List.eq_nil_of_length_eq_zero (by rw [r2];rfl)
        subst hy'
        have hn0:news=[]:=List.eq_nil_of_length_eq_zero (by rw [n1.newsLen];simp)
        subst hn0
        have hg2:g2=[]:=n2
        obtain ⟨v',w',fp',j1,j2,j3,j4⟩:=append_spec hT m1 htab hse m3 m2 (Src.size n1) rfl (by rw [hg2];rfl) (by simp) (ty:=ty) (ys:=[])
        obtain ⟨i1,i2⟩:=j2.newVal h0 j3 j4
        exact ⟨.value v',w',hexec _ _ j1,.inl ⟨v',_,_,rfl,i1.put (fun d' e=>by cases e;exact hd) (trel_sl i2)⟩⟩
      ·cases h
     ·cases h
    ·cases h
   ·cases h
  ·cases h
 ·cases h
end
end Go.Rf
namespace Go.Rf
section
variable {R:Type}
theorem binK_bind (op:BinOp) (x y:AV) (K:TV→Option R):binK op x y K=(binK op x y some).bind K:=by
 unfold binK
 repeat' split
 all_goals first | rfl | simp
theorem unK_bind (op:UnOp) (x:AV) (K:TV→Option R):unK op x K=(unK op x some).bind K:=by
 unfold unK
 repeat' split
 all_goals first | rfl | simp
theorem lenK_bind (C:Cx) (st:St) (t:Nat) (x:AV) (K:TV→Option R):lenK C st t x K=(lenK C st t x some).bind K:=by
 unfold lenK
 repeat' split
 all_goals first | rfl | simp
theorem sliceK_bind (C:Cx) (st:St) (t:Nat) (x:Operand) (lo hi:Option Operand) (K:TV→Option R):sliceK C st t x lo hi K=(sliceK C st t x lo hi some).bind K:=by
 unfold sliceK
 repeat' split
 all_goals first | rfl | simp
theorem pureK_bind (C:Cx) (st:St) (op:Op) (K:TV→Option R):pureK C st op K=(pureK C st op some).bind K:=by
 unfold pureK
 split
 case h_6 =>
  split
  ·unfold aggK
   split
   ·split
    ·split
     ·split <;> rfl
     ·rfl
    ·rfl
   ·split
    ·split <;> rfl
    ·rfl
   ·rfl
  ·unfold aggK
   split
   ·split
    ·split
     ·split <;> rfl
     ·rfl
    ·rfl
   ·split
    ·split <;> rfl
    ·rfl
   ·rfl
  ·exact binK_bind _ _ _ _
  ·rfl
 case h_7=>split;exact unK_bind _ _ _;rfl
 case h_13=>split;rfl;exact sliceK_bind _ _ _ _ _ _ _
 case h_15 =>
  split
  ·split
   ·exact lenK_bind _ _ _ _ _
   ·rfl
  ·split
   ·split <;> rfl
   ·rfl
  ·split
   ·split <;> rfl
   ·rfl
  ·rfl
 all_goals
  repeat' split
  all_goals first | rfl | simp
theorem mkV_bind (st:St) (d:Nat) (q:Σ τ:Ty,τ.D) (K:St→Option R):mkV st d q K=(mkV st d q some).bind K:=by
 unfold mkV
 repeat' split
 all_goals first | rfl | simp
theorem appendK_bind (C:Cy) (st:St) (d:Nat) (t ty:Nat) (x y:Operand) (K:St→Option R):appendK C st d t ty x y K=(appendK C st d t ty x y some).bind K:=by
 unfold appendK
 repeat' split
 all_goals first | rfl | simp
theorem buildSliceK_bind (C:Cy) (st:St) (d:Nat) (t n:Nat) (parts:List (Nat×Operand)) (K:St→Option R):buildSliceK C st d t n parts K=(buildSliceK C st d t n parts some).bind K:=by
 unfold buildSliceK
 repeat' split
 all_goals first | rfl | simp
theorem makeSliceK_bind (C:Cy) (st:St) (d:Nat) (t:Nat) (len cap:Operand) (K:St→Option R):makeSliceK C st d t len cap K=(makeSliceK C st d t len cap some).bind K:=by
 unfold makeSliceK
 repeat' split
 all_goals first | rfl | simp
theorem storeK_bind (C:Cy) (st:St) (t:Nat) (addr val:Operand) (K:St→Option R):storeK C st t addr val K=(storeK C st t addr val some).bind K:=by
 unfold storeK
 repeat' split
 all_goals first | rfl | simp
theorem boxK_bind (C:Cy) (st:St) (d:Nat) (t:Nat) (x:Operand) (K:St→Option R):boxK C st d t x K=(boxK C st d t x some).bind K:=by
 unfold boxK
 repeat' split
 all_goals first | rfl | simp
theorem allocK_bind (C:Cy) (st:St) (d:Nat) (t:Nat) (K:St→Option R):allocK C st d t K=(allocK C st d t some).bind K:=by
 unfold allocK
 repeat' split
 all_goals first | rfl | simp
theorem buildK_bind (C:Cy) (st:St) (d:Nat) (t:Nat) (parts:List (Nat×Operand)) (K:St→Option R):buildK C st d t parts K=(buildK C st d t parts some).bind K:=by
 unfold buildK
 repeat' split
 all_goals first | rfl | exact mkV_bind _ _ _ _
end
end Go.Rf
namespace Go.Rf
section
variable {P:Program}{C:Cx}{w0 w w':World}{G:Blk}{st st':St}{a a':Act}{S S':Stab}{pls pls':Nat→Pl}{X X':Nat→List Nat}
def owned (G:Blk) (X:Nat→List Nat):Blk:=⟨fun b=>∃ id,b∈X id,G.z⟩
theorem Inv.here (hI:Inv C w0 G st a w S pls X):Inv C w (owned G X) st a w S pls X :=
 ⟨⟨rfl,rfl,rfl,Nat.le_refl _,fun _ _ _=>rfl⟩,hI.stab,hI.kl,fun id b hb=>⟨(hI.own id b hb).1,(hI.own id b hb).2.1,.inr ⟨id,hb⟩⟩,hI.nd,hI.dis,hI.roots,hI.tmps,hI.size,hI.defers,hI.glb,hI.pin⟩
theorem Inv.back (hI:Inv C w0 G st a w S pls X) (hI':Inv C w (owned G X) st' a' w' S' pls' X'):Inv C w0 G st' a' w' S' pls' X':=by
 have key:∀ b,w.heap.size≤b∨b∈owned G X→w0.heap.size≤b∨b∈G:=by
  rintro b (h | ⟨id,h⟩)
  ·exact .inl (Nat.le_trans hI.frm.size h)
  ·exact (hI.own id b h).2.2
 refine ⟨⟨hI'.frm.os.trans hI.frm.os,hI'.frm.tape.trans hI.frm.tape,hI'.frm.output.trans hI.frm.output,Nat.le_trans hI.frm.size hI'.frm.size,fun b hb hG=>?_⟩,hI'.stab,hI'.kl,
  fun id b hb=>⟨(hI'.own id b hb).1,(hI'.own id b hb).2.1,key b (hI'.own id b hb).2.2⟩,hI'.nd,hI'.dis,hI'.roots,hI'.tmps,hI'.size,hI'.defers,hI'.glb,hI'.pin⟩
 rw [hI'.frm.block b (Nat.lt_of_lt_of_le hb hI.frm.size) ?_]
 ·exact hI.frm.block b hb hG
 ·intro ho
  rcases key b (.inr ho) with h | h
  ·omega
  ·exact hG h
theorem Inv.still (hI:Inv C w0 G st a w S pls X) (hI':Frm w w' (owned G X)):∀ m b,S m b→hp w' b=hp w b:=by
 intro m b hb
 refine hI'.block b (hI.stab m b hb) ?_
 rintro ⟨id,h⟩
 exact (hI.own id b h).2.1 m hb
structure Grows (w0:World) (G:Blk) (S S':Stab) (w w':World):Prop where
 more:∀ m b,S m b→S' m b
 still:∀ m b,S m b→hp w' b=hp w b
 new:∀ b,S' .keep b→S .keep b∨w0.heap.size≤b∨b∈G
 any:∀ m b,S' m b→(∃ m',S m' b)∨w0.heap.size≤b∨b∈G
theorem Grows.refl:Grows w0 G S S w w:=⟨fun _ _ h=>h,fun _ _ _=>rfl,fun _ h=>.inl h,fun m _ h=>.inl ⟨m,h⟩⟩
theorem Grows.trans {S2:Stab}{w2:World} (h:Grows w0 G S S' w w') (k:Grows w0 G S' S2 w' w2):Grows w0 G S S2 w w2 :=
 ⟨fun m b hb=>k.more m b (h.more m b hb),fun m b hb=>(k.still m b (h.more m b hb)).trans (h.still m b hb),
  fun b hb=>(k.new b hb).elim (h.new b) .inr,fun m b hb=>(k.any m b hb).elim (fun ⟨m',hm⟩=>h.any m' b hm) .inr⟩
def Fits (C:Cx) (w0:World) (G:Blk) (S:Stab) (w:World) (st':St) (a':Act) (w':World):Prop :=
 ∃ S' pls' X',Inv C w0 G st' a' w' S' pls' X'∧Grows w0 G S S' w w'
def Done (P:Program) (C:Cx) (w0:World) (G:Blk) (S:Stab) (a:Act) (w:World) (o:Oper) (st':St):Prop :=
 ∀ (K:Act→World→Prop) (Q:Exit→Act→World→Prop),(∀ v w',Fits C w0 G S w st' (a.put o.dst v) w'→K (a.put o.dst v) w')→o.wp P a w K Q
theorem Out.done {o:Oper} (hI:Inv C w0 G st a w S pls X) (h:Out P C w (owned G X) S a w o st'):Done P C w0 G S a w o st':=by
 obtain ⟨n,w',hr,h⟩:=h
 intro K Q hK
 rcases h with ⟨v,pls',X',rfl,h⟩ | ⟨pls',X',rfl,h⟩
 ·simp only [Oper.wp,hr,Oper.upon]
  exact hK v w' ⟨S,pls',X',hI.back h,⟨fun _ _ h=>h,hI.still h.frm,fun _ h=>.inl h,fun m _ h=>.inl ⟨m,h⟩⟩⟩
 ·simp only [Oper.wp,hr,Oper.upon]
  exact hK undef w' ⟨S,pls',X',hI.back h,⟨fun _ _ h=>h,hI.still h.frm,fun _ h=>.inl h,fun m _ h=>.inl ⟨m,h⟩⟩⟩
end
end Go.Rf
namespace Go.Rf
@[reducible] def LD:List Ty→Type
 | []=>Unit
 | τ::l=>τ.D×LD l
structure Fn where
 ps:List Ty
 rs:List Ty
 F:LD ps→Option (LD rs)
def ArgsRel (S:Stab) (H:Heap):(ps:List Ty)→List Value→LD ps→List Nat→Prop
 | [],[],_,fp=>fp=[]
 | τ::ps,v::vs,x,fp=>∃ ws f1 f2,v=valOf τ ws∧Rep S H τ ws x.1 f1∧fp=f1++f2∧ArgsRel S H ps vs x.2 f2
 | _,_,_,_=>False
def retVal:List Value→Value
 | [v]=>v
 | vs=>.tuple vs.toArray
structure Ctr (P:Program) (V:Glb) (fid:Nat) (f:Fn):Prop where
 enters:∀ args w,(callFunc fid args).run P w=.ok (.enter fid args) w
 calls:∀ (w:World) (S:Stab) (args:LD f.ps) (vals:List Value) (fp:List Nat) (r:LD f.rs),
  (∀ m b,S m b→b<w.heap.size)→(∀ b,S .keep b→S .lend b)→((∀ b,b<V.n→S .lend b)∧V.holds w)→ArgsRel S (hp w) f.ps vals args fp→fp.Nodup→(∀ b∈fp,b<w.heap.size∧∀ m,¬ S m b)→f.F args=some r →
  Calls P fid vals.toArray w fun e w'=>∃ rv T g,e=.returned (retVal rv)∧Frm w w' (Blk.of fun b=>b∈fp)∧ArgsRel (fun _=>T) (hp w') f.rs rv r g ∧
   (∀ b,T b→b<w'.heap.size∧(S .keep b∨w.heap.size≤b∨b∈fp))∧g.Nodup∧(∀ b∈g,b<w'.heap.size∧¬ T b∧(w.heap.size≤b∨b∈fp))
def lendTo (q:Σ τ:Ty,τ.D) (σ:Ty):Option σ.D:=coe0 (q.1.share .lend) σ ((Ty.share_D .lend q.1).mpr q.2)
def plainV (st:St) (tv:TV) (σ:Ty):Option σ.D :=
 match tv with
 | .a (.v τ x)=>if τ.plain=true then (match coe0 τ σ x with
  | some y=>some y
  | none=>lendTo ⟨τ,x⟩ σ) else none
 | .a (.ref id p)=>match st.roots id with
  | some r=>match getP p r.τ r.x with
   | some q=>lendTo q σ
   | none=>none
  | none=>none
 | _=>none
def takeArgs (st:St):List Operand→List Ty→Option (List (Option (Σ τ:Ty,τ.D))×St)
 | [],[]=>some ([],st)
 | o::os,σ::ps=>if σ.plain=true then (match takeArgs st os ps with
   | some (l,st1)=>some (none::l,st1)
   | none=>none)
  else match take st (opnd st o) with
   | some (q,st1)=>match takeArgs st1 os ps with
    | some (l,st2)=>some (some q::l,st2)
    | none=>none
   | none=>none
 | _,_=>none
def mkArgs (st:St):List Operand→List (Option (Σ τ:Ty,τ.D))→(ps:List Ty)→Option (LD ps)
 | [],[],[]=>some ()
 | o::os,q::qs,σ::ps=>match (match q with
   | some q=>coe0 q.1 σ q.2
   | none=>plainV st (opnd st o) σ),mkArgs st os qs ps with
  | some x,some xs=>some (x,xs)
  | _,_=>none
 | _,_,_=>none
theorem share_agg (m:Mode) (τ:Ty):(τ.share m).isAgg=τ.isAgg:=by cases τ <;> rfl
def SL (S:Stab) (X:Nat→List Nat):Stab:=fun m b=>S m b∨(m=.lend∧∃ id,b∈X id)
section
variable {P:Program}{C:Cx}{w0 w w':World}{G:Blk}{st st':St}{a:Act}{S:Stab}{pls:Nat→Pl}{X:Nat→List Nat}
theorem lendTo_rep (hI:Inv C w0 G st a w S pls X){q:Σ τ:Ty,τ.D}{σ:Ty}{y:σ.D}{vs:List Value}{f:List Nat} (hr:Rep S (hp w) q.1 vs q.2 f) (hf:∀ b∈f,∃ id,b∈X id) (h:lendTo q σ=some y) :
  valOf q.1 vs=valOf σ vs∧Rep (SL S X) (hp w) σ vs y []:=by
 have h1:=hr.shareS (m:=.lend) (by simp) hI.kl
 have h2:=coe0_rep h h1
 refine ⟨(valOf_like (by rw [← skel_agg (coe0_skel h),share_agg])),Rep.stab ?_ h2⟩
 rintro m b (h | ⟨h,h'⟩)
 ·exact .inl h
 ·exact .inr ⟨by simpa using h',hf b h⟩
theorem plainV_spec (hI:Inv C w0 G st a w S pls X){tv:TV}{val:Value} (hv:TRel S (hp w) pls st.roots val tv){σ:Ty}{y:σ.D} (h:plainV st tv σ=some y) :
  ∃ ws,val=valOf σ ws∧Rep (SL S X) (hp w) σ ws y []:=by
 unfold plainV at h
 split at h
 ·rename_i τ x
  obtain ⟨ws,e,hr⟩:=hv
  split at h
  ·split at h
   ·rename_i y' hc
    cases h
    exact ⟨ws,by rw [e,valOf_like (skel_agg (coe0_skel hc))],Rep.stab (fun _ _ h=>.inl h) (coe0_rep hc hr)⟩
   ·obtain ⟨h1,h2⟩:=lendTo_rep hI (q:=⟨τ,x⟩) hr (by simp) h
    exact ⟨ws,by rw [e];exact h1,h2⟩
  ·cases h
 ·rename_i id p
  split at h
  ·rename_i r hr
   split at h
   ·rename_i q hg
    obtain ⟨r',hr',σ',y',vs,l,vs',l',g1,g2,g3,g4,g5⟩:=hv
    rw [hr] at hr';cases hr'
    rw [hg] at g1;cases g1
    obtain ⟨f',hrep,hf⟩:=(hI.roots id r hr).at g3 g2 hg g4
    obtain ⟨h1,h2⟩:=lendTo_rep hI (q:=⟨σ',y'⟩) hrep (fun b hb=>⟨id,hf b hb⟩) h
    exact ⟨vs',by rw [g5];exact h1,h2⟩
   ·cases h
  ·cases h
 ·cases h
def TookRel (S:Stab) (H:Heap):List Value→List (Option (Σ τ:Ty,τ.D))→List Nat→Prop
 | [],[],fp=>fp=[]
 | v::vs,some q::qs,fp=>∃ ws f1 f2,v=valOf q.1 ws∧Rep S H q.1 ws q.2 f1∧fp=f1++f2∧TookRel S H vs qs f2
 | _::vs,none::qs,fp=>TookRel S H vs qs fp
 | _,_,_=>False
theorem takeArgs_spec:∀ (os:List Operand) (ps:List Ty){st st':St}{X:Nat→List Nat}{h:List Nat}{qs:List (Option (Σ τ:Ty,τ.D))},Inv C w0 G st a w S pls X→Free w0 w G S X h →
  takeArgs st os ps=some (qs,st')→∃ X' g,Inv C w0 G st' a w S pls X'∧Free w0 w G S X' (h++g)∧TookRel S (hp w) (os.map a.eval) qs g:=by
 intro os
 induction os with
 | nil =>
  intro ps st st' X h qs hI hF ht
  cases ps with
  | nil=>simp only [takeArgs,sI,Prod.mk.injEq] at ht;obtain ⟨rfl,rfl⟩:=ht;exact ⟨X,[],hI,by simpa using hF,rfl⟩
  | cons _ _=>simp [takeArgs] at ht
 | cons o os ih =>
  intro ps st st' X h qs hI hF ht
  cases ps with
  | nil=>simp [takeArgs] at ht
  | cons σ ps =>
   simp only [takeArgs] at ht
   split at ht
   ·split at ht
    ·rename_i l st1 h1
     cases ht
     obtain ⟨X',g,k1,k2,k3⟩:=ih ps hI hF h1
     exact ⟨X',g,k1,k2,k3⟩
    ·cases ht
   ·split at ht
    ·rename_i q st1 h1
     split at ht
     ·rename_i l st2 h2
      cases ht
      obtain ⟨X1,g1,ws,m1,m2,m3,m4,_⟩:=take_spec hI hF (hI.opnd o) h1
      obtain ⟨X',g,k1,k2,k3⟩:=ih ps m1 m2 h2
      exact ⟨X',g1++g,k1,by simpa using k2,ws,g1,g,m3,m4,rfl,k3⟩
     ·cases ht
    ·cases ht
theorem mkArgs_spec (hI:Inv C w0 G st a w S pls X):∀ (os:List Operand) (qs:List (Option (Σ τ:Ty,τ.D))) (ps:List Ty){g:List Nat}{xs:LD ps},TookRel S (hp w) (os.map a.eval) qs g →
  mkArgs st os qs ps=some xs→ArgsRel (SL S X) (hp w) ps (os.map a.eval) xs g:=by
 intro os
 induction os with
 | nil =>
  intro qs ps g xs ht hm
  cases qs with
  | nil=>cases ps with
   | nil=>exact ht
   | cons _ _=>simp [mkArgs] at hm
  | cons _ _=>simp [TookRel] at ht
 | cons o os ih =>
  intro qs ps g xs ht hm
  cases qs with
  | nil=>simp [mkArgs] at hm
  | cons q qs =>
   cases ps with
   | nil=>simp [mkArgs] at hm
   | cons σ ps =>
    simp only [mkArgs] at hm
    split at hm
    ·rename_i x xs' h1 h2
     cases hm
     cases q with
     | none =>
      simp only at h1
      obtain ⟨ws,e,hr⟩:=plainV_spec hI (hI.opnd o) h1
      exact ⟨ws,[],g,e,hr,rfl,ih qs ps ht h2⟩
     | some q =>
      simp only at h1
      obtain ⟨ws,f1,f2,e,hr,rfl,ht⟩:=ht
      exact ⟨ws,f1,f2,by rw [← valOf_like (skel_agg (coe0_skel h1))];exact e,Rep.stab (fun _ _ h=>.inl h) (coe0_rep h1 hr),rfl,ih qs ps ht h2⟩
    ·cases hm
theorem Inv.after (hI:Inv C w0 G st a w S pls X){g:List Nat} (hF:Free w0 w G S X g) (hfr:Frm w w' (Blk.of fun b=>b∈g)){T:Nat→Prop}
  (hT:∀ b,T b→b<w'.heap.size∧(SL S X .keep b∨w.heap.size≤b∨b∈g)):Inv C w0 G st a w' (fun m b=>S m b∨T b) pls X:=by
 have hS:∀ m b,S m b→hp w' b=hp w b:=fun m b h=>hfr.block b (hI.stab m b h) (fun hb=>(hF.ok b hb).2.1 m h)
 have hX:∀ id,∀ b∈X id,hp w' b=hp w b:=fun id b h=>hfr.block b (hI.own id b h).1 (fun hb=>hF.dis id b hb h)
 refine { kl:=?_,size:=hI.size,defers:=hI.defers,glb:=glb_of (w:=w) (w':=w') (S':=fun m b=>S m b∨T b) hS (fun _ _ h=>Or.inl h) hI.glb,pin:=hI.pin,nd:=hI.nd,dis:=hI.dis,frm:=?_,stab:=?_,own:=?_,roots:=?_,tmps:=?_ }
 ·refine ⟨hfr.os.trans hI.frm.os,hfr.tape.trans hI.frm.tape,hfr.output.trans hI.frm.output,Nat.le_trans hI.frm.size hfr.size,fun b hb hG=>?_⟩
  rw [hfr.block b (Nat.lt_of_lt_of_le hb hI.frm.size) ?_]
  ·exact hI.frm.block b hb hG
  ·intro hg
   rcases (hF.ok b hg).2.2 with h | h
   ·omega
   ·exact hG h
 ·rintro m b (h | h)
  ·exact Nat.lt_of_lt_of_le (hI.stab m b h) hfr.size
  ·exact (hT b h).1
 ·rintro b (h | h)
  ·exact .inl (hI.kl b h)
  ·exact .inr h
 ·intro id b h
  obtain ⟨h1,h2,h3⟩:=hI.own id b h
  refine ⟨Nat.lt_of_lt_of_le h1 hfr.size,?_,h3⟩
  rintro m (h' | h')
  ·exact h2 m h'
  ·rcases (hT b h').2 with (h'' | ⟨h'',_⟩) | h'' | h''
   ·exact h2 _ h''
   ·cases h''
   ·omega
   ·exact hF.dis id b h'' h
 ·intro id r hr
  have h:=hI.roots id r hr
  obtain ⟨k,τ,x⟩:=r
  cases k <;> cases hpl:pls id <;> rw [hpl] at h <;> simp only [RootRel] at h ⊢
  ·obtain ⟨vs,l,fp,h1,h2,h3⟩:=h
   refine ⟨vs,l,fp,h1.heap (fun B o' e=>hX id B ?_),(h2.heap hS (fun b hb=>hX id b (by rw [h3];simp [hb]))).stab (fun _ _ h=>.inl h),h3⟩
   obtain ⟨_,_,rfl,_⟩:=h1
   simp only [sI,Prod.mk.injEq] at e
   rw [h3];simp [e.1]
  ·exact (h.heap hS (hX id)).stab (fun _ _ h=>.inl h)
 ·intro t
  exact TRel.heap hI.roots hS (fun _ _ h=>.inl h) (fun id _=>⟨rfl,rfl,hX id⟩) (hI.tmps t)
end
section
variable {R:Type}
def tupV:(rs:List Ty)→LD rs→List AV
 | [],_=>[]
 | τ::rs,x=>.v τ x.1::tupV rs x.2
def resK (st:St) (dst:Option Nat):(rs:List Ty)→LD rs→(St→Option R)→Option R
 | [],_,K=>K (st.put dst (.a .junk))
 | [τ],x,K=>match dst with
  | some d=>mkV st d ⟨τ,x.1⟩ K
  | none=>K st
 | τ::σ::rs,x,K=>if (τ::σ::rs).all Ty.plain=true then K (st.put dst (.tup (tupV (τ::σ::rs) x))) else none
def callK (fn:Nat→Option Fn) (st:St) (dst:Option Nat) (callee:Callee) (args:List Operand) (K:St→Option R):Option R :=
 match callee with
 | .value (.func fid)=>match fn fid with
  | some f=>match takeArgs st args f.ps with
   | some (qs,st1)=>match mkArgs st1 args qs f.ps with
    | some xs=>(f.F xs).bind fun r=>resK st1 dst f.rs r K
    | none=>none
   | none=>none
  | none=>none
 | _=>none
theorem resK_bind (st:St) (dst:Option Nat) (rs:List Ty) (x:LD rs) (K:St→Option R):resK st dst rs x K=(resK st dst rs x some).bind K:=by
 unfold resK
 split
 ·rfl
 ·split
  ·exact mkV_bind _ _ _ _
  ·rfl
 ·split
  ·rfl
  ·rfl
theorem callK_bind (fn:Nat→Option Fn) (st:St) (dst:Option Nat) (callee:Callee) (args:List Operand) (K:St→Option R):callK fn st dst callee args K=(callK fn st dst callee args some).bind K:=by
 unfold callK
 split
 ·split
  ·split
   ·split
    ·rename_i f _ _ _ _ _ xs _
     rw [Option.bind_assoc]
     congr 1
     funext r
     exact resK_bind _ _ _ _ _
    ·rfl
   ·rfl
  ·rfl
 ·rfl
end
section
variable {P:Program}{C:Cx}{w0 w w':World}{G:Blk}{st st':St}{a:Act}{S:Stab}{pls:Nat→Pl}{X:Nat→List Nat}
theorem tupV_rel {H:Heap}{roots:Nat→Option Root}:∀ {rs:List Ty}{rv:List Value}{x:LD rs}{g:List Nat},rs.all Ty.plain=true→ArgsRel S H rs rv x g→(∀ τ∈rs,τ.isAgg=false∨True)→LRel S H pls roots rv (tupV rs x)∧g=[]:=by
 intro rs
 induction rs with
 | nil =>
  intro rv x g _ h _
  cases rv with
  | nil=>exact ⟨trivial,h⟩
  | cons _ _=>simp [ArgsRel] at h
 | cons τ rs ih =>
  intro rv x g hp h _
  cases rv with
  | nil=>simp [ArgsRel] at h
  | cons v rv =>
   simp only [List.all_cons,bA] at hp
   obtain ⟨ws,f1,f2,e,hr,rfl,h⟩:=h
   have hf:=hr.plain hp.1
   subst hf
   obtain ⟨k1,k2⟩:=ih hp.2 h (fun _ _=>.inr trivial)
   exact ⟨⟨⟨ws,e,hr⟩,k1⟩,by simpa using k2⟩
theorem ArgsRel.stab {S S':Stab}{H:Heap} (hS:∀ m b,S m b→S' m b):∀ {rs:List Ty}{rv:List Value}{x:LD rs}{g:List Nat},ArgsRel S H rs rv x g→ArgsRel S' H rs rv x g:=by
 intro rs
 induction rs with
 | nil=>intro rv x g h;cases rv <;> exact h
 | cons τ rs ih =>
  intro rv x g h
  cases rv with
  | nil=>exact h
  | cons v rv=>obtain ⟨ws,f1,f2,e,hr,rfl,h⟩:=h;exact ⟨ws,f1,f2,e,hr.stab hS,rfl,ih h⟩
theorem ArgsRel.length {S:Stab}{H:Heap}:∀ {rs:List Ty}{rv:List Value}{x:LD rs}{g:List Nat},ArgsRel S H rs rv x g→rv.length=rs.length:=by
 intro rs
 induction rs with
 | nil=>intro rv x g h;cases rv <;> simp_all [ArgsRel]
 | cons τ rs ih =>
  intro rv x g h
  cases rv with
  | nil=>simp [ArgsRel] at h
  | cons v rv=>obtain ⟨ws,f1,f2,e,hr,rfl,h⟩:=h;simp [ih h]
theorem retVal_two {v u:Value}{l:List Value}:retVal (v::u::l)=.tuple (v::u::l).toArray:=rfl
theorem resK_spec {Cc:Cx} (hI:Inv Cc w0 G st a w S pls X){dst:Option Nat} (hd:∀ d,dst=some d→d<Cc.n){rs:List Ty}{x:LD rs}{rv:List Value}{g:List Nat} (hr:ArgsRel S (hp w) rs rv x g) (hF:Free w0 w G S X g)
  (h:resK st dst rs x some=some st'):∃ pls' X',Inv Cc w0 G st' (a.put dst (retVal rv)) w S pls' X':=by
 unfold resK at h
 split at h
 ·cases h
  exact ⟨pls,X,hI.put hd trivial⟩
 ·rename_i τ x
  match rv,hr with
  | [v],hr =>
   obtain ⟨ws,f1,f2,e,hr2,rfl,h2⟩:=hr
   have h2:f2=[]:=h2
   subst h2
   split at h
   ·rename_i d
    obtain ⟨pls',X',k⟩:=mkV_out (C:=⟨Cc,fun _=>none⟩) h (hd d rfl) hI hr2 (by simpa using hF)
    refine ⟨pls',X',?_⟩
    rw [← e] at k
    exact k
   ·cases h
    exact ⟨pls,X,hI⟩
 ·rename_i τ σ rs x
  split at h
  ·rename_i hp
   cases h
   obtain ⟨k1,k2⟩:=tupV_rel (pls:=pls) (roots:=st.roots) hp hr (fun _ _=>.inr trivial)
   have hl:=hr.length
   match rv,hl with
   | v::u::l,_=>exact ⟨pls,X,hI.put hd ⟨_,retVal_two,k1⟩⟩
  ·cases h
theorem call_done {Cc:Cx}{fn:Nat→Option Fn} (hf:∀ fid f,fn fid=some f→Ctr P Cc.V fid f) (hI:Inv Cc w0 G st a w S pls X){dst:Option Nat} (hd:∀ d,dst=some d→d<Cc.n)
  {callee:Callee}{args:Array Operand}{argTypes:Array TypeId}{st':St} (h:callK fn st dst callee args.toList some=some st'){ty:TypeId}{pos:String}{after:Array Edge}{guard:Option (Nat×Bool)} :
  Done P Cc w0 G S a w ⟨dst,.call ⟨callee,args,argTypes⟩,ty,pos,after,guard⟩ st':=by
 unfold callK at h
 split at h
 ·rename_i fid
  split at h
  ·rename_i f hfid
   split at h
   ·rename_i qs st1 ht
    split at h
    ·rename_i xs hm
     obtain ⟨r,hr,h⟩:=Option.bind_eq_some_iff.1 h
     obtain ⟨X1,g,k1,k2,k3⟩:=takeArgs_spec _ _ hI (Free.nil (w0:=w0) (w:=w) (G:=G) (S:=S) (X:=X)) ht
     simp only [List.nil_append] at k2
     have ha:=mkArgs_spec k1 _ _ _ k3 hm
     have hc:=hf fid f hfid
     intro K Q hK
     have hexec:(execOp a.eval ⟨dst,.call ⟨.value (.func fid),args,argTypes⟩,ty,pos,after,guard⟩).run P w=.ok (.enter fid (args.toList.map a.eval).toArray) w:=by
      have e:(args.map a.eval)=(args.toList.map a.eval).toArray:=by apply Array.ext';simp
      simp [execOp,resolve,invoke,Act.eval,Deferred.ofValue,hc.enters]
      exact e
     simp only [Oper.wp,hexec,Oper.upon]
     refine (hc.calls w (SL S X1) xs _ g r ?_ ?_ ⟨fun b hb=>.inl (k1.glb.1 b hb),k1.glb.2⟩ ha k2.nd ?_ hr).mono ?_
     ·rintro m b (h | ⟨_,id,h⟩)
      ·exact hI.stab m b h
      ·exact (k1.own id b h).1
     ·rintro b (h | ⟨h,_⟩)
      ·exact .inl (hI.kl b h)
      ·cases h
     ·intro b hb
      refine ⟨(k2.ok b hb).1,?_⟩
      rintro m (h | ⟨_,id,h⟩)
      ·exact (k2.ok b hb).2.1 m h
      ·exact k2.dis id b hb h
     ·rintro e w' ⟨rv,T,g',rfl,h1,h2,h3,h4,h5⟩
      have hI':=k1.after k2 h1 h3
      have h2':ArgsRel (fun m b=>S m b∨T b) (hp w') f.rs rv r g':=h2.stab (fun _ _ h=>.inr h)
      have hF':Free w0 w' G (fun m b=>S m b∨T b) X1 g':=by
       refine ⟨fun b hb=>?_,h4,fun i b hb hX=>?_⟩
       ·obtain ⟨m1,m2,m3⟩:=h5 b hb
        refine ⟨m1,?_,?_⟩
        ·rintro m (h' | h')
         ·have hlt:=hI.stab m b h'
          rcases m3 with m3 | m3
          ·omega
          ·exact (k2.ok b m3).2.1 m h'
         ·exact m2 h'
        ·rcases m3 with m3 | m3
         ·exact .inl (Nat.le_trans hI.frm.size m3)
         ·exact (k2.ok b m3).2.2
       ·obtain ⟨m1,m2,m3⟩:=h5 b hb
        have hlt:=(k1.own i b hX).1
        rcases m3 with m3 | m3
        ·omega
        ·exact k2.dis i b m3 hX
      obtain ⟨pls',X',hfin⟩:=resK_spec hI' hd h2' hF' h
      refine hK (retVal rv) w' ⟨_,pls',X',hfin,fun _ _ h=>.inl h,fun m b h=>?_,?_,?_⟩
      ·exact h1.block b (hI.stab m b h) (fun hb=>(k2.ok b hb).2.1 m h)
      ·rintro b (h | h)
       ·exact .inl h
       ·rcases (h3 b h).2 with (h' | ⟨h',_⟩) | h' | h'
        ·exact .inl h'
        ·cases h'
        ·exact .inr (.inl (Nat.le_trans hI.frm.size h'))
        ·exact .inr (k2.ok b h').2.2
      ·rintro m b (h | h)
       ·exact .inl ⟨m,h⟩
       ·rcases (h3 b h).2 with (h' | ⟨h',_⟩) | h' | h'
        ·exact .inl ⟨_,h'⟩
        ·cases h'
        ·exact .inr (.inl (Nat.le_trans hI.frm.size h'))
        ·exact .inr (k2.ok b h').2.2
    ·cases h
   ·cases h
  ·cases h
 ·cases h
end
end Go.Rf
