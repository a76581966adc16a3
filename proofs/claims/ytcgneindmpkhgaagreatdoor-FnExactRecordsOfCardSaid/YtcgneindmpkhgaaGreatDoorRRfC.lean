/-
  A symbolic evaluator of the model's code, third part: regions, in order and drawn; of whatever program.
-/
import Derived.Test.YtcgneindmpkhgaaGreatDoorRRfB
import Derived.OrdersHeld
set_option linter.unusedSimpArgs false
set_option linter.unusedVariables false
set_option autoImplicit false
namespace Go.Rf
structure Plc where
 B:Nat
 pre:List Value
 post:List Value
 el:Nat
 fr:Nat×Nat
 hd:Option (Bool×List Value)
def Plc.ptr (q:Plc):Value :=
 match q.hd with
 | none=>.pointer (some ⟨q.B,q.pre.length,none⟩)
 | some v=>if v.1=true then .agg v.2.toArray else v.2.headD undef
def HeldAt (S:Stab) (H:Heap) (τ:Ty) (q:Plc) (x:τ.D) (f:List Nat):Prop :=
 match q.hd with
 | none=>∃ ws f1,H q.B=some (.cells (q.pre++ws++q.post).toArray q.el q.fr)∧Soft q.fr (q.pre++ws++q.post).length∧Rep S H τ ws x f1∧f=q.B::f1
 | some v=>Rep S H τ v.2 x f∧τ.isAgg=v.1
theorem HeldAt.heap {S S':Stab}{H H':Heap}{τ:Ty}{q:Plc}{x:τ.D}{f:List Nat} (hS:∀ m b,S m b→S' m b) (hH:∀ m b,S m b→H' b=H b) (hf:∀ b∈f,H' b=H b)
  (h:HeldAt S H τ q x f):HeldAt S' H' τ q x f:=by
 obtain ⟨B,pre,post,el,fr,hd⟩:=q
 cases hd with
 | none =>
  obtain ⟨ws,f1,h1,h2,h3,rfl⟩:=h
  exact ⟨ws,f1,by simp only;rw [hf B (by simp)];exact h1,h2,(h3.heap hH (fun b hb=>hf b (by simp [hb]))).stab hS,rfl⟩
 | some v=>exact ⟨(h.1.heap hH hf).stab hS,h.2⟩
theorem HeldAt.stab {S S':Stab}{H:Heap}{τ:Ty}{q:Plc}{x:τ.D}{f:List Nat} (hS:∀ m b,S m b→S' m b) (h:HeldAt S H τ q x f):HeldAt S' H τ q x f :=
 h.heap hS (fun _ _ _=>rfl) (fun _ _=>rfl)
structure Lent where
 id:Nat
 p:Path
 r:Root
 q:Σ τ:Ty,τ.D
def Restores (S:Stab) (H:Heap) (pl:Pl) (e:Lent) (q:Plc) (rest:List Nat):Prop :=
 ∀ (S':Stab) (H':Heap) (ρ:Ty) (z:ρ.D) (g:List Nat) (τn:Ty) (xn:τn.D),(∀ m b,S m b→S' m b)→(∀ m b,S m b→H' b=H b)→(∀ b∈rest,H' b=H b) →
  HeldAt S' H' ρ q z g→setP e.p e.r.τ e.r.x ρ z=some ⟨τn,xn⟩→ρ.skel=e.q.1.skel →
  ∃ Y vsn ln,RootRel S' H' pl ⟨e.r.k,τn,xn⟩ Y∧Y.Perm (g++rest)∧Holds H' pl τn.size vsn ln∧τn.skel=e.r.τ.skel ∧
   ∀ vs l,Holds H pl e.r.τ.size vs l→ln=l∧vsn.length=vs.length
theorem at_none {H:Heap}:∀ (p:Path) (τ:Ty) (vs v1:List Value) (q:Nat×Nat),hasIx p=false→At H p τ vs none v1 (some q)→False:=by
 intro p
 induction p with
 | nil=>rintro τ vs v1 q _ ⟨_,h⟩;cases h
 | cons s p ih =>
  intro τ vs v1 q hx h
  cases s with
  | L=>cases τ <;> simp only [At] at h;exact ih _ _ _ _ hx h
  | R=>cases τ <;> simp only [At] at h;exact ih _ _ _ _ hx h
  | ix i=>simp [hasIx] at hx
theorem lput_split {pre vs post ws:List Value}{δ n:Nat} (hδ:δ+n≤vs.length) (hw:ws.length=n) :
  pre++lput vs δ ws++post=(pre++vs.take δ)++ws++(vs.drop (δ+n)++post):=by
 simp [lput,hw]
theorem cells_split {vs:List Value}{δ n:Nat}:vs.take δ++((vs.drop δ).take n)++vs.drop (δ+n)=vs:=by
 have h1:(vs.drop δ).take n++(vs.drop δ).drop n=vs.drop δ:=List.take_append_drop n _
 rw [List.drop_drop] at h1
 rw [List.append_assoc,h1,List.take_append_drop]
theorem perm_mid {a b c d:List Nat}:(a++(b++c)++d).Perm (b++(a++c++d)):=by
 simp only [List.append_assoc]
 exact (List.perm_append_comm_assoc a b (c++d))
theorem RootRel.lend {S:Stab}{H:Heap}{pl:Pl}{r:Root}{X:List Nat} (h:RootRel S H pl r X) (hnd:X.Nodup) (id:Nat){p:Path}{σ:Ty}{y:σ.D} (hg:getP p r.τ r.x=some ⟨σ,y⟩)
  {vs0 vs':List Value}{l0:Option (Nat×Nat)}{b off:Nat} (hv:Valid p r.τ r.x) (hh0:Holds H pl r.τ.size vs0 l0) (ha0:At H p r.τ vs0 l0 vs' (some (b,off))) :
  ∃ (q:Plc) (f rest:List Nat),q.hd.isSome=false∧q.ptr=.pointer (some ⟨b,off,none⟩)∧HeldAt S H σ q y f∧X.Perm (f++rest)∧Restores S H pl ⟨id,p,r,⟨σ,y⟩⟩ q rest:=by
 obtain ⟨k,τ,x⟩:=r
 have hkind:∃ vs l fp,Holds H pl τ.size vs l∧Rep S H τ vs x fp∧fp.Nodup∧(((∃ io,k=.box io)∧∃ B pre post el fr,pl=.mem B pre post el fr∧l=some (B,pre.length)∧X=B::fp)∨((∃ io,k=.val io)∧pl=.val vs∧l=none∧X=fp)):=by
  cases k <;> cases pl <;> simp only [RootRel] at h
  ·rename_i B pre post el fr
   obtain ⟨vs,l,fp,h1,h2,h3⟩:=h
   rw [h3] at hnd
   refine ⟨vs,l,fp,h1,h2,(List.nodup_cons.1 hnd).2,.inl ⟨⟨_,rfl⟩,B,pre,post,el,fr,rfl,h1.2.2.1,h3⟩⟩
  ·rename_i vs
   exact ⟨vs,none,X,⟨rfl,rfl⟩,h,hnd,.inr ⟨⟨_,rfl⟩,rfl,rfl,rfl⟩⟩
 obtain ⟨vs,l,fp,hh,hrp,hndf,hkind⟩:=hkind
 obtain ⟨rfl,rfl⟩:=hh.det hh0
 obtain ⟨vs1,l1,f1,f',f2,hfp,hat,hrep1,hset⟩:=hrp.set p l hv hndf hg
 obtain ⟨rfl,rfl⟩:=hat.det p ha0
 have hvl:=hrep1.length
 have hmem:=at_mem p hrp hv hat (holds_mem (S:=S) (r:=⟨k,τ,x⟩) hh) hg
 obtain ⟨c9,el9,fr9,q1,q2,q3⟩:=hmem
 have hskel:∀ {ρ:Ty}{z:ρ.D}{τn:Ty}{xn:τn.D},setP p τ x ρ z=some ⟨τn,xn⟩→ρ.skel=σ.skel→τn.skel=τ.skel:=fun hs hk=>setP_skel p hg hs hk
 rcases hset with ⟨hx,δ,hl1,hd,hset⟩ | ⟨hx,b',off',c',el',fr',e,hb1',hb2',hso,hof,hset⟩
 ·rcases hkind with ⟨⟨io,rfl⟩,B,pre,post,el',fr',rfl,rfl,rfl⟩ | ⟨_,_,rfl,_⟩
  ·have hbo:=hl1 B pre.length rfl
   simp only [sI,Prod.mk.injEq] at hbo
   obtain ⟨rfl,rfl⟩:=hbo
   obtain ⟨e1,e2,_,e4⟩:=hh
   rw [q1] at e1
   simp only [sI,Obj.cells.injEq] at e1
   obtain ⟨rfl,rfl,rfl⟩:=e1
   have hvs':(vs.drop δ).take σ.size=vs1:=by
    rw [← q3]
    simp only [List.append_assoc,List.drop_length_add_append]
    rw [List.drop_append_of_le_length (by omega),List.take_append_of_le_length (by simp;omega)]
   have hwhole:pre++vs++post=(pre++vs.take δ)++vs1++(vs.drop (δ+σ.size)++post):=by
    have h0:=cells_split (vs:=vs) (δ:=δ) (n:=σ.size)
    rw [hvs'] at h0
    have h1:pre++vs++post=pre++(vs.take δ++vs1++vs.drop (δ+σ.size))++post:=by rw [h0]
    rw [h1];simp
   refine ⟨⟨b,pre++vs.take δ,vs.drop (δ+σ.size)++post,el9,fr9,none⟩,b::f',f1++f2,rfl,by simp [Plc.ptr];omega,⟨vs1,f',?_,?_,hrep1,rfl⟩,?_,?_⟩
   ·simp only;rw [← hwhole];exact q1
   ·simp only;rw [← hwhole];exact e4
   ·rw [hfp]
    simp only [List.cons_append]
    refine List.Perm.cons _ ?_
    have:=@perm_mid f1 f' [] f2
    simpa using this
   ·intro S' H' ρ z g τn xn hSS hS hrest hheld hs hk
    obtain ⟨ws,g1,k1,k2,k3,rfl⟩:=hheld
    have hwl:ws.length=σ.size:=by rw [k3.length,skel_size_eq hk]
    have hsplit:=lput_split (pre:=pre) (vs:=vs) (post:=post) (ws:=ws) (δ:=δ) (n:=σ.size) hd hwl
    simp only at k1 k2
    rw [← hsplit] at k1 k2
    have hsz:τn.size=τ.size:=skel_size_eq (hskel hs hk)
    have hll:(lput vs δ ws).length=vs.length:=put_length (by omega)
    have hH:Holds H' (.mem b pre post el9 fr9) τn.size (lput vs δ ws) (some (b,pre.length)):=⟨k1,by rw [hll,hsz];exact e2,rfl,k2⟩
    refine ⟨b::(f1++g1++f2),lput vs δ ws,_,⟨_,_,_,hH,?_,rfl⟩,?_,hH,hskel hs hk,?_⟩
    ·exact hset S' H' ρ z ws g1 τn xn (skel_size_eq hk).symm hs hSS hS hrest k3
    ·simp only [List.cons_append]
     refine List.Perm.cons _ ?_
     have:=@perm_mid f1 g1 [] f2
     simpa using this
    ·intro vs2 l2 h2
     obtain ⟨_,a2,rfl,_⟩:=h2
     refine ⟨rfl,?_⟩
     rw [hll,a2];exact e2
  ·exact absurd hat (fun hat=>at_none p _ _ _ _ hx hat)
 ·simp only [sI,Prod.mk.injEq] at e
  obtain ⟨rfl,rfl⟩:=e
  rw [q1] at hb2'
  simp only [sI,Obj.cells.injEq] at hb2'
  obtain ⟨rfl,rfl,rfl⟩:=hb2'
  have hlen:off+σ.size≤c9.toList.length:=by simpa using hof
  have hwhole:c9.toList=c9.toList.take off++vs1++c9.toList.drop (off+σ.size):=by
   have h0:=cells_split (vs:=c9.toList) (δ:=off) (n:=σ.size)
   rw [q3] at h0;exact h0.symm
  have hpre:(c9.toList.take off).length=off:=by simp;omega
  have hperm1:f1.Perm (b::f1.erase b):=List.perm_cons_erase hb1'
  have hheld:HeldAt S H σ ⟨b,c9.toList.take off,c9.toList.drop (off+σ.size),el9,fr9,none⟩ y (b::f'):=by
   refine ⟨vs1,f',?_,?_,hrep1,rfl⟩
   ·simp only;rw [← hwhole];simpa using q1
   ·simp only;rw [← hwhole];simpa using hso
  have hback:∀ (ex:List Nat) (S':Stab) (H':Heap) (ρ:Ty) (z:ρ.D) (g:List Nat) (τn:Ty) (xn:τn.D),(∀ m b,S m b→S' m b)→(∀ m b,S m b→H' b=H b)→(∀ b'∈f1.erase b++f2,H' b'=H b') →
    HeldAt S' H' ρ ⟨b,c9.toList.take off,c9.toList.drop (off+σ.size),el9,fr9,none⟩ z g→setP p τ x ρ z=some ⟨τn,xn⟩→ρ.skel=σ.skel →
    ∃ F,Rep S' H' τn vs xn F∧F.Perm (g++(f1.erase b++f2)):=by
   intro ex S' H' ρ z g τn xn hSS hS hrest hheld hs hk
   obtain ⟨ws,g1,k1,k2,k3,rfl⟩:=hheld
   have hwl:ws.length=σ.size:=by rw [k3.length,skel_size_eq hk]
   refine ⟨f1++g1++f2,hset S' H' ρ z ws g1 τn xn (skel_size_eq hk).symm hs hSS hS ?_ ?_ k3,?_⟩
   ·intro b2 hb2 hne
    refine hrest b2 ?_
    simp only [List.mem_append] at hb2 ⊢
    rcases hb2 with h | h
    ·exact .inl ((List.mem_erase_of_ne hne).2 h)
    ·exact .inr h
   ·simp only at k1
    rw [k1]
    simp only [lput,hwl]
   ·have h1:(f1++g1++f2).Perm ((b::f1.erase b)++g1++f2):=(hperm1.append_right g1).append_right f2
    refine h1.trans ?_
    simp only [List.cons_append]
    refine List.Perm.cons _ ?_
    have:=@perm_mid (f1.erase b) g1 [] f2
    simpa using this
  have hsplit0:(f1++f'++f2).Perm ((b::f')++(f1.erase b++f2)):=by
   have h1:(f1++f'++f2).Perm ((b::f1.erase b)++f'++f2):=(hperm1.append_right f').append_right f2
   refine h1.trans ?_
   simp only [List.cons_append]
   refine List.Perm.cons _ ?_
   have:=@perm_mid (f1.erase b) f' [] f2
   simpa using this
  rcases hkind with ⟨⟨io,rfl⟩,B,pre,post,el',fr',rfl,rfl,rfl⟩ | ⟨⟨io,rfl⟩,rfl,rfl,rfl⟩
  ·have hBn:=(List.nodup_cons.1 hnd).1
   refine ⟨_,b::f',B::(f1.erase b++f2),rfl,by simp only [Plc.ptr,hpre],hheld,?_,?_⟩
   ·rw [hfp]
    refine (hsplit0.cons B).trans ?_
    exact (List.perm_middle (a:=B) (l₁:=b::f') (l₂:=f1.erase b++f2)).symm
   ·intro S' H' ρ z g τn xn hSS hS hrest hh' hs hk
    obtain ⟨F,hF1,hF2⟩:=hback [] S' H' ρ z g τn xn hSS hS (fun b' hb'=>hrest b' (by simp only [List.mem_cons];exact .inr hb')) hh' hs hk
    have hsz:τn.size=τ.size:=skel_size_eq (hskel hs hk)
    have hH:Holds H' (.mem B pre post el' fr') τn.size vs (some (B,pre.length)):=by
     obtain ⟨a1,a2,_,a4⟩:=hh
     exact ⟨by rw [hrest B (by simp)];exact a1,by rw [hsz];exact a2,rfl,a4⟩
    refine ⟨B::F,vs,_,⟨_,_,_,hH,hF1,rfl⟩,?_,hH,hskel hs hk,?_⟩
    ·exact (hF2.cons B).trans List.perm_middle.symm
    ·intro vs2 l2 h2
     obtain ⟨_,a2,rfl,_⟩:=h2
     exact ⟨rfl,by rw [a2];exact hh.2.1⟩
  ·refine ⟨_,b::f',f1.erase b++f2,rfl,by simp only [Plc.ptr,hpre],hheld,by rw [hfp];exact hsplit0,?_⟩
   intro S' H' ρ z g τn xn hSS hS hrest hh' hs hk
   obtain ⟨F,hF1,hF2⟩:=hback [] S' H' ρ z g τn xn hSS hS hrest hh' hs hk
   refine ⟨F,vs,none,hF1,hF2,⟨rfl,rfl⟩,hskel hs hk,?_⟩
   intro vs2 l2 h2
   obtain ⟨rfl,rfl⟩:=h2
   exact ⟨rfl,rfl⟩
theorem at_same {H H':Heap}:∀ (q:Path){τ τ':Ty}{x:τ.D} (x':τ'.D){σ:Ty}{y:σ.D}{vs v1:List Value}{l l1:Option (Nat×Nat)},hasIx q=false→τ'.skel=τ.skel →
  getP q τ x=some ⟨σ,y⟩→At H q τ vs l v1 l1→∃ (σ':Ty) (y':σ'.D),getP q τ' x'=some ⟨σ',y'⟩∧Valid q τ' x'∧At H' q τ' vs l v1 l1∧σ'.skel=σ.skel:=by
 intro q
 induction q with
 | nil =>
  intro τ τ' x x' σ y vs v1 l l1 _ hk hg ha
  simp only [getP,sI,Sigma.mk.injEq] at hg
  obtain ⟨rfl,_⟩:=hg
  exact ⟨τ',x',rfl,trivial,ha,hk⟩
 | cons s q ih =>
  intro τ τ' x x' σ y vs v1 l l1 hx hk hg ha
  cases s with
  | L =>
   cases τ <;> simp only [getP,reduceCtorEq] at hg
   rename_i a b
   cases τ' <;> simp [Ty.skel] at hk
   rename_i a' b'
   simp only [At] at ha
   rw [← skel_size_eq hk.1] at ha
   obtain ⟨σ',y',h1,h2,h3,h4⟩:=ih x'.1 hx hk.1 hg ha
   exact ⟨σ',y',h1,h2,h3,h4⟩
  | R =>
   cases τ <;> simp only [getP,reduceCtorEq] at hg
   rename_i a b
   cases τ' <;> simp [Ty.skel] at hk
   rename_i a' b'
   simp only [At] at ha
   rw [← skel_size_eq hk.1] at ha
   obtain ⟨σ',y',h1,h2,h3,h4⟩:=ih x'.2 hx hk.2 hg ha
   exact ⟨σ',y',h1,h2,h3,h4⟩
  | ix i=>simp [hasIx] at hx
def pathOff:Path→Ty→Nat
 | .L::p,.pair a _=>pathOff p a
 | .R::p,.pair a b=>a.size+pathOff p b
 | _,_=>0
theorem at_off {H:Heap}:∀ (p:Path){τ:Ty}{x:τ.D}{σ:Ty}{y:σ.D}{vs v1:List Value}{l l1:Option (Nat×Nat)},hasIx p=false→getP p τ x=some ⟨σ,y⟩→At H p τ vs l v1 l1→vs.length=τ.size →
  pathOff p τ+σ.size≤τ.size∧v1=(vs.drop (pathOff p τ)).take σ.size∧l1=l.map fun q=>(q.1,q.2+pathOff p τ):=by
 intro p
 induction p with
 | nil =>
  intro τ x σ y vs v1 l l1 _ hg ha hlen
  simp only [getP,sI,Sigma.mk.injEq] at hg
  obtain ⟨rfl,_⟩:=hg
  obtain ⟨rfl,rfl⟩:=ha
  refine ⟨by simp [pathOff],?_,?_⟩
  ·simp only [pathOff,List.drop_zero];rw [List.take_of_length_le (by omega)]
  ·cases l1 <;> simp [pathOff]
 | cons s p ih =>
  intro τ x σ y vs v1 l l1 hx hg ha hlen
  cases s with
  | L =>
   cases τ <;> simp only [getP,reduceCtorEq] at hg
   rename_i a b
   simp only [Ty.size] at hlen
   obtain ⟨h1,h2,h3⟩:=ih hx hg ha (by simp;omega)
   refine ⟨by simp only [pathOff,Ty.size];omega,?_,by simpa [pathOff] using h3⟩
   simp only [pathOff]
   rw [h2,List.drop_take,List.take_take,Nat.min_eq_left (by omega)]
  | R =>
   cases τ <;> simp only [getP,reduceCtorEq] at hg
   rename_i a b
   simp only [Ty.size] at hlen
   obtain ⟨h1,h2,h3⟩:=ih hx hg ha (by simp;omega)
   refine ⟨by simp only [pathOff,Ty.size];omega,?_,?_⟩
   ·simp only [pathOff]
    rw [h2,List.drop_drop]
   ·rw [h3]
    cases l <;> simp [pathOff,Nat.add_assoc]
  | ix i=>simp [hasIx] at hx
theorem RootRel.lendS {S:Stab}{H:Heap}{pl:Pl}{r:Root}{X:List Nat} (h:RootRel S H pl r X) (hnd:X.Nodup) (id:Nat){p:Path}{σ:Ty}{y:σ.D} (hg:getP p r.τ r.x=some ⟨σ,y⟩)
  {vs0 vs':List Value}{l0 l':Option (Nat×Nat)} (hv:Valid p r.τ r.x) (hh0:Holds H pl r.τ.size vs0 l0) (ha0:At H p r.τ vs0 l0 vs' l') :
  ∃ (q:Plc) (f rest:List Nat),q.hd.isSome=true∧q.ptr=valOf σ vs'∧HeldAt S H σ q y f∧X.Perm (f++rest)∧Restores S H pl ⟨id,p,r,⟨σ,y⟩⟩ q rest:=by
 obtain ⟨k,τ,x⟩:=r
 have hkind:∃ vs l fp,Holds H pl τ.size vs l∧Rep S H τ vs x fp∧fp.Nodup∧(((∃ io,k=.box io)∧∃ B pre post el fr,pl=.mem B pre post el fr∧l=some (B,pre.length)∧X=B::fp)∨((∃ io,k=.val io)∧pl=.val vs∧l=none∧X=fp)):=by
  cases k <;> cases pl <;> simp only [RootRel] at h
  ·rename_i B pre post el fr
   obtain ⟨vs,l,fp,h1,h2,h3⟩:=h
   rw [h3] at hnd
   refine ⟨vs,l,fp,h1,h2,(List.nodup_cons.1 hnd).2,.inl ⟨⟨_,rfl⟩,B,pre,post,el,fr,rfl,h1.2.2.1,h3⟩⟩
  ·rename_i vs
   exact ⟨vs,none,X,⟨rfl,rfl⟩,h,hnd,.inr ⟨⟨_,rfl⟩,rfl,rfl,rfl⟩⟩
 obtain ⟨vs,l,fp,hh,hrp,hndf,hkind⟩:=hkind
 obtain ⟨rfl,rfl⟩:=hh.det hh0
 have hvlen:vs.length=τ.size:=hrp.length
 -- the header
 obtain ⟨u1,m1,e1,e',e2,hfp0,hat0,hrep0,_⟩:=hrp.set p l hv hndf hg
 obtain ⟨hu1,hm1⟩:=hat0.det p ha0
 subst hu1 hm1
 -- what comes back fits
 have key:∃ f1 f' f2,fp=f1++f'++f2∧Rep S H σ u1 y f'∧∀ (S':Stab) (H':Heap) (ρ:Ty) (z:ρ.D) (g:List Nat) (τn:Ty) (xn:τn.D),σ.size=ρ.size→setP p τ x ρ z=some ⟨τn,xn⟩→(∀ m b,S m b→S' m b) →
   (∀ m b,S m b→H' b=H b)→(∀ b∈f1++f2,H' b=H b)→Rep S' H' ρ u1 z g→Rep S' H' τn vs xn (f1++g++f2):=by
  cases hx:hasIx p with
  | false =>
   obtain ⟨vs1,l1,f1,f',f2,hfp,hat,hrep1,hset⟩:=hrp.set p (some (0,0)) hv hndf hg
   obtain ⟨o1,o2,o3⟩:=at_off p hx hg hat hvlen
   obtain ⟨_,o4,_⟩:=at_off p hx hg ha0 hvlen
   rw [← o4] at o2
   subst o2
   refine ⟨f1,f',f2,hfp,hrep1,?_⟩
   rcases hset with ⟨_,δ,hl1,hd,hset⟩ | ⟨hx',_⟩
   ·have hδ:=hl1 0 0 rfl
    rw [o3] at hδ
    simp only [Option.map_some,Nat.zero_add,sI,Prod.mk.injEq,true_and] at hδ
    subst hδ
    intro S' H' ρ z g τn xn hsz hs hSS hS hf hr
    have:=hset S' H' ρ z vs1 g τn xn hsz hs hSS hS hf hr
    rwa [put_self] at this
    rw [hrep0.length];exact o4.symm
   ·rw [hx] at hx';cases hx'
  | true =>
   obtain ⟨vs1,l1,f1,f',f2,hfp,hat,hrep1,hset⟩:=hrp.set p l hv hndf hg
   obtain ⟨rfl,rfl⟩:=hat.det p ha0
   refine ⟨f1,f',f2,hfp,hrep1,?_⟩
   rcases hset with ⟨hx',_⟩ | ⟨_,b',off',c',el',fr',e,hb1',hb2',hso,hof,hset⟩
   ·rw [hx] at hx';cases hx'
   ·rw [e] at hat
    have hmem:=at_mem p hrp hv hat (holds_mem (S:=S) (r:=⟨k,τ,x⟩) hh) hg
    obtain ⟨c9,el9,fr9,q1,q2,q3⟩:=hmem
    rw [hb2'] at q1
    cases q1
    intro S' H' ρ z g τn xn hsz hs hSS hS hf hr
    refine hset S' H' ρ z vs1 g τn xn hsz hs hSS hS (fun b hb _=>hf b hb) ?_ hr
    rw [hf b' (by simp [hb1']),hb2']
    rw [put_self (by rw [hrep1.length];simpa using q3)]
 obtain ⟨f1,f',f2,hfp,hrep1,hback⟩:=key
 have hskel:∀ {ρ:Ty}{z:ρ.D}{τn:Ty}{xn:τn.D},setP p τ x ρ z=some ⟨τn,xn⟩→ρ.skel=σ.skel→τn.skel=τ.skel:=fun hs hk=>setP_skel p hg hs hk
 have hperm:fp.Perm (f'++(f1++f2)):=by
  rw [hfp]
  have:=@perm_mid f1 f' [] f2
  simpa using this
 rcases hkind with ⟨⟨io,rfl⟩,B,pre,post,el',fr',rfl,rfl,rfl⟩ | ⟨⟨io,rfl⟩,rfl,rfl,rfl⟩
 ·refine ⟨⟨0,[],[],0,(0,0),some (σ.isAgg,u1)⟩,f',B::(f1++f2),rfl,rfl,⟨hrep1,rfl⟩,?_,?_⟩
  ·exact (hperm.cons B).trans List.perm_middle.symm
  ·intro S' H' ρ z g τn xn hSS hS hrest hheld hs hk
   have hr:Rep S' H' ρ u1 z g:=hheld.1
   have hF:=hback S' H' ρ z g τn xn (skel_size_eq hk).symm hs hSS hS (fun b hb=>hrest b (by simp only [List.mem_cons];exact .inr hb)) hr
   have hsz:τn.size=τ.size:=skel_size_eq (hskel hs hk)
   have hH:Holds H' (.mem B pre post el' fr') τn.size vs (some (B,pre.length)):=by
    obtain ⟨a1,a2,_,a4⟩:=hh
    exact ⟨by rw [hrest B (by simp)];exact a1,by rw [hsz];exact a2,rfl,a4⟩
   refine ⟨B::(f1++g++f2),vs,_,⟨_,_,_,hH,hF,rfl⟩,?_,hH,hskel hs hk,?_⟩
   ·refine List.Perm.trans (List.Perm.cons B ?_) List.perm_middle.symm
    have:=@perm_mid f1 g [] f2
    simpa using this
   ·intro vs2 l2 h2
    obtain ⟨_,a2,rfl,_⟩:=h2
    exact ⟨rfl,by rw [a2];exact hvlen⟩
 ·refine ⟨⟨0,[],[],0,(0,0),some (σ.isAgg,u1)⟩,f',f1++f2,rfl,rfl,⟨hrep1,rfl⟩,hperm,?_⟩
  intro S' H' ρ z g τn xn hSS hS hrest hheld hs hk
  have hr:Rep S' H' ρ u1 z g:=hheld.1
  have hF:=hback S' H' ρ z g τn xn (skel_size_eq hk).symm hs hSS hS hrest hr
  refine ⟨f1++g++f2,vs,none,hF,?_,⟨rfl,rfl⟩,hskel hs hk,?_⟩
  ·have:=@perm_mid f1 g [] f2
   simpa using this
  ·intro vs2 l2 h2
   obtain ⟨rfl,rfl⟩:=h2
   exact ⟨rfl,rfl⟩
inductive PK where
 | no | io (s:Bool) | look
 deriving DecidableEq
def LookRel (S:Stab) (H:Heap) (τ:Ty) (v:Value) (x:τ.D):Prop :=
 ∃ b off c el fr,v=.pointer (some ⟨b,off,none⟩)∧H b=some (.cells c el fr)∧off+τ.size≤c.size ∧
   Rep S H τ ((c.toList.drop off).take τ.size) x []∧∃ m,S m b
def ParRel (S:Stab) (H:Heap):List PK→(ps:List Ty)→List Value→List Plc→LD ps→List Nat→Prop
 | [],[],[],[],_,fp=>fp=[]
 | .io s::ks,τ::ps,v::vs,q::qs,x,fp=>q.hd.isSome=s∧v=q.ptr∧∃ f1 f2,HeldAt S H τ q x.1 f1∧fp=f1++f2∧ParRel S H ks ps vs qs x.2 f2
 | .no::ks,τ::ps,v::vs,qs,x,fp=>∃ ws f1 f2,v=valOf τ ws∧Rep S H τ ws x.1 f1∧fp=f1++f2∧ParRel S H ks ps vs qs x.2 f2
 | .look::ks,τ::ps,v::vs,qs,x,fp=>LookRel S H τ v x.1∧ParRel S H ks ps vs qs x.2 fp
 | _,_,_,_,_,_=>False
inductive OutK where
 | val | ptr | io
 deriving DecidableEq
def OutRel (S:Stab) (H:Heap):List OutK→(l:List Ty)→List Value→List Plc→LD l→List Nat→Prop
 | [],[],[],[],_,fp=>fp=[]
 | .val::ks,τ::l,v::rv,qs,x,fp=>∃ ws f1 f2,v=valOf τ ws∧Rep S H τ ws x.1 f1∧fp=f1++f2∧OutRel S H ks l rv qs x.2 f2
 | .ptr::ks,τ::l,v::rv,qs,x,fp=>∃ q f1 f2,q.hd=none∧v=Plc.ptr q∧HeldAt S H τ q x.1 f1∧fp=f1++f2∧OutRel S H ks l rv qs x.2 f2
 | .io::ks,τ::l,rv,q::qs,x,fp=>∃ f1 f2,HeldAt S H τ q x.1 f1∧fp=f1++f2∧OutRel S H ks l rv qs x.2 f2
 | _,_,_,_,_,_=>False
structure Fx where
 io:List PK
 ps:List Ty
 ks:List OutK
 out:List Ty
 F:LD ps→Option (LD out)
structure CtrX (P:Program) (V:Glb) (fid:Nat) (f:Fx):Prop where
 enters:∀ args w,(callFunc fid args).run P w=.ok (.enter fid args) w
 calls:∀ (w:World) (S:Stab) (args:LD f.ps) (vals:List Value) (qs:List Plc) (fp:List Nat) (r:LD f.out),
  (∀ m b,S m b→b<w.heap.size)→(∀ b,S .keep b→S .lend b)→((∀ b,b<V.n→S .lend b)∧V.holds w)→ParRel S (hp w) f.io f.ps vals qs args fp→fp.Nodup→(∀ b∈fp,b<w.heap.size∧∀ m,¬ S m b)→f.F args=some r →
  Calls P fid vals.toArray w fun e w'=>∃ rv T g,e=.returned (retVal rv)∧Frm w w' (Blk.of fun b=>b∈fp)∧OutRel (fun _=>T) (hp w') f.ks f.out rv qs r g ∧
   (∀ b,T b→b<w'.heap.size∧(S .keep b∨w.heap.size≤b∨b∈fp))∧g.Nodup∧(∀ b∈g,b<w'.heap.size∧¬ T b∧(w.heap.size≤b∨b∈fp))
theorem OutRel.stab {S S':Stab}{H:Heap} (hS:∀ m b,S m b→S' m b):∀ (ks:List OutK) (l:List Ty){rv:List Value}{qs:List Plc}{x:LD l}{g:List Nat},OutRel S H ks l rv qs x g→OutRel S' H ks l rv qs x g:=by
 intro ks
 induction ks with
 | nil =>
  intro l rv qs x g h
  cases l <;> cases rv <;> cases qs <;> simp only [OutRel] at h ⊢
  exact h
 | cons k ks ih =>
  intro l rv qs x g h
  cases l with
  | nil=>cases k <;> cases rv <;> cases qs <;> simp only [OutRel] at h
  | cons τ l =>
   cases k with
   | val =>
    cases rv <;> simp only [OutRel] at h ⊢
    obtain ⟨ws,f1,f2,h1,h2,h3,h4⟩:=h
    exact ⟨ws,f1,f2,h1,h2.stab hS,h3,ih l h4⟩
   | ptr =>
    cases rv <;> simp only [OutRel] at h ⊢
    obtain ⟨q,f1,f2,h0,h1,h2,h3,h4⟩:=h
    exact ⟨q,f1,f2,h0,h1,h2.stab hS,h3,ih l h4⟩
   | io =>
    cases qs with
    | nil=>cases rv <;> simp only [OutRel] at h
    | cons q qs =>
     have h':∃ f1 f2,HeldAt S H τ q x.1 f1∧g=f1++f2∧OutRel S H ks l rv qs x.2 f2:=by cases rv <;> exact h
     obtain ⟨f1,f2,h2,h3,h4⟩:=h'
     have:∃ f1 f2,HeldAt S' H τ q x.1 f1∧g=f1++f2∧OutRel S' H ks l rv qs x.2 f2:=⟨f1,f2,h2.stab hS,h3,ih l h4⟩
     cases rv <;> exact this
inductive Took where
 | no
 | look
 | own (q:Σ τ:Ty,τ.D)
 | io (e:Lent)
def takeX (st:St):List Operand→List PK→List Ty→Option (List Took×St)
 | [],[],[]=>some ([],st)
 | o::os,.io s::ks,σ::ps=>match opnd st o with
  | .a (.ptr id p)=>if s=true then none else match st.roots id with
   | some r=>match getP p r.τ r.x with
    | some q=>match takeX (st.kill id) os ks ps with
     | some (l,st2)=>some (.io ⟨id,p,r,q⟩::l,st2)
     | none=>none
    | none=>none
   | none=>none
  | .a (.ref id p)=>if s=false then none else match st.roots id with
   | some r=>match getP p r.τ r.x with
    | some q=>match takeX (st.kill id) os ks ps with
     | some (l,st2)=>some (.io ⟨id,p,r,q⟩::l,st2)
     | none=>none
    | none=>none
   | none=>none
  | _=>none
 | o::os,.look::ks,σ::ps=>match takeX st os ks ps with
   | some (l,st1)=>some (.look::l,st1)
   | none=>none
 | o::os,.no::ks,σ::ps=>if σ.plain=true then (match takeX st os ks ps with
   | some (l,st1)=>some (.no::l,st1)
   | none=>none)
  else match take st (opnd st o) with
   | some (q,st1)=>match takeX st1 os ks ps with
    | some (l,st2)=>some (.own q::l,st2)
    | none=>none
   | none=>none
 | _,_,_=>none
def lookV (st:St) (tv:TV) (σ:Ty):Option σ.D :=
 match tv with
 | .a (.sptr τ x)=>match coe0 τ σ x with
  | some y=>some y
  | none=>lendTo ⟨τ,x⟩ σ
 | .a (.ptr id p)=>match st.roots id with
  | some r=>match getP p r.τ r.x with
   | some q=>if q.1.plain=true then (match coe0 q.1 σ q.2 with
    | some y=>some y
    | none=>lendTo q σ) else lendTo q σ
   | none=>none
  | none=>none
 | _=>none
def mkX (st:St):List Operand→List Took→(ps:List Ty)→Option (LD ps)
 | [],[],[]=>some ()
 | o::os,q::qs,σ::ps=>match (match q with
   | .own q=>coe0 q.1 σ q.2
   | .io e=>coe0 e.q.1 σ e.q.2
   | .no=>plainV st (opnd st o) σ
   | .look=>lookV st (opnd st o) σ),mkX st os qs ps with
  | some x,some xs=>some (x,xs)
  | _,_=>none
 | _,_,_=>none
def lents:List Took→List Lent
 | []=>[]
 | .io e::l=>e::lents l
 | _::l=>lents l
def RK.isVal:RK→Bool
 | .val _=>true
 | .box _=>false
def St.renew (st0 st:St) (id:Nat) (r:Root):St :=
 {tmps:=fun t=>match st0.tmps t with
   | .a (.ptr i p)=>if i=id∧hasIx p=false then .a (.ptr i p) else st.tmps t
   | .a (.ref i p)=>if i=id∧hasIx p=false∧r.k.isVal=true then .a (.ref i p) else st.tmps t
   | _=>st.tmps t
  roots:=fun i=>if i=id then some r else st.roots i }
def outX (st0:St) (base:Nat):List OutK→(l:List Ty)→LD l→List Lent→St→Nat→Option (List AV×St)
 | [],[],_,[],st,_=>some ([],st)
 | .val::ks,τ::l,x,es,st,i=>if τ.plain=true then (match outX st0 base ks l x.2 es st (i+1) with
   | some (as,st')=>some (.v τ x.1::as,st')
   | none=>none)
  else match st.roots (base+i) with
   | none=>match outX st0 base ks l x.2 es (st.root (base+i) ⟨.val false,τ,x.1⟩) (i+1) with
    | some (as,st')=>some (.ref (base+i) []::as,st')
    | none=>none
   | some _=>none
 | .ptr::ks,τ::l,x,es,st,i=>match st.roots (base+i) with
   | none=>match outX st0 base ks l x.2 es (st.root (base+i) ⟨.box false,τ,x.1⟩) (i+1) with
    | some (as,st')=>some (.ptr (base+i) []::as,st')
    | none=>none
   | some _=>none
 | .io::ks,τ::l,x,e::es,st,i=>match setP e.p e.r.τ e.r.x τ x.1,st.roots e.id with
   | some ⟨τn,xn⟩,none=>if τ.skel=e.q.1.skel then outX st0 base ks l x.2 es (St.renew st0 st e.id ⟨e.r.k,τn,xn⟩) i else none
   | _,_=>none
 | _,_,_,_,_,_=>none
def nres:List OutK→Nat
 | []=>0
 | .io::l=>nres l
 | _::l=>nres l+1
def baseX (n:Nat) (dst:Option Nat) (ks:List OutK):Nat :=
 match dst with
 | some d=>if nres ks≤1 then d else n+8*d
 | none=>n
def tvL:List AV→TV
 | []=>.a .junk
 | [v]=>.a v
 | l=>.tup l
def callX {R:Type} (fx:Nat→Option Fx) (n:Nat) (st:St) (dst:Option Nat) (callee:Callee) (args:List Operand) (K:St→Option R):Option R :=
 match callee with
 | .value (.func fid)=>match fx fid with
  | some f=>match takeX st args f.io f.ps with
   | some (tk,st1)=>match mkX st1 args tk f.ps with
    | some xs=>(f.F xs).bind fun r=>match outX st (baseX n dst f.ks) f.ks f.out r (lents tk) st1 0 with
     | some (as,st2)=>K (st2.put dst (tvL as))
     | none=>none
    | none=>none
   | none=>none
  | none=>none
 | _=>none
theorem callX_bind {R:Type} (fx:Nat→Option Fx) (n:Nat) (st:St) (dst:Option Nat) (callee:Callee) (args:List Operand) (K:St→Option R):callX fx n st dst callee args K=(callX fx n st dst callee args some).bind K:=by
 unfold callX
 split
 ·split
  ·split
   ·split
    ·rw [Option.bind_assoc]
     congr 1
     funext r
     split <;> rfl
    ·rfl
   ·rfl
  ·rfl
 ·rfl
section
variable {P:Program}{C:Cx}{w0 w w':World}{G:Blk}{st st':St}{a:Act}{S:Stab}{pls:Nat→Pl}{X:Nat→List Nat}
theorem Inv.retmp0 (hI:Inv C w0 G st a w S pls X) (hr:st'.roots=st.roots) (h:∀ t,TRel S (hp w) pls st.roots (a.tmps.getD t undef) (st'.tmps t)):Inv C w0 G st' a w S pls X :=
 ⟨hI.frm,hI.stab,hI.kl,hI.own,hI.nd,hI.dis,fun id r h'=>hI.roots id r (by rw [← hr];exact h'),fun t=>by rw [hr];exact h t,hI.size,hI.defers,hI.glb,fun id r h'=>hI.pin id r (by rw [← hr];exact h')⟩
def TkRel (S:Stab) (H:Heap) (pls:Nat→Pl) (roots:Nat→Option Root):List PK→List Value→List Took→List Plc→List Nat→List Nat→Prop
 | [],[],[],[],g,rs=>g=[]∧rs=[]
 | .io s::ks,v::vs,.io e::ts,q::qs,g,rs=>q.hd.isSome=s∧v=q.ptr∧roots e.id=some e.r∧∃ f1 f2 r1 r2,HeldAt S H e.q.1 q e.q.2 f1∧Restores S H (pls e.id) e q r1∧g=f1++f2∧rs=r1++r2∧TkRel S H pls roots ks vs ts qs f2 r2
 | .no::ks,_::vs,.no::ts,qs,g,rs=>TkRel S H pls roots ks vs ts qs g rs
 | .look::ks,_::vs,.look::ts,qs,g,rs=>TkRel S H pls roots ks vs ts qs g rs
 | .no::ks,v::vs,.own q::ts,qs,g,rs=>∃ ws f1 f2,v=valOf q.1 ws∧Rep S H q.1 ws q.2 f1∧g=f1++f2∧TkRel S H pls roots ks vs ts qs f2 rs
 | _,_,_,_,_,_=>False
theorem TkRel.roots {S:Stab}{H:Heap}{pls:Nat→Pl}{roots roots':Nat→Option Root} (hr:∀ i r,roots i=some r→roots' i=some r):∀ {ks:List PK}{vs:List Value}{ts:List Took}{qs:List Plc}{g rs:List Nat},
  TkRel S H pls roots ks vs ts qs g rs→TkRel S H pls roots' ks vs ts qs g rs:=by
 intro ks
 induction ks with
 | nil =>
  intro vs ts qs g rs h
  cases vs <;> cases ts <;> cases qs <;> simp only [TkRel] at h ⊢
  exact h
 | cons k ks ih =>
  intro vs ts qs g rs h
  cases vs with
  | nil=>cases k <;> simp only [TkRel] at h
  | cons v vs =>
   cases ts with
   | nil=>cases k <;> simp only [TkRel] at h
   | cons t ts =>
    cases k with
    | io sb =>
     cases t <;> cases qs <;> simp only [TkRel] at h ⊢
     obtain ⟨h0,h1,h2,f1,f2,r1,r2,h3,h4,h5,h6,h7⟩:=h
     exact ⟨h0,h1,hr _ _ h2,f1,f2,r1,r2,h3,h4,h5,h6,ih h7⟩
    | look =>
     cases t <;> simp only [TkRel] at h ⊢
     exact ih h
    | no =>
     cases t <;> simp only [TkRel] at h ⊢
     ·exact ih h
     ·obtain ⟨ws,f1,f2,h1,h2,h3,h4⟩:=h
      exact ⟨ws,f1,f2,h1,h2,h3,ih h4⟩
theorem Holds.cellsAt' {pre post us:List Value}{n:Nat} (hl:us.length=n):(((pre++us++post).toArray.toList.drop pre.length).take n)=us:=by
 simp [← hl]
theorem takeX_spec:∀ (os:List Operand) (ks:List PK) (ps:List Ty){st st':St}{X:Nat→List Nat}{h:List Nat}{ts:List Took},Inv C w0 G st a w S pls X→Free w0 w G S X h →
  takeX st os ks ps=some (ts,st')→∃ X' g rs qs,Inv C w0 G st' a w S pls X'∧Free w0 w G S X' (h++(g++rs))∧TkRel S (hp w) pls st.roots ks (os.map a.eval) ts qs g rs∧(∀ i r,st'.roots i=some r→st.roots i=some r):=by
 intro os
 induction os with
 | nil =>
  intro ks ps st st' X h ts hI hF ht
  cases ks <;> cases ps <;> simp only [takeX,sI,Prod.mk.injEq,reduceCtorEq] at ht
  obtain ⟨rfl,rfl⟩:=ht
  exact ⟨X,[],[],[],hI,by simpa using hF,⟨rfl,rfl⟩,fun _ _ h=>h⟩
 | cons o os ih =>
  intro ks ps st st' X h ts hI hF ht
  cases ks with
  | nil=>cases ps <;> simp [takeX] at ht
  | cons k ks =>
   cases ps with
   | nil=>cases k <;> simp [takeX] at ht
   | cons σ ps =>
    cases k with
    | io sb =>
     simp only [takeX] at ht
     split at ht
     ·rename_i id p he
      split at ht
      ·cases ht
      rename_i hsb
      split at ht
      ·rename_i r hr
       split at ht
       ·rename_i q hg
        split at ht
        ·rename_i l st2 h2
         cases ht
         have hv:=hI.opnd o
         rw [he] at hv
         obtain ⟨r',hr',σ',y',vs,l0,vs',b,off,g1,g2,g3,g4,g5⟩:=hv
         rw [hr] at hr';cases hr'
         obtain ⟨q1,q2⟩:=q
         rw [hg] at g1;cases g1
         obtain ⟨pq,f,rest,p0,p1,p3,p4,p5⟩:=(hI.roots id r hr).lend (hI.nd id) id hg g2 g3 g4
         have hk:=hI.kill id
         have hFk:Free w0 w G S (upd X id []) (h++(f++rest)):=by
          have h0:Free w0 w G S (upd X id []) (h++X id):=by
           refine ⟨fun q hq=>?_,?_,fun i q hq hq'=>?_⟩
           ·simp only [List.mem_append] at hq
            rcases hq with hq | hq
            ·exact hF.ok q hq
            ·exact hI.own id q hq
           ·refine List.nodup_append.2 ⟨hF.nd,hI.nd id,?_⟩
            rintro q hq q' hq' rfl
            exact hF.dis id q hq hq'
           ·by_cases e:i=id
            ·subst e;simp at hq'
            ·rw [upd_other _ _ e] at hq'
             simp only [List.mem_append] at hq
             rcases hq with hq | hq
             ·exact hF.dis i q hq hq'
             ·exact hI.dis id i q (Ne.symm e) hq hq'
          exact h0.perm (List.Perm.append_left h p4.symm)
         obtain ⟨X',g,rs,qs,k1,k2,k3,k4⟩:=ih ks ps hk hFk h2
         refine ⟨X',f++g,rest++rs,pq::qs,k1,?_,?_,?_⟩
         ·refine k2.perm ?_
          simp only [List.append_assoc]
          refine List.Perm.append_left h (List.Perm.append_left f ?_)
          exact List.perm_append_comm_assoc g rest rs
         ·refine ⟨by rw [p0];simpa using hsb,?_,hr,f,g,rest,rs,p3,p5,rfl,rfl,k3.roots ?_⟩
          ·rw [p1];exact g5
          ·intro i r' hr'
           simp only [St.kill] at hr'
           split at hr'
           ·cases hr'
           ·exact hr'
         ·intro i r' hr'
          have:=k4 i r' hr'
          simp only [St.kill] at this
          split at this
          ·cases this
          ·exact this
        ·cases ht
       ·cases ht
      ·cases ht
     ·rename_i id p he
      split at ht
      ·cases ht
      rename_i hsb
      split at ht
      ·rename_i r hr
       split at ht
       ·rename_i q hg
        split at ht
        ·rename_i l st2 h2
         cases ht
         have hv:=hI.opnd o
         rw [he] at hv
         obtain ⟨r',hr',σ',y',vs,l0,vs',l',g1,g2,g3,g4,g5⟩:=hv
         rw [hr] at hr';cases hr'
         obtain ⟨q1,q2⟩:=q
         rw [hg] at g1;cases g1
         obtain ⟨pq,f,rest,p0,p1,p3,p4,p5⟩:=(hI.roots id r hr).lendS (hI.nd id) id hg g2 g3 g4
         have hk:=hI.kill id
         have hFk:Free w0 w G S (upd X id []) (h++(f++rest)):=by
          have h0:Free w0 w G S (upd X id []) (h++X id):=by
           refine ⟨fun q hq=>?_,?_,fun i q hq hq'=>?_⟩
           ·simp only [List.mem_append] at hq
            rcases hq with hq | hq
            ·exact hF.ok q hq
            ·exact hI.own id q hq
           ·refine List.nodup_append.2 ⟨hF.nd,hI.nd id,?_⟩
            rintro q hq q' hq' rfl
            exact hF.dis id q hq hq'
           ·by_cases e:i=id
            ·subst e;simp at hq'
            ·rw [upd_other _ _ e] at hq'
             simp only [List.mem_append] at hq
             rcases hq with hq | hq
             ·exact hF.dis i q hq hq'
             ·exact hI.dis id i q (Ne.symm e) hq hq'
          exact h0.perm (List.Perm.append_left h p4.symm)
         obtain ⟨X',g,rs,qs,k1,k2,k3,k4⟩:=ih ks ps hk hFk h2
         refine ⟨X',f++g,rest++rs,pq::qs,k1,?_,?_,?_⟩
         ·refine k2.perm ?_
          simp only [List.append_assoc]
          refine List.Perm.append_left h (List.Perm.append_left f ?_)
          exact List.perm_append_comm_assoc g rest rs
         ·refine ⟨by rw [p0];simpa using hsb,?_,hr,f,g,rest,rs,p3,p5,rfl,rfl,k3.roots ?_⟩
          ·rw [p1];exact g5
          ·intro i r' hr'
           simp only [St.kill] at hr'
           split at hr'
           ·cases hr'
           ·exact hr'
         ·intro i r' hr'
          have:=k4 i r' hr'
          simp only [St.kill] at this
          split at this
          ·cases this
          ·exact this
        ·cases ht
       ·cases ht
      ·cases ht
     ·cases ht
    | look =>
     simp only [takeX] at ht
     split at ht
     ·rename_i l st1 h1
      cases ht
      obtain ⟨X',g,rs,qs,k1,k2,k3,k4⟩:=ih ks ps hI hF h1
      exact ⟨X',g,rs,qs,k1,k2,k3,k4⟩
     ·cases ht
    | no =>
     simp only [takeX] at ht
     split at ht
     ·split at ht
      ·rename_i l st1 h1
       cases ht
       obtain ⟨X',g,rs,qs,k1,k2,k3,k4⟩:=ih ks ps hI hF h1
       exact ⟨X',g,rs,qs,k1,k2,k3,k4⟩
      ·cases ht
     ·split at ht
      ·rename_i q st1 h1
       split at ht
       ·rename_i l st2 h2
        cases ht
        obtain ⟨X1,g1,ws,m1,m2,m3,m4,m5⟩:=take_spec hI hF (hI.opnd o) h1
        obtain ⟨X',g,rs,qs,k1,k2,k3,k4⟩:=ih ks ps m1 m2 h2
        refine ⟨X',g1++g,rs,qs,k1,by simpa using k2,⟨ws,g1,g,m3,m4,rfl,k3.roots m5⟩,fun i r hr=>m5 i r (k4 i r hr)⟩
       ·cases ht
      ·cases ht
theorem HeldAt.coe {S:Stab}{H:Heap}{τ σ:Ty}{q:Plc}{x:τ.D}{y:σ.D}{f:List Nat} (hc:coe0 τ σ x=some y) (h:HeldAt S H τ q x f):HeldAt S H σ q y f:=by
 obtain ⟨B,pre,post,el,fr,hd⟩:=q
 cases hd with
 | none =>
  obtain ⟨ws,f1,h1,h2,h3,rfl⟩:=h
  exact ⟨ws,f1,h1,h2,coe0_rep hc h3,rfl⟩
 | some v=>exact ⟨coe0_rep hc h.1,by rw [← skel_agg (coe0_skel hc)];exact h.2⟩
theorem lookV_spec (hI:Inv C w0 G st a w S pls X){tv:TV}{val:Value} (hv:TRel S (hp w) pls st.roots val tv){σ:Ty}{y:σ.D} (h:lookV st tv σ=some y) :
  LookRel (SL S X) (hp w) σ val y:=by
 have hlend:∀ {q:Σ τ:Ty,τ.D},lendTo q σ=some y→q.1.size=σ.size:=by
  intro q hq
  have:=skel_size_eq (coe0_skel hq)
  rw [Ty.share_size] at this
  exact this
 unfold lookV at h
 split at h
 ·rename_i τ x
  obtain ⟨b,off,c,el,fr,e1,e2,e3,e4,m,e5⟩:=hv
  split at h
  ·rename_i y' hc
   cases h
   have hsz:=skel_size_eq (coe0_skel hc)
   exact ⟨b,off,c,el,fr,e1,e2,by rw [← hsz];exact e3,by rw [← hsz];exact Rep.stab (fun _ _ h=>.inl h) (coe0_rep hc e4),m,.inl e5⟩
  ·have hsz:=hlend h
   simp only at hsz
   obtain ⟨_,h2⟩:=lendTo_rep hI (q:=⟨τ,x⟩) e4 (by simp) h
   exact ⟨b,off,c,el,fr,e1,e2,by rw [← hsz];exact e3,by rw [← hsz];exact h2,m,.inl e5⟩
 ·rename_i id p
  split at h
  ·rename_i r hr
   split at h
   ·rename_i q hg
    obtain ⟨r',hr',σ',y',vs,l0,vs',b,off,g1,g2,g3,g4,g5⟩:=hv
    rw [hr] at hr';cases hr'
    obtain ⟨q1,q2⟩:=q
    rw [hg] at g1;cases g1
    obtain ⟨pq,f,rest,p0,p1,p3,p4,p5⟩:=(hI.roots id r hr).lend (hI.nd id) id hg g2 g3 g4
    obtain ⟨B,pre,post,el,fr,hd⟩:=pq
    cases hd with
    | some _=>simp at p0
    | none =>
     obtain ⟨ws,f1,h1,h2,h3,rfl⟩:=p3
     have hmem:∀ b'∈B::f1,b'∈X id:=fun b' hb'=>p4.mem_iff.2 (List.mem_append.2 (.inl hb'))
     have hl:=h3.length
     simp only at h1
     have hk:σ'.size=σ.size∧Rep (SL S X) (hp w) σ ws y []:=by
      have hlt:lendTo ⟨σ',y'⟩ σ=some y→σ'.size=σ.size∧Rep (SL S X) (hp w) σ ws y []:=fun h =>
       ⟨hlend h,(lendTo_rep hI (q:=⟨σ',y'⟩) h3 (fun b' hb'=>⟨id,hmem b' (by simp [hb'])⟩) h).2⟩
      split at h
      ·rename_i hpl
       split at h
       ·rename_i y2 hc
        cases h
        have hf:=h3.plain hpl
        subst hf
        exact ⟨skel_size_eq (coe0_skel hc),Rep.stab (fun _ _ h=>.inl h) (coe0_rep hc h3)⟩
       ·exact hlt h
      ·exact hlt h
     obtain ⟨hsz,k2⟩:=hk
     refine ⟨B,pre.length,_,el,fr,?_,h1,?_,?_,.lend,.inr ⟨rfl,id,hmem B (by simp)⟩⟩
     ·rw [g5];simp only [Plc.ptr] at p1;rw [p1]
     ·simp;omega
     ·rw [Holds.cellsAt' (by rw [← hsz];exact hl)];exact k2
   ·cases h
  ·cases h
 ·cases h
theorem mkX_spec {roots:Nat→Option Root} (hI:Inv C w0 G st a w S pls X):∀ (os:List Operand) (ks:List PK) (ts:List Took) (ps:List Ty){qs:List Plc}{g rs:List Nat}{xs:LD ps},ks.length=ps.length →
  TkRel S (hp w) pls roots ks (os.map a.eval) ts qs g rs→mkX st os ts ps=some xs→ParRel (SL S X) (hp w) ks ps (os.map a.eval) qs xs g:=by
 intro os
 induction os with
 | nil =>
  intro ks ts ps qs g rs xs hl ht hm
  cases ts with
  | nil=>cases ps with
   | nil =>
    cases ks with
    | nil=>cases qs <;> simp only [TkRel,List.map_nil] at ht;exact ht.1
    | cons _ _=>simp at hl
   | cons _ _=>simp [mkX] at hm
  | cons t ts=>cases ps <;> simp [mkX] at hm
 | cons o os ih =>
  intro ks ts ps qs g rs xs hl ht hm
  cases ts with
  | nil=>cases ps <;> simp [mkX] at hm
  | cons t ts =>
   cases ps with
   | nil=>simp [mkX] at hm
   | cons σ ps =>
    cases ks with
    | nil=>simp at hl
    | cons k ks =>
     simp only [mkX] at hm
     split at hm
     ·rename_i x xs' h1 h2
      cases hm
      simp only [List.length_cons,Nat.add_right_cancel_iff] at hl
      simp only [List.map_cons] at ht ⊢
      cases t with
      | look =>
       cases k with
       | io sb=>cases qs <;> simp only [TkRel] at ht
       | no=>simp only [TkRel] at ht
       | look =>
        simp only [TkRel] at ht
        simp only at h1
        exact ⟨lookV_spec hI (hI.opnd o) h1,ih ks ts ps hl ht h2⟩
      | no =>
       cases k with
       | io sb=>cases qs <;> simp only [TkRel] at ht
       | look=>simp only [TkRel] at ht
       | no =>
        simp only [TkRel] at ht
        simp only at h1
        obtain ⟨ws,e,hr⟩:=plainV_spec hI (hI.opnd o) h1
        exact ⟨ws,[],g,e,hr,rfl,ih ks ts ps hl ht h2⟩
      | own q =>
       cases k with
       | io sb=>cases qs <;> simp only [TkRel] at ht
       | look=>simp only [TkRel] at ht
       | no =>
        simp only [TkRel] at ht
        simp only at h1
        obtain ⟨ws,f1,f2,e,hr,rfl,ht⟩:=ht
        exact ⟨ws,f1,f2,by rw [← valOf_like (skel_agg (coe0_skel h1))];exact e,Rep.stab (fun _ _ h=>.inl h) (coe0_rep h1 hr),rfl,ih ks ts ps hl ht h2⟩
      | io e =>
       cases k with
       | no=>simp only [TkRel] at ht
       | look=>simp only [TkRel] at ht
       | io sb =>
        cases qs with
        | nil=>simp only [TkRel] at ht
        | cons q qs =>
         simp only [TkRel] at ht
         simp only at h1
         obtain ⟨e0,e1,_,f1,f2,r1,r2,hh,_,rfl,rfl,ht⟩:=ht
         exact ⟨e0,e1,f1,f2,(hh.coe h1).stab (fun _ _ h=>.inl h),rfl,ih ks ts ps hl ht h2⟩
     ·cases hm
def LentRel (S:Stab) (H:Heap) (pls:Nat→Pl) (roots:Nat→Option Root):List Lent→List Plc→List Nat→Prop
 | [],[],rs=>rs=[]
 | e::es,q::qs,rs=>roots e.id=some e.r∧∃ r1 r2,Restores S H (pls e.id) e q r1∧rs=r1++r2∧LentRel S H pls roots es qs r2
 | _,_,_=>False
theorem TkRel.lents {S:Stab}{H:Heap}{pls:Nat→Pl}{roots:Nat→Option Root}:∀ {ks:List PK}{vs:List Value}{ts:List Took}{qs:List Plc}{g rs:List Nat},
  TkRel S H pls roots ks vs ts qs g rs→LentRel S H pls roots (lents ts) qs rs:=by
 intro ks
 induction ks with
 | nil =>
  intro vs ts qs g rs h
  cases vs <;> cases ts <;> cases qs <;> simp only [TkRel] at h
  exact h.2
 | cons k ks ih =>
  intro vs ts qs g rs h
  cases vs with
  | nil=>cases k <;> simp only [TkRel] at h
  | cons v vs =>
   cases ts with
   | nil=>cases k <;> simp only [TkRel] at h
   | cons t ts =>
    cases k with
    | io sb =>
     cases t <;> cases qs <;> simp only [TkRel] at h
     obtain ⟨_,h1,h2,f1,f2,r1,r2,h3,h4,h5,h6,h7⟩:=h
     exact ⟨h2,r1,r2,h4,h6,ih h7⟩
    | look =>
     cases t <;> simp only [TkRel] at h
     show LentRel S H pls roots (Rf.lents ts) qs rs
     exact ih h
    | no =>
     cases t <;> simp only [TkRel] at h
     ·show LentRel S H pls roots (Rf.lents ts) qs rs
      exact ih h
     ·obtain ⟨ws,f1,f2,h1,h2,h3,h4⟩:=h
      show LentRel S H pls roots (Rf.lents ts) qs rs
      exact ih h4
theorem VRel.more {S:Stab}{H:Heap}{pls pls':Nat→Pl}{roots roots':Nat→Option Root}{X:Nat→List Nat}{val:Value}{v:AV} (hroots:∀ id r,roots id=some r→RootRel S H (pls id) r (X id))
  (hm:∀ i r,roots i=some r→roots' i=some r∧pls' i=pls i) (h:VRel S H pls roots val v):VRel S H pls' roots' val v:=by
 refine VRel.heap hroots (fun _ _ _=>rfl) (fun _ _ h=>h) (fun id hid=>?_) h
 obtain ⟨r,hr⟩:=live (tv:=.a v) h hid
 obtain ⟨h1,h2⟩:=hm id r hr
 exact ⟨by rw [h1,hr],h2,fun _ _=>rfl⟩
theorem outX_spec {S1:Stab}{H1:Heap}{pls0:Nat→Pl}{roots0:Nat→Option Root}{st0:St}{base:Nat} (hSS:∀ m b,S1 m b→S m b) (hH1:∀ m b,S1 m b→hp w b=H1 b)
  (htm:∀ t i p,st0.tmps t=.a (.ptr i p)→VRel S1 H1 pls0 roots0 (a.tmps.getD t undef) (.ptr i p)) (htr:∀ t i p,st0.tmps t=.a (.ref i p)→VRel S1 H1 pls0 roots0 (a.tmps.getD t undef) (.ref i p)) (hpin:∀ i r,roots0 i=some r→r.k.io=true→G.z i=some (pls0 i)) :
  ∀ (ks:List OutK) (l:List Ty){st st':St}{pls:Nat→Pl}{X:Nat→List Nat}{rv:List Value}{qs:List Plc}{x:LD l}{g rs:List Nat}{es:List Lent}{i:Nat}{as:List AV},Inv C w0 G st a w S pls X →
   Free w0 w G S X (g++rs)→(∀ b∈rs,hp w b=H1 b)→OutRel S (hp w) ks l rv qs x g→LentRel S1 H1 pls0 roots0 es qs rs→outX st0 base ks l x es st i=some (as,st') →
   ∃ pls' X',Inv C w0 G st' a w S pls' X'∧LRel S (hp w) pls' st'.roots rv as∧(∀ j r,st.roots j=some r→st'.roots j=some r∧pls' j=pls j):=by
 intro ks
 induction ks with
 | nil =>
  intro l st st' pls X rv qs x g rs es i as hI hF hrs ho hl h
  cases l with
  | cons _ _=>simp [outX] at h
  | nil =>
   cases es with
   | cons _ _=>simp [outX] at h
   | nil =>
    simp only [outX,sI,Prod.mk.injEq] at h
    obtain ⟨rfl,rfl⟩:=h
    cases rv <;> cases qs <;> simp only [OutRel] at ho
    exact ⟨pls,X,hI,trivial,fun _ _ h=>⟨h,rfl⟩⟩
 | cons k ks ih =>
  intro l st st' pls X rv qs x g rs es i as hI hF hrs ho hl h
  cases l with
  | nil=>cases k <;> simp [outX] at h
  | cons τ l =>
   cases k with
   | val =>
    cases rv with
    | nil=>simp only [OutRel] at ho
    | cons v rv =>
     simp only [OutRel] at ho
     obtain ⟨ws,f1,f2,rfl,hr,rfl,ho⟩:=ho
     simp only [outX] at h
     split at h
     ·rename_i hp
      have hf:=hr.plain hp
      subst hf
      split at h
      ·rename_i as' st2 h2
       cases h
       obtain ⟨pls',X',k1,k2,k3⟩:=ih l hI (by simpa using hF) hrs ho hl h2
       exact ⟨pls',X',k1,⟨⟨ws,rfl,hr⟩,k2⟩,k3⟩
      ·cases h
     ·split at h
      ·rename_i h0
       split at h
       ·rename_i as' st2 h2
        cases h
        have hF1:Free w0 w G S X f1:=hF.sub (by simp [List.append_assoc])
        obtain ⟨n1,n2⟩:=hI.newVal h0 hr hF1
        have hF2:Free w0 w G S (upd X (base+i) f1) (f2++rs):=by
         have hnd:=hF.nd
         rw [List.append_assoc] at hnd
         refine ⟨fun q hq=>hF.ok q (by simp only [List.mem_append] at hq ⊢;rcases hq with h | h <;> simp [h]),(List.nodup_append.1 hnd).2.1,fun j q hq hq'=>?_⟩
         by_cases e:j=base+i
         ·subst e
          rw [upd_same] at hq'
          exact (List.nodup_append.1 hnd).2.2 q hq' q hq rfl
         ·rw [upd_other _ _ e] at hq'
          exact hF.dis j q (by simp only [List.mem_append] at hq ⊢;rcases hq with h | h <;> simp [h]) hq'
        obtain ⟨pls',X',k1,k2,k3⟩:=ih l n1 hF2 hrs ho hl h2
        refine ⟨pls',X',k1,⟨n2.more n1.roots k3,k2⟩,fun j r hr'=>?_⟩
        have hne:j≠base+i:=by rintro rfl;rw [h0] at hr';cases hr'
        obtain ⟨m1,m2⟩:=k3 j r (by simp only [St.root,if_neg hne];exact hr')
        exact ⟨m1,by rw [m2,upd_other _ _ hne]⟩
       ·cases h
      ·cases h
   | ptr =>
    cases rv with
    | nil=>simp only [OutRel] at ho
    | cons v rv =>
     simp only [OutRel] at ho
     obtain ⟨q,f1,f2,hq0,rfl,hr,rfl,ho⟩:=ho
     obtain ⟨qB,qpre,qpost,qel,qfr,qhd⟩:=q
     simp only at hq0
     subst hq0
     simp only [outX] at h
     split at h
     ·rename_i h0
      split at h
      ·rename_i as' st2 h2
       cases h
       have hF1:Free w0 w G S X f1:=hF.sub (by simp [List.append_assoc])
       obtain ⟨ws,f3,a1,a2,a3,rfl⟩:=hr
       have hh:Holds (hp w) (.mem qB qpre qpost qel qfr) τ.size ws (some (qB,qpre.length)):=⟨a1,a3.length,rfl,a2⟩
       have n1:=hI.newRoot (d:=base+i) (r:=⟨.box false,τ,x.1⟩) (pl:=.mem qB qpre qpost qel qfr) (Y:=qB::f3) h0 ⟨ws,_,f3,hh,a3,rfl⟩ hF1.ok hF1.nd (fun j _ b hb=>hF1.dis j b hb) (by simp [RK.io])
       have n2:VRel S (hp w) (upd pls (base+i) (.mem qB qpre qpost qel qfr)) (st.root (base+i) ⟨.box false,τ,x.1⟩).roots (Plc.ptr ⟨qB,qpre,qpost,qel,qfr,none⟩) (.ptr (base+i) []) :=
        ⟨⟨.box false,τ,x.1⟩,by simp [St.root],τ,x.1,ws,_,ws,qB,qpre.length,rfl,trivial,by rw [upd_same];exact hh,⟨rfl,rfl⟩,rfl⟩
       have hF2:Free w0 w G S (upd X (base+i) (qB::f3)) (f2++rs):=by
        have hnd:=hF.nd
        rw [List.append_assoc] at hnd
        refine ⟨fun q hq=>hF.ok q (by simp only [List.mem_append] at hq ⊢;rcases hq with h | h <;> simp [h]),(List.nodup_append.1 hnd).2.1,fun j q hq hq'=>?_⟩
        by_cases e:j=base+i
        ·subst e
         rw [upd_same] at hq'
         exact (List.nodup_append.1 hnd).2.2 q hq' q hq rfl
        ·rw [upd_other _ _ e] at hq'
         exact hF.dis j q (by simp only [List.mem_append] at hq ⊢;rcases hq with h | h <;> simp [h]) hq'
       obtain ⟨pls',X',k1,k2,k3⟩:=ih l n1 hF2 hrs ho hl h2
       refine ⟨pls',X',k1,⟨n2.more n1.roots k3,k2⟩,fun j r hr'=>?_⟩
       have hne:j≠base+i:=by rintro rfl;rw [h0] at hr';cases hr'
       obtain ⟨m1,m2⟩:=k3 j r (by simp only [St.root,if_neg hne];exact hr')
       exact ⟨m1,by rw [m2,upd_other _ _ hne]⟩
      ·cases h
     ·cases h
   | io =>
    cases qs with
    | nil=>cases rv <;> simp only [OutRel] at ho
    | cons q qs =>
     have ho':∃ f1 f2,HeldAt S (hp w) τ q x.1 f1∧g=f1++f2∧OutRel S (hp w) ks l rv qs x.2 f2:=by
      cases rv <;> exact ho
     clear ho
     obtain ⟨f1,f2,hheld,rfl,ho⟩:=ho'
     cases es with
     | nil=>simp [outX] at h
     | cons e es =>
      obtain ⟨hre,r1,r2,hres,rfl,hl⟩:=hl
      simp only [outX] at h
      split at h
      ·rename_i τn xn hs h0
       split at h
       ·rename_i hsk
        obtain ⟨Y,vsn,ln,b1,b2,b3,b4,b5⟩:=hres S (hp w) τ x.1 f1 τn xn hSS hH1 (fun b hb=>hrs b (by simp [hb])) hheld hs hsk
        have hperm:(f1++f2++(r1++r2)).Perm (Y++(f2++r2)):=by
         refine List.Perm.trans ?_ (List.Perm.append_right _ b2.symm)
         simp only [List.append_assoc]
         refine List.Perm.append_left f1 ?_
         exact List.perm_append_comm_assoc f2 r1 r2
        have hFY:Free w0 w G S X (Y++(f2++r2)):=hF.perm hperm.symm
        have hY:Free w0 w G S X Y:=hFY.sub (List.sublist_append_left _ _)
        have n1:=hI.newRoot (d:=e.id) (r:=⟨e.r.k,τn,xn⟩) (pl:=pls0 e.id) (Y:=Y) h0 b1 hY.ok hY.nd (fun j _ b hb=>hY.dis j b hb) (fun hk=>hpin _ _ hre hk)
        have n2:Inv C w0 G (St.renew st0 st e.id ⟨e.r.k,τn,xn⟩) a w S (upd pls e.id (pls0 e.id)) (upd X e.id Y):=by
         refine n1.retmp0 rfl (fun t=>?_)
         have hold:=n1.tmps t
         simp only [St.renew]
         split
         ·rename_i j p ht
          split
          ·rename_i hc
           obtain ⟨rfl,hix⟩:=hc
           obtain ⟨r0,hr0,σ0,y0,v0,l0,v1,b,off,c1,c2,c3,c4,c5⟩:=htm t _ _ ht
           rw [hre] at hr0;cases hr0
           obtain ⟨d1,d2⟩:=b5 v0 l0 c3
           obtain ⟨σ',y',v1',q1,q2,q3⟩:=at_skel (H':=hp w) p (τ':=τn) xn hix b4 c1 d2 c4
           exact ⟨⟨e.r.k,τn,xn⟩,by simp,σ',y',vsn,l0,v1',b,off,q1,q2,by rw [upd_same,← d1];exact b3,q3,c5⟩
          ·exact hold
         ·rename_i j p ht
          split
          ·rename_i hc
           obtain ⟨rfl,hix,hvk⟩:=hc
           obtain ⟨r0,hr0,σ0,y0,v0,l0,v1,l1,c1,c2,c3,c4,c5⟩:=htr t _ _ ht
           rw [hre] at hr0;cases hr0
           obtain ⟨us,hus⟩:∃ us,pls0 e.id=.val us:=by
            cases hpl:pls0 e.id with
            | val us=>exact ⟨us,rfl⟩
            | mem=>cases hk:e.r.k <;> rw [hk,hpl] at b1 <;> simp [RootRel,RK.isVal,hk] at b1 hvk
           rw [hus] at c3 b3
           obtain ⟨rfl,rfl⟩:=c3
           obtain ⟨rfl,rfl⟩:=b3
           obtain ⟨σ',y',q1,q2,q3,q4⟩:=at_same (H':=hp w) p (τ':=τn) xn hix b4 c1 c4
           exact ⟨⟨e.r.k,τn,xn⟩,by simp,σ',y',vsn,none,v1,l1,q1,q2,by rw [upd_same,hus];exact ⟨rfl,rfl⟩,q3,by rw [c5,valOf_like (skel_agg q4)]⟩
          ·exact hold
         ·exact hold
        have hF2:Free w0 w G S (upd X e.id Y) (f2++r2):=by
         refine ⟨fun q hq=>hFY.ok q (by simp only [List.mem_append] at hq ⊢;exact .inr hq),(List.nodup_append.1 hFY.nd).2.1,fun j q hq hq'=>?_⟩
         by_cases e':j=e.id
         ·subst e'
          rw [upd_same] at hq'
          exact (List.nodup_append.1 hFY.nd).2.2 q hq' q hq rfl
         ·rw [upd_other _ _ e'] at hq'
          exact hFY.dis j q (by simp only [List.mem_append] at hq ⊢;exact .inr hq) hq'
        obtain ⟨pls',X',k1,k2,k3⟩:=ih l n2 hF2 (fun b hb=>hrs b (by simp [hb])) ho hl h
        refine ⟨pls',X',k1,k2,fun j r hr'=>?_⟩
        have hne:j≠e.id:=by rintro rfl;rw [h0] at hr';cases hr'
        obtain ⟨m1,m2⟩:=k3 j r (by simp only [St.renew,if_neg hne];exact hr')
        exact ⟨m1,by rw [m2,upd_other _ _ hne]⟩
       ·cases h
      ·cases h
theorem lrel_ret {H:Heap}{roots:Nat→Option Root}:∀ {rv:List Value}{as:List AV},LRel S H pls roots rv as→TRel S H pls roots (retVal rv) (tvL as):=by
 intro rv as h
 match rv,as,h with
 | [],[],_=>exact trivial
 | [v],[b],h=>exact h.1
 | v::u::vs,b::c::as,h=>exact ⟨v::u::vs,rfl,h⟩
theorem takeX_len:∀ {os:List Operand}{ks:List PK}{ps:List Ty}{st:St}{q:List Took×St},takeX st os ks ps=some q→ks.length=ps.length:=by
 intro os
 induction os with
 | nil =>
  intro ks ps st q h
  cases ks <;> cases ps <;> simp [takeX] at h
  rfl
 | cons o os ih =>
  intro ks ps st q h
  cases ks with
  | nil=>cases ps <;> simp [takeX] at h
  | cons k ks =>
   cases ps with
   | nil=>cases k <;> simp [takeX] at h
   | cons σ ps =>
    simp only [List.length_cons,Nat.add_right_cancel_iff]
    cases k with
    | io sb =>
     simp only [takeX] at h
     split at h
     ·split at h
      ·cases h
      split at h
      ·split at h
       ·split at h
        ·rename_i h2;exact ih h2
        ·cases h
       ·cases h
      ·cases h
     ·split at h
      ·cases h
      split at h
      ·split at h
       ·split at h
        ·rename_i h2;exact ih h2
        ·cases h
       ·cases h
      ·cases h
     ·cases h
    | look =>
     simp only [takeX] at h
     split at h
     ·rename_i h2;exact ih h2
     ·cases h
    | no =>
     simp only [takeX] at h
     split at h
     ·split at h
      ·rename_i h2;exact ih h2
      ·cases h
     ·split at h
      ·split at h
       ·rename_i h2;exact ih h2
       ·cases h
      ·cases h
theorem callX_done {fx:Nat→Option Fx}{n:Nat} (hf:∀ fid f,fx fid=some f→CtrX P C.V fid f) (hI:Inv C w0 G st a w S pls X){dst:Option Nat} (hd:∀ d,dst=some d→d<C.n)
  {callee:Callee}{args:Array Operand}{argTypes:Array TypeId}{st':St} (h:callX fx n st dst callee args.toList some=some st'){ty:TypeId}{pos:String}{after:Array Edge}{guard:Option (Nat×Bool)} :
  Done P C w0 G S a w ⟨dst,.call ⟨callee,args,argTypes⟩,ty,pos,after,guard⟩ st':=by
 unfold callX at h
 split at h
 ·rename_i fid
  split at h
  ·rename_i f hfid
   split at h
   ·rename_i tk st1 ht
    split at h
    ·rename_i xs hm
     obtain ⟨r,hr,h⟩:=Option.bind_eq_some_iff.1 h
     split at h
     ·rename_i as st2 hout
      cases h
      obtain ⟨X1,g,rs,qs,k1,k2,k3,k4⟩:=takeX_spec _ _ _ hI (Free.nil (w0:=w0) (w:=w) (G:=G) (S:=S) (X:=X)) ht
      simp only [List.nil_append] at k2
      have ha:=mkX_spec k1 _ _ _ _ (takeX_len ht) k3 hm
      have hc:=hf fid f hfid
      have kg:Free w0 w G S X1 g:=k2.sub (List.sublist_append_left _ _)
      intro K Q hK
      have hexec:(execOp a.eval ⟨dst,.call ⟨.value (.func fid),args,argTypes⟩,ty,pos,after,guard⟩).run P w=.ok (.enter fid (args.toList.map a.eval).toArray) w:=by
       have e:(args.map a.eval)=(args.toList.map a.eval).toArray:=by apply Array.ext';simp
       simp [execOp,resolve,invoke,Act.eval,Deferred.ofValue,hc.enters]
       exact e
      simp only [Oper.wp,hexec,Oper.upon]
      refine (hc.calls w (SL S X1) xs _ qs g r ?_ ?_ ⟨fun b hb=>.inl (k1.glb.1 b hb),k1.glb.2⟩ ha kg.nd ?_ hr).mono ?_
      ·rintro m b (h | ⟨_,id,h⟩)
       ·exact hI.stab m b h
       ·exact (k1.own id b h).1
      ·rintro b (h | ⟨h,_⟩)
       ·exact .inl (hI.kl b h)
       ·cases h
      ·intro b hb
       refine ⟨(kg.ok b hb).1,?_⟩
       rintro m (h | ⟨_,id,h⟩)
       ·exact (kg.ok b hb).2.1 m h
       ·exact kg.dis id b hb h
      ·rintro e w' ⟨rv,T,g',rfl,h1,h2,h3,h4,h5⟩
       have hI':=k1.after kg h1 h3
       have hmono:∀ m b,T b→(fun m b=>S m b∨T b:Stab) m b:=fun _ _ h=>.inr h
       have hnd0:=List.nodup_append.1 k2.nd
       have hF':Free w0 w' G (fun m b=>S m b∨T b) X1 (g'++rs):=by
        refine ⟨fun b hb=>?_,?_,fun i b hb hX=>?_⟩
        ·simp only [List.mem_append] at hb
         rcases hb with hb | hb
         ·obtain ⟨m1,m2,m3⟩:=h5 b hb
          refine ⟨m1,?_,?_⟩
          ·rintro m (h' | h')
           ·have hlt:=hI.stab m b h'
            rcases m3 with m3 | m3
            ·omega
            ·exact (kg.ok b m3).2.1 m h'
           ·exact m2 h'
          ·rcases m3 with m3 | m3
           ·exact .inl (Nat.le_trans hI.frm.size m3)
           ·exact (kg.ok b m3).2.2
         ·obtain ⟨m1,m2,m3⟩:=k2.ok b (by simp [hb])
          refine ⟨Nat.lt_of_lt_of_le m1 h1.size,?_,m3⟩
          rintro m (h' | h')
          ·exact m2 m h'
          ·rcases (h3 b h').2 with (h'' | ⟨h'',_⟩) | h'' | h''
           ·exact m2 _ h''
           ·cases h''
           ·omega
           ·exact hnd0.2.2 b h'' b hb rfl
        ·refine List.nodup_append.2 ⟨h4,hnd0.2.1,?_⟩
         rintro b hb b' hb' rfl
         obtain ⟨_,_,m3⟩:=h5 b hb
         have:=(k2.ok b (by simp [hb'])).1
         rcases m3 with m3 | m3
         ·omega
         ·exact hnd0.2.2 b m3 b hb' rfl
        ·simp only [List.mem_append] at hb
         rcases hb with hb | hb
         ·obtain ⟨m1,m2,m3⟩:=h5 b hb
          have hlt:=(k1.own i b hX).1
          rcases m3 with m3 | m3
          ·omega
          ·exact kg.dis i b m3 hX
         ·exact k2.dis i b (by simp [hb]) hX
       have hstS:∀ m b,S m b→hp w' b=hp w b:=fun m b h=>h1.block b (hI.stab m b h) (fun hb=>(kg.ok b hb).2.1 m h)
       have h2':OutRel (fun m b=>S m b∨T b) (hp w') f.ks f.out rv qs r g':=OutRel.stab (fun _ _ h=>.inr h) _ _ h2
       obtain ⟨pls',X',n1,n2,_⟩:=outX_spec (S1:=S) (H1:=hp w) (pls0:=pls) (roots0:=st.roots) (st0:=st) (fun _ _ h=>.inl h) hstS
        (fun t i p e=>by have:=hI.tmps t;rw [e] at this;exact this) (fun t i p e=>by have:=hI.tmps t;rw [e] at this;exact this) (fun i r h1 h2=>hI.pin i r h1 h2) f.ks f.out hI' hF'
        (fun b hb=>h1.block b (k2.ok b (by simp [hb])).1 (fun hb'=>hnd0.2.2 b hb' b hb rfl)) h2' k3.lents hout
       refine hK (retVal rv) w' ⟨_,pls',X',n1.put hd (lrel_ret n2),fun _ _ h=>.inl h,hstS,?_,?_⟩
       rintro b (h | h)
       ·exact .inl h
       ·rcases (h3 b h).2 with (h' | ⟨h',_⟩) | h' | h'
        ·exact .inl h'
        ·cases h'
        ·exact .inr (.inl (Nat.le_trans hI.frm.size h'))
        ·exact .inr (kg.ok b h').2.2
       ·rintro m b (h | h)
        ·exact .inl ⟨m,h⟩
        ·rcases (h3 b h).2 with (h' | ⟨h',_⟩) | h' | h'
         ·exact .inl ⟨_,h'⟩
         ·cases h'
         ·exact .inr (.inl (Nat.le_trans hI.frm.size h'))
         ·exact .inr (kg.ok b h').2.2
     ·cases h
    ·cases h
   ·cases h
  ·cases h
 ·cases h
end
end Go.Rf
namespace Go.Rf
structure Inl where
 n:Nat
 rs:List (Nat×Array Oper)
 r:Nat
def inlRun {R:Type} (C:Cx):List Oper→St→(St→Option R)→Option R
 | [],st,K=>K st
 | o::l,st,K=>match o.guard,o.dst with
  | none,some d=>if d<C.n then pureK C st o.op fun tv=>inlRun C l (st.put (some d) tv) K else none
  | _,_=>none
def argAt (st:St) (args:List Operand) (t:Nat):TV:=match args[t]? with
 | some o=>opnd st o
 | none=>.a .junk
def inlOps (i:Inl):List Oper:=i.rs.flatMap fun r=>r.2.toList
def inlK {R:Type} (C:Cx) (inl:Nat→Option Inl) (st:St) (dst:Option Nat) (callee:Callee) (args:List Operand) (K:St→Option R):Option R :=
 match callee with
 | .value (.func fid)=>match inl fid with
  | some i=>if Nat.ble args.length i.n=true then inlRun { C with n:=i.n } (inlOps i) ⟨argAt st args,st.roots⟩ fun stc=>K (st.put dst (stc.tmps i.r)) else none
  | none=>none
 | _=>none
def InlOK (P:Program) (fid:Nat) (i:Inl):Prop :=
 (∀ args w,(callFunc fid args).run P w=.ok (.enter fid args) w) ∧
 ∀ {C:Cx}{w0 w:World}{G:Blk}{st:St}{a:Act}{S:Stab}{pls:Nat→Pl}{X:Nat→List Nat}{args:List Operand}{stc:St},TabOK P C.tab→Inv C w0 G st a w S pls X→args.length≤i.n →
  inlRun { C with n:=i.n } (inlOps i) ⟨argAt st args,st.roots⟩ some=some stc→Calls P fid (args.map a.eval).toArray w fun e w'=>∃ v,e=.returned v∧w'=w∧TRel S (hp w) pls st.roots v (stc.tmps i.r)
theorem inlRun_bind {R:Type} (C:Cx):∀ (l:List Oper) (st:St) (K:St→Option R),inlRun C l st K=(inlRun C l st some).bind K:=by
 intro l
 induction l with
 | nil=>intro st K;rfl
 | cons o l ih =>
  intro st K
  simp only [inlRun]
  split
  ·split
   ·rw [pureK_bind,pureK_bind C st o.op (fun tv=>inlRun C l (st.put _ tv) some),Option.bind_assoc]
    congr 1
    funext tv
    exact ih _ _
   ·rfl
  ·rfl
theorem inlK_bind {R:Type} (C:Cx) (inl:Nat→Option Inl) (st:St) (dst:Option Nat) (callee:Callee) (args:List Operand) (K:St→Option R):inlK C inl st dst callee args K=(inlK C inl st dst callee args some).bind K:=by
 unfold inlK
 split
 ·split
  ·split
   ·rw [inlRun_bind,inlRun_bind _ _ _ (fun stc=>some (st.put dst (stc.tmps _))),Option.bind_assoc]
    congr 1
   ·rfl
  ·rfl
 ·rfl
section
variable {P:Program}{C:Cx}{w0 w w':World}{G:Blk}{st st':St}{a:Act}{S:Stab}{pls:Nat→Pl}{X:Nat→List Nat}
theorem inl_done {inl:Nat→Option Inl} (hT:TabOK P C.tab) (hf:∀ fid i,inl fid=some i→InlOK P fid i) (hI:Inv C w0 G st a w S pls X){dst:Option Nat} (hd:∀ d,dst=some d→d<C.n)
  {callee:Callee}{args:Array Operand}{argTypes:Array TypeId}{st':St} (h:inlK C inl st dst callee args.toList some=some st'){ty:TypeId}{pos:String}{after:Array Edge}{guard:Option (Nat×Bool)} :
  Done P C w0 G S a w ⟨dst,.call ⟨callee,args,argTypes⟩,ty,pos,after,guard⟩ st':=by
 unfold inlK at h
 split at h
 ·rename_i fid
  split at h
  ·rename_i i hi
   split at h
   ·rename_i hlen
    have hlen:=Nat.le_of_ble_eq_true hlen
    rw [inlRun_bind] at h
    obtain ⟨stc,h1,h2⟩:=Option.bind_eq_some_iff.1 h
    cases h2
    have hc:=hf fid i hi
    intro K Q hK
    have hexec:(execOp a.eval ⟨dst,.call ⟨.value (.func fid),args,argTypes⟩,ty,pos,after,guard⟩).run P w=.ok (.enter fid (args.toList.map a.eval).toArray) w:=by
     have e:(args.map a.eval)=(args.toList.map a.eval).toArray:=by apply Array.ext';simp
     simp [execOp,resolve,invoke,Act.eval,Deferred.ofValue,hc.1]
     exact e
    simp only [Oper.wp,hexec,Oper.upon]
    refine (hc.2 hT hI hlen h1).mono ?_
    rintro e w' ⟨v,rfl,rfl,hv⟩
    exact hK v _ ⟨S,pls,X,hI.put hd hv,Grows.refl⟩
   ·cases h
  ·cases h
 ·cases h
end
end Go.Rf
namespace Go.Rf
def hollow:Ty→Ty
 | .pair a b=>.pair (hollow a) (hollow b)
 | .sl .own _=>.dead
 | τ=>τ
def hollowV:(τ:Ty)→τ.D→(hollow τ).D
 | .pair a b,x=>(hollowV a x.1,hollowV b x.2)
 | .sl .own _,_=>()
 | .sl .keep _,x=>x
 | .sl .lend _,x=>x
 | .int _,x=>x
 | .bool,x=>x
 | .str,x=>x
 | .nil,x=>x
 | .dead,x=>x
 | .unit,x=>x
 | .clo _ _,x=>x
theorem hollow_skel:∀ τ:Ty,(hollow τ).skel=τ.skel
 | .pair a b=>by simp [hollow,Ty.skel,hollow_skel a,hollow_skel b]
 | .sl .own _=>rfl
 | .sl .keep _=>rfl
 | .sl .lend _=>rfl
 | .int _=>rfl
 | .bool=>rfl
 | .str=>rfl
 | .nil=>rfl
 | .dead=>rfl
 | .unit=>rfl
 | .clo _ _=>rfl
theorem hollow_rep {S:Stab}{H:Heap}:∀ {τ:Ty}{vs:List Value}{x:τ.D}{fp:List Nat},Rep S H τ vs x fp→Rep S H (hollow τ) vs (hollowV τ x) []:=by
 intro τ
 induction τ with
 | pair a b iha ihb =>
  rintro vs x fp ⟨v1,v2,f1,f2,rfl,rfl,h1,h2⟩
  exact ⟨v1,v2,[],[],rfl,rfl,iha h1,ihb h2⟩
 | sl m e _ =>
  intro vs x fp h
  cases m with
  | own =>
   obtain ⟨q,len,cap,rfl,_⟩:=h
   exact ⟨⟨_,rfl,rfl⟩,rfl⟩
  | keep=>have:=h.plain rfl;subst this;exact h
  | lend=>have:=h.plain rfl;subst this;exact h
 | dead=>rintro vs x fp ⟨h1,rfl⟩;exact ⟨h1,rfl⟩
 | _=>intro vs x fp h;have:=h.plain rfl;subst this;exact h
def hole (st:St) (t:Nat):St :=
 match st.tmps t with
 | .a (.ref id p)=>match st.roots id,st.roots t with
  | some ⟨.box io,τ,x⟩,none=>if hasIx p=true then st else match getP p τ x with
   | some ⟨σ,y⟩=>if σ.plain=true then st else match setP p τ x (hollow σ) (hollowV σ y) with
    | some ⟨τn,xn⟩ =>
     {roots:=fun i=>if i=t then some ⟨.val false,σ,y⟩ else if i=id then some ⟨.box io,τn,xn⟩ else st.roots i
      tmps:=fun t'=>if t'=t then .a (.ref t []) else (st.tmps t').dirty id false }
    | none=>st
   | none=>st
  | _,_=>st
 | _=>st
section
variable {P:Program}{C:Cx}{w0 w:World}{G:Blk}{st st':St}{a:Act}{S:Stab}{pls:Nat→Pl}{X:Nat→List Nat}
theorem Inv.hole (hI:Inv C w0 G st a w S pls X) (t:Nat):∃ pls' X',Inv C w0 G (Rf.hole st t) a w S pls' X':=by
 unfold Rf.hole
 split
 rotate_left
 ·exact ⟨pls,X,hI⟩
 rename_i id p hte
 split
 rotate_left
 ·exact ⟨pls,X,hI⟩
 rename_i io τ x hr ht0
 split
 ·exact ⟨pls,X,hI⟩
 rename_i hix
 have hix:hasIx p=false:=by simpa using hix
 split
 rotate_left
 ·exact ⟨pls,X,hI⟩
 rename_i σ y hg
 split
 ·exact ⟨pls,X,hI⟩
 split
 rotate_left
 ·exact ⟨pls,X,hI⟩
 rename_i τn xn hs
 have hv:=hI.tmps t
 rw [hte] at hv
 obtain ⟨r',hr',σ',y',vs,l,vs',l',g1,g2,g3,g4,g5⟩:=hv
 rw [hr] at hr';cases hr'
 simp only at g1 g2 g3 g4
 rw [hg] at g1;cases g1
 have hrr:=hI.roots id _ hr
 have hsk:=setP_skel p hg hs (hollow_skel σ)
 have hk:∃ B pre post el fr,pls id=.mem B pre post el fr:=by
  cases hpl:pls id <;> rw [hpl] at hrr <;> simp only [RootRel] at hrr
  exact ⟨_,_,_,_,_,rfl⟩
 obtain ⟨B,pre,post,el,fr,hpl⟩:=hk
 rw [hpl] at hrr g3
 simp only [RootRel] at hrr
 obtain ⟨v1,l1,fp,k1,k2,k3⟩:=hrr
 obtain ⟨rfl,rfl⟩:=k1.det g3
 have hndX:=hI.nd id
 rw [k3] at hndX
 have hBn:=List.nodup_cons.1 hndX
 obtain ⟨u1,m1,f1,f',f2,hfp,hat,hrep,hset⟩:=k2.set p l1 g2 hBn.2 hg
 obtain ⟨rfl,rfl⟩:=hat.det _ g4
 rcases hset with ⟨_,δ,hl1,hδ,hset⟩ | ⟨hx,_⟩
 rotate_left
 ·rw [hix] at hx;cases hx
 have hlen:=hrep.length
 have hdead:=hollow_rep hrep
 have hnew:=hset S (hp w) (hollow σ) (hollowV σ y) u1 [] τn xn (skel_size_eq (hollow_skel σ)).symm hs (fun _ _ h=>h) (fun _ _ _=>rfl) (fun _ _=>rfl) hdead
 have hl1':l1=some (B,pre.length):=k1.2.2.1
 have hself:lput v1 δ u1=v1:=by
  apply put_self
  have hat2:At (hp w) p τ v1 l1 u1 (some (B,pre.length+δ)):=(hl1 B pre.length hl1')▸hat
  have hm:=at_mem p k2 g2 hat2 (holds_mem (S:=S) (pl:=.mem B pre post el fr) (r:=⟨.box io,τ,x⟩) k1) hg
  obtain ⟨c9,el9,fr9,q1,q2,q3⟩:=hm
  rw [k1.1] at q1
  simp only [sI,Obj.cells.injEq] at q1
  obtain ⟨rfl,rfl,rfl⟩:=q1
  simp only [List.toList_toArray,List.append_assoc] at q3
  rw [List.drop_length_add_append] at q3
  rw [List.drop_append_of_le_length (by omega),List.take_append_of_le_length (by simp;omega)] at q3
  rw [hlen];exact q3
 rw [hself] at hnew
 simp only [List.append_nil] at hnew
 have hsub:(f1++f2).Sublist fp:=by rw [hfp,List.append_assoc];exact List.Sublist.append_left (by simp) f1
 have hXsub:∀ i,∀ q∈upd X id (B::(f1++f2)) i,q∈X i:=by
  intro i q hq
  by_cases e:i=id
  ·subst e
   simp only [upd_same,List.mem_cons] at hq
   rw [k3];simp only [List.mem_cons]
   exact hq.imp_right (fun h=>hsub.subset h)
  ·rw [upd_other _ _ e] at hq;exact hq
 have hf'X:∀ q∈f',q∈X id:=fun q hq=>by rw [k3,hfp];simp [hq]
 have hfpn:=hBn.2
 rw [hfp] at hfpn
 have hn1:=List.nodup_append.1 hfpn
 have hn2:=List.nodup_append.1 hn1.1
 have hI1:Inv C w0 G { tmps:=fun t'=>(st.tmps t').dirty id false,roots:=fun i=>if i=id then some ⟨.box io,τn,xn⟩ else st.roots i } a w S pls (upd X id (B::(f1++f2))):=by
  refine { kl:=hI.kl,size:=hI.size,defers:=hI.defers,glb:=hI.glb,pin:=fun i r2 h2 hk2=>(by by_cases e:i=id;(subst e;simp only [if_true,sI] at h2;subst h2;exact hI.pin _ _ hr hk2);(simp only [if_neg e] at h2;exact hI.pin i r2 h2 hk2)),frm:=hI.frm,stab:=hI.stab,own:=?_,nd:=?_,dis:=?_,roots:=?_,tmps:=?_ }
  ·intro i q hq;exact hI.own i q (hXsub i q hq)
  ·intro i
   by_cases e:i=id
   ·subst e;simp only [upd_same]
    exact List.nodup_cons.2 ⟨fun h=>hBn.1 (hsub.subset h),hsub.nodup hBn.2⟩
   ·rw [upd_other _ _ e];exact hI.nd i
  ·intro i j q hij hq hq'
   exact hI.dis i j q hij (hXsub i q hq) (hXsub j q hq')
  ·intro i r' hr'
   simp only at hr'
   split at hr'
   ·rename_i e;subst e;cases hr';rw [upd_same,hpl]
    refine ⟨v1,l1,f1++f2,?_,hnew,rfl⟩
    rw [skel_size_eq hsk];exact k1
   ·rename_i e;rw [upd_other _ _ e];exact hI.roots i r' hr'
  ·intro t
   have hgen:∀ val v,VRel S (hp w) pls st.roots val v→VRel S (hp w) pls (fun i=>if i=id then some ⟨.box io,τn,xn⟩ else st.roots i) val (v.dirty id false):=by
    intro val v hvv
    by_cases hid:v.refs=some id
    ·cases v <;> simp only [AV.refs,reduceCtorEq,sI] at hid
     ·rename_i i q
      subst hid
      cases q <;> simp only [AV.dirty,if_true,and_self] <;> trivial
     ·rename_i i q
      subst hid
      simp only [AV.dirty]
      split
      ·trivial
      ·rename_i hiq
       have hiq:hasIx q=false:=by simpa using hiq
       obtain ⟨r1,hr1,σ1,y1,va,la,vb,b1,off1,g1',g2',g3',g4',g5'⟩:=hvv
       rw [hr] at hr1;cases hr1
       rw [hpl] at g3'
       obtain ⟨rfl,rfl⟩:=g3'.det k1
       obtain ⟨σ',y',v1',q1,q2,q3⟩:=at_skel (H':=hp w) q (τ':=τn) xn hiq hsk g1' rfl g4'
       exact ⟨⟨.box io,τn,xn⟩,by simp,σ',y',_,_,v1',b1,off1,q1,q2,by rw [hpl,skel_size_eq hsk];exact k1,q3,g5'⟩
    ·have hd:v.dirty id false=v:=by
      cases v with
      | ref i q =>
       have hne:i≠id:=by simpa [AV.refs] using hid
       cases q <;> simp [AV.dirty,hne]
      | ptr i q =>
       have hne:i≠id:=by simpa [AV.refs] using hid
       simp [AV.dirty,hne]
      | _=>rfl
     rw [hd]
     refine VRel.heap hI.roots (fun _ _ _=>rfl) (fun _ _ h=>h) (fun i hi=>?_) hvv
     have hne:i≠id:=by rintro rfl;exact hid hi
     exact ⟨by simp [hne],rfl,fun _ _=>rfl⟩
   have ht:=hI.tmps t
   show TRel S (hp w) pls (fun i=>if i=id then some ⟨.box io,τn,xn⟩ else st.roots i) (a.tmps.getD t undef) ((st.tmps t).dirty id false)
   generalize st.tmps t=tv at ht
   cases tv with
   | a v=>exact hgen _ _ ht
   | tup l' =>
    obtain ⟨us,e,hl⟩:=ht
    exact ⟨us,e,lrel_map _ hgen _ _ hl⟩
 have hF:Free w0 w G S (upd X id (B::(f1++f2))) f':=by
  refine ⟨fun q hq=>hI.own id q (hf'X q hq),hn2.2.1,?_⟩
  intro i q hq hi
  by_cases e:i=id
  ·subst e
   simp only [upd_same,List.mem_cons,List.mem_append] at hi
   rcases hi with rfl | hi | hi
   ·exact hBn.1 (by rw [hfp];simp [hq])
   ·exact hn2.2.2 q hi q hq rfl
   ·exact hn1.2.2 q (by simp [hq]) q hi rfl
  ·rw [upd_other _ _ e] at hi
   exact hI.dis id i q (Ne.symm e) (hf'X q hq) hi
 have hne:t≠id:=by rintro rfl;rw [hr] at ht0;cases ht0
 obtain ⟨n1,n2⟩:=hI1.newVal (d:=t) (by simp only [if_neg hne];exact ht0) hrep hF
 refine ⟨_,_,n1.retmp0 rfl (fun t'=>?_)⟩
 dsimp only
 split
 ·rename_i e;subst e
  rw [g5];exact n2
 ·exact n1.tmps t'
def preL (st:St):List Operand→List Ty→St
 | .tmp t::os,τ::ps=>preL (if τ.plain=true then st else hole st t) os ps
 | _::os,_::ps=>preL st os ps
 | _,_=>st
def preX (st:St):List Operand→List PK→List Ty→St
 | .tmp t::os,k::ks,τ::ps=>preX (if τ.plain=true then st else match k with
   | .no=>hole st t
   | _=>st) os ks ps
 | _::os,_::ks,_::ps=>preX st os ks ps
 | _,_,_=>st
def pre (fn:Nat→Option Fn) (fx:Nat→Option Fx) (st:St) (op:Op):St :=
 match op with
 | .call c=>match c.callee with
  | .value (.func f)=>match fn f with
   | some g=>preL st c.args.toList g.ps
   | none=>match fx f with
    | some g=>preX st c.args.toList g.io g.ps
    | none=>st
  | _=>st
 | _=>st
theorem preL_inv:∀ (os:List Operand) (ps:List Ty){st:St}{pls:Nat→Pl}{X:Nat→List Nat},Inv C w0 G st a w S pls X→∃ pls' X',Inv C w0 G (preL st os ps) a w S pls' X':=by
 intro os
 induction os with
 | nil=>intro ps st pls X hI;exact ⟨pls,X,by unfold preL;exact hI⟩
 | cons o os ih =>
  intro ps st pls X hI
  cases ps with
  | nil=>exact ⟨pls,X,by cases o <;> (unfold preL;exact hI)⟩
  | cons τ ps =>
   cases o with
   | tmp t =>
    simp only [preL]
    split
    ·exact ih ps hI
    ·obtain ⟨pls1,X1,h1⟩:=hI.hole t
     exact ih ps h1
   | _=>simp only [preL];exact ih ps hI
theorem preX_inv:∀ (os:List Operand) (ks:List PK) (ps:List Ty){st:St}{pls:Nat→Pl}{X:Nat→List Nat},Inv C w0 G st a w S pls X→∃ pls' X',Inv C w0 G (preX st os ks ps) a w S pls' X':=by
 intro os
 induction os with
 | nil=>intro ks ps st pls X hI;exact ⟨pls,X,by unfold preX;exact hI⟩
 | cons o os ih =>
  intro ks ps st pls X hI
  cases ks with
  | nil=>exact ⟨pls,X,by cases o <;> (unfold preX;exact hI)⟩
  | cons k ks =>
  cases ps with
  | nil=>exact ⟨pls,X,by cases o <;> (unfold preX;exact hI)⟩
  | cons τ ps =>
   cases o with
   | tmp t =>
    simp only [preX]
    split
    ·exact ih ks ps hI
    ·cases k with
     | no =>
      obtain ⟨pls1,X1,h1⟩:=hI.hole t
      exact ih ks ps h1
     | io _=>exact ih ks ps hI
     | look=>exact ih ks ps hI
   | _=>simp only [preX];exact ih ks ps hI
theorem pre_inv (hI:Inv C w0 G st a w S pls X) (fn:Nat→Option Fn) (fx:Nat→Option Fx) (op:Op):∃ pls' X',Inv C w0 G (pre fn fx st op) a w S pls' X':=by
 unfold pre
 split
 ·split
  ·split
   ·exact preL_inv _ _ hI
   ·split
    ·exact preX_inv _ _ _ hI
    ·exact ⟨pls,X,hI⟩
  ·exact ⟨pls,X,hI⟩
 ·exact ⟨pls,X,hI⟩
theorem preL_plain:∀ (os:List Operand) (ps:List Ty){st:St},ps.all Ty.plain=true→preL st os ps=st:=by
 intro os
 induction os with
 | nil=>intro ps st _;unfold preL;rfl
 | cons o os ih =>
  intro ps st h
  cases ps with
  | nil=>cases o <;> (unfold preL;rfl)
  | cons τ ps =>
   simp only [List.all_cons,bA] at h
   cases o with
   | tmp t=>simp only [preL,h.1,if_true];exact ih ps h.2
   | _=>simp only [preL];exact ih ps h.2
end
end Go.Rf
namespace Go.Rf
structure Cz extends Cy where
 fn:Nat→Option Fn
 fx:Nat→Option Fx
 inl:Nat→Option Inl:=fun _=>none
 clo:Nat→Option Nat:=fun _=>none
def deClo (clo:Nat→Option Nat) (st:St) (op:Op):Op :=
 match op with
 | .call ⟨.value (.tmp t),args,ts⟩=>match clo t with
  | some g=>match st.tmps t with
   | .a (.v (.clo g' .unit) _)=>if Nat.beq g g'=true then .call ⟨.value (.func g),args,ts⟩ else op
   | _=>op
  | none=>op
 | _=>op
def hasInl (inl:Nat→Option Inl):Operand→Bool
 | .func f=>(inl f).isSome
 | _=>false
def hasFn (fn:Nat→Option Fn):Operand→Bool
 | .func f=>(fn f).isSome
 | _=>false
def freezeV (st:St) (i0:Nat) (tv:TV):TV :=
 match tv with
 | .a (.ref id p)=>if id=i0 then (match st.roots id with
   | some r=>match getP p r.τ r.x with
    | some q=>.a (.v (q.1.share .keep) ((Ty.share_D .keep q.1).mpr q.2))
    | none=>.a .junk
   | none=>.a .junk) else tv
 | .a (.ptr id p)=>if id=i0 then (match st.roots id with
   | some r=>match getP p r.τ r.x with
    | some q=>.a (.sptr (q.1.share .keep) ((Ty.share_D .keep q.1).mpr q.2))
    | none=>.a .junk
   | none=>.a .junk) else tv
 | .tup []=>tv
 | .tup _=>.a .junk
 | tv=>tv
def freeze (st:St) (i0:Nat):St:={ tmps:=fun t=>freezeV st i0 (st.tmps t),roots:=fun i=>if i=i0 then none else st.roots i }
section
variable {C:Cx}{w0 w w':World}{G:Blk}{st st':St}{a:Act}{S:Stab}{pls:Nat→Pl}{X:Nat→List Nat}
def SKp (S:Stab) (Y:List Nat):Stab:=fun m b=>S m b∨b∈Y
theorem freeze_ref (hI:Inv C w0 G st a w S pls X){i0:Nat}{r:Root} (hr:st.roots i0=some r){val:Value}{p:Path} (h:VRel S (hp w) pls st.roots val (.ref i0 p)){R':Nat→Option Root} :
  TRel (SKp S (X i0)) (hp w) pls R' val (freezeV st i0 (.a (.ref i0 p))):=by
 obtain ⟨r',hr',σ,y,vs,l,vs',l',g1,g2,g3,g4,g5⟩:=h
 rw [hr] at hr';cases hr'
 simp only [freezeV,if_true,hr,g1]
 obtain ⟨f',h1,h2⟩:=(hI.roots i0 r hr).at g3 g2 g1 g4
 refine ⟨vs',?_,?_⟩
 ·rw [g5];exact (valOf_like (by rw [share_agg])).symm
 ·refine Rep.stab ?_ (Rep.shareS (m:=.keep) (by decide) hI.kl h1)
  rintro m b (h | ⟨hb,h | h⟩)
  ·exact .inl h
  ·exact .inr (h2 b hb)
  ·exact .inr (h2 b hb)
theorem freeze_ptr (hI:Inv C w0 G st a w S pls X){i0:Nat}{r:Root} (hr:st.roots i0=some r){val:Value}{p:Path} (h:VRel S (hp w) pls st.roots val (.ptr i0 p)){R':Nat→Option Root} :
  TRel (SKp S (X i0)) (hp w) pls R' val (freezeV st i0 (.a (.ptr i0 p))):=by
 obtain ⟨r',hr',σ,y,vs,l,vs',b,off,g1,g2,g3,g4,g5⟩:=h
 rw [hr] at hr';cases hr'
 simp only [freezeV,if_true,hr,g1]
 obtain ⟨q,f,rest,q0,q1,q2,q3,q4⟩:=(hI.roots i0 r hr).lend (hI.nd i0) i0 g1 g2 g3 g4
 obtain ⟨qB,qpre,qpost,qel,qfr,qhd⟩:=q
 cases qhd with
 | some _=>simp at q0
 | none =>
  obtain ⟨ws,f1,h1,h2,h3,rfl⟩:=q2
  simp only at h1 h2
  have hsz:(σ.share .keep).size=σ.size:=Ty.share_size _ _
  have hl:=h3.length
  have hmem:∀ b'∈qB::f1,b'∈X i0:=fun b' hb'=>q3.mem_iff.2 (List.mem_append.2 (.inl hb'))
  refine ⟨qB,qpre.length,_,qel,qfr,g5.trans q1.symm,h1,?_,?_,.keep,.inr (hmem qB (by simp))⟩
  ·rw [hsz,← hl];simp
  ·rw [hsz,← hl]
   simp only [List.append_assoc,List.drop_left,List.take_left]
   refine Rep.stab ?_ (Rep.shareS (m:=.keep) (by decide) hI.kl h3)
   rintro m b' (h | ⟨hb,h | h⟩)
   ·exact .inl h
   ·exact .inr (hmem b' (by simp [hb]))
   ·exact .inr (hmem b' (by simp [hb]))
theorem Inv.freeze (hI:Inv C w0 G st a w S pls X){i0:Nat}{r:Root} (hr:st.roots i0=some r):Inv C w0 G (Rf.freeze st i0) a w (SKp S (X i0)) pls (upd X i0 []):=by
 have hSS:∀ m b,S m b→SKp S (X i0) m b:=fun _ _ h=>.inl h
 have hX:∀ i b,b∈upd X i0 [] i→i≠i0∧b∈X i:=by
  intro i b hb
  by_cases e:i=i0
  ·subst e;rw [upd_same] at hb;cases hb
  ·rw [upd_other _ _ e] at hb;exact ⟨e,hb⟩
 refine { frm:=hI.frm,size:=hI.size,defers:=hI.defers,stab:=?_,kl:=?_,own:=?_,nd:=?_,dis:=?_,roots:=?_,tmps:=?_,glb:=⟨fun b hb=>.inl (hI.glb.1 b hb),hI.glb.2⟩,pin:=?_ }
 ·rintro m b (h | h)
  ·exact hI.stab m b h
  ·exact (hI.own i0 b h).1
 ·rintro b (h | h)
  ·exact .inl (hI.kl b h)
  ·exact .inr h
 ·intro i b hb
  obtain ⟨h1,h2⟩:=hX i b hb
  obtain ⟨k1,k2,k3⟩:=hI.own i b h2
  refine ⟨k1,?_,k3⟩
  rintro m (h | h)
  ·exact k2 m h
  ·exact hI.dis i i0 b h1 h2 h
 ·intro i
  by_cases e:i=i0
  ·subst e;rw [upd_same];simp
  ·rw [upd_other _ _ e];exact hI.nd i
 ·intro i j b hne hb hb'
  exact hI.dis i j b hne (hX i b hb).2 (hX j b hb').2
 ·intro i r' hr'
  simp only [Rf.freeze] at hr'
  split at hr'
  ·cases hr'
  ·rename_i hne
   have h:=hI.roots i r' hr'
   rw [upd_other _ _ hne]
   obtain ⟨k,τ,x⟩:=r'
   cases k <;> cases hpl:pls i <;> rw [hpl] at h <;> simp only [RootRel] at h ⊢
   ·obtain ⟨vs,l,fp,h1,h2,h3⟩:=h
    exact ⟨vs,l,fp,h1,h2.stab hSS,h3⟩
   ·exact h.stab hSS
 ·intro t
  have hv:=hI.tmps t
  have same:∀ {val:Value}{v:AV},(∀ id,v.refs=some id→id≠i0)→VRel S (hp w) pls st.roots val v→VRel (SKp S (X i0)) (hp w) pls (Rf.freeze st i0).roots val v:=by
   intro val v hn h
   refine VRel.heap hI.roots (fun _ _ _=>rfl) hSS (fun id hid=>⟨?_,rfl,fun _ _=>rfl⟩) h
   simp only [Rf.freeze]
   rw [if_neg (hn id hid)]
  show TRel (SKp S (X i0)) (hp w) pls (Rf.freeze st i0).roots (a.tmps.getD t undef) (freezeV st i0 (st.tmps t))
  cases htv:st.tmps t with
  | tup l =>
   rw [htv] at hv
   cases l with
   | nil =>
    obtain ⟨vs,e,h⟩:=hv
    exact ⟨vs,e,by cases vs <;> first | trivial | exact h⟩
   | cons _ _=>exact trivial
  | a v =>
   rw [htv] at hv
   cases v with
   | v τ x=>exact same (v:=.v τ x) (fun id h=>by cases h) hv
   | sptr τ x=>exact same (v:=.sptr τ x) (fun id h=>by cases h) hv
   | junk=>exact trivial
   | ptr id p =>
    by_cases e:id=i0
    ·subst e
     exact freeze_ptr hI hr hv
    ·simp only [freezeV]
     rw [if_neg e]
     exact same (v:=.ptr id p) (fun id' h=>by cases h;exact e) hv
   | ref id p =>
    by_cases e:id=i0
    ·subst e
     exact freeze_ref hI hr hv
    ·simp only [freezeV]
     rw [if_neg e]
     exact same (v:=.ref id p) (fun id' h=>by cases h;exact e) hv
 ·intro i r' hr' hk
  simp only [Rf.freeze] at hr'
  split at hr'
  ·cases hr'
  ·exact hI.pin i r' hr' hk
end
section
variable {R:Type}
def assignK (E:Cz) (st:St) (x:Operand) (d:Nat) (K:St→Option R):Option R :=
 match E.ann d,opnd st x with
 | some τ,.a (.ref id [])=>match st.roots id with
  | some ⟨.val false,σ,y⟩=>if τ=σ.share .keep then K ((freeze st id).put (some d) (.a (.v (σ.share .keep) ((Ty.share_D .keep σ).mpr y)))) else none
  | _=>none
 | _,tv=>K (st.put (some d) tv)
theorem assignK_bind (E:Cz) (st:St) (x:Operand) (d:Nat) (K:St→Option R):assignK E st x d K=(assignK E st x d some).bind K:=by
 unfold assignK
 split
 ·split
  ·split
   ·rfl
   ·rfl
  ·rfl
 ·rfl
end
section
variable {R:Type}
def dOK (n:Nat) (dst:Option Nat):Bool :=
 match dst with
 | some d=>decide (d<n)
 | none=>true
def op0 (E:Cz) (st:St) (op:Op) (dst:Option Nat) (K:St→Option R):Option R :=
 match op,dst with
 | .build t parts,some d=>buildK E.toCy st d t parts.toList K
 | .buildSlice t n parts,some d=>buildSliceK E.toCy st d t n parts.toList K
 | .makeSlice t len cap,some d=>makeSliceK E.toCy st d t len cap K
 | .box t x,some d=>boxK E.toCy st d t x K
 | .alloc t,some d=>allocK E.toCy st d t K
 | .store t x v,none=>storeK E.toCy st t x v K
 | .assign x,some d=>assignK E st x d K
 | .call c,dst=>match c.callee,c.args.toList,c.argTypes.toList,dst with
  | .builtin .append,[x,y],[t,tx],some d=>appendK E.toCy st d t tx x y K
  | .builtin b,_,_,dst=>pureK E.toCx st (.call c) fun tv=>K (st.put dst tv)
  | .value f,args,_,dst=>if hasFn E.fn f=true then callK E.fn st dst (.value f) args K else if hasInl E.inl f=true then inlK E.toCx E.inl st dst (.value f) args K else callX E.fx E.n st dst (.value f) args K
  | _,_,_,_=>none
 | op,dst=>pureK E.toCx st op fun tv=>K (st.put dst tv)
def opK (E:Cz) (st:St) (o:Oper) (K:St→Option R):Option R :=
 if dOK E.n o.dst=true then op0 E (pre E.fn E.fx st (deClo E.clo st o.op)) (deClo E.clo st o.op) o.dst K else none
theorem op0_bind (E:Cz) (st:St) (op:Op) (dst:Option Nat) (K:St→Option R):op0 E st op dst K=(op0 E st op dst some).bind K:=by
 have hp:∀ (op:Op) (d:Option Nat),pureK E.toCx st op (fun tv=>K (st.put d tv))=(pureK E.toCx st op (fun tv=>some (st.put d tv))).bind K:=by
  intro op d
  rw [pureK_bind,pureK_bind E.toCx st op (fun tv=>some (st.put d tv)),Option.bind_assoc]
  rfl
 unfold op0
 split
 ·exact buildK_bind _ _ _ _ _ _
 ·exact buildSliceK_bind _ _ _ _ _ _ _
 ·exact makeSliceK_bind _ _ _ _ _ _ _
 ·exact boxK_bind _ _ _ _ _ _
 ·exact allocK_bind _ _ _ _ _
 ·exact storeK_bind _ _ _ _ _ _
 ·exact assignK_bind _ _ _ _ _
 ·split
  ·exact appendK_bind _ _ _ _ _ _ _ _
  ·exact hp _ _
  ·split
   ·exact callK_bind _ _ _ _ _ _
   ·split
    ·exact inlK_bind _ _ _ _ _ _ _
    ·exact callX_bind _ _ _ _ _ _ _
  ·rfl
 ·exact hp _ _
theorem opK_bind (E:Cz) (st:St) (o:Oper) (K:St→Option R):opK E st o K=(opK E st o some).bind K:=by
 unfold opK
 split
 ·exact op0_bind _ _ _ _ _
 ·rfl
end
structure EnvOK (P:Program) (E:Cz):Prop where
 tab:TabOK P E.tab
 fn:∀ fid f,E.fn fid=some f→Ctr P E.V fid f
 fx:∀ fid f,E.fx fid=some f→CtrX P E.V fid f
 inl:∀ fid i,E.inl fid=some i→InlOK P fid i:=by intro _ _ h;cases h
section
variable {P:Program}{E:Cz}{w0 w w':World}{G:Blk}{st st':St}{a:Act}{S:Stab}{pls:Nat→Pl}{X:Nat→List Nat}
theorem pure_done (hE:EnvOK P E) (hI:Inv E.toCx w0 G st a w S pls X){o:Oper} (hd:dOK E.n o.dst=true) (h:(pureK E.toCx st o.op fun tv=>some (st.put o.dst tv))=some st'):Done P E.toCx w0 G S a w o st':=by
 rw [pureK_bind] at h
 obtain ⟨tv,h1,h2⟩:=Option.bind_eq_some_iff.1 h
 cases h2
 obtain ⟨v,hr,hv⟩:=pure_run hE.tab hI h1
 refine Out.done hI ⟨.value v,w,hr w ⟨fun _ _ _=>rfl,fun _ _ _ _=>rfl⟩,.inl ⟨v,pls,X,rfl,hI.here.put ?_ hv⟩⟩
 intro d e
 rw [e] at hd
 simpa [dOK] using hd
theorem assign_done (hI:Inv E.toCx w0 G st a w S pls X){x:Operand}{d:Nat} (hd:d<E.n){ty:TypeId}{pos:String}{after:Array Edge}{guard:Option (Nat×Bool)} (h:assignK E st x d some=some st'):Done P E.toCx w0 G S a w ⟨some d,.assign x,ty,pos,after,guard⟩ st':=by
 intro K Q hK
 have hrun:(execOp a.eval ⟨some d,.assign x,ty,pos,after,guard⟩).run P w=.ok (.value (a.eval x)) w:=rfl
 simp only [Oper.wp,hrun,Oper.upon_value]
 refine hK _ w ?_
 have hx:=hI.opnd x
 unfold assignK at h
 split at h
 ·rename_i τ id e1 e2
  rw [e2] at hx
  split at h
  ·rename_i σ y hr
   split at h
   ·cases h
    have h1:=hI.freeze hr
    have h2:=freeze_ref hI hr hx (R':=(freeze st id).roots)
    simp only [freezeV,if_true,hr,getP] at h2
    refine ⟨_,_,_,h1.put (fun d' e=>by cases e;exact hd) h2,⟨fun _ _ h=>.inl h,fun _ _ _=>rfl,fun b hb=>?_,fun m b hb=>?_⟩⟩
    ·rcases hb with h | h
     ·exact .inl h
     ·exact .inr (hI.own id b h).2.2
    ·rcases hb with h | h
     ·exact .inl ⟨_,h⟩
     ·exact .inr (hI.own id b h).2.2
   ·cases h
  ·cases h
 ·cases h
  exact ⟨S,pls,X,hI.put (fun d' e=>by cases e;exact hd) hx,Grows.refl⟩
theorem op0_done (hE:EnvOK P E) (hI:Inv E.toCx w0 G st a w S pls X){o:Oper} (hd:dOK E.n o.dst=true) (h:op0 E st o.op o.dst some=some st'):Done P E.toCx w0 G S a w o st':=by
  have hd':∀ d,o.dst=some d→d<E.n:=by
   intro d e
   rw [e] at hd
   simpa [dOK] using hd
  obtain ⟨dst,op,ty,pos,after,guard⟩:=o
  unfold op0 at h
  split at h
  ·rename_i e1 e2
   cases e1;cases e2
   exact Out.done hI (build_out hE.tab hI.here (hd' _ rfl) h)
  ·rename_i e1 e2
   cases e1;cases e2
   exact Out.done hI (buildSlice_out hE.tab hI.here (hd' _ rfl) h)
  ·rename_i e1 e2
   cases e1;cases e2
   exact Out.done hI (makeSlice_out hE.tab hI.here (hd' _ rfl) h)
  ·rename_i e1 e2
   cases e1;cases e2
   exact Out.done hI (box_out hE.tab hI.here (hd' _ rfl) h)
  ·rename_i e1 e2
   cases e1;cases e2
   exact Out.done hI (alloc_out hE.tab hI.here (hd' _ rfl) h)
  ·rename_i e1 e2
   cases e1;cases e2
   exact Out.done hI (store_out hE.tab hI.here h)
  ·rename_i e1 e2
   cases e1;cases e2
   exact assign_done hI (hd' _ rfl) h
  ·rename_i c e1
   cases e1
   obtain ⟨callee,args,ts⟩:=c
   simp only at h
   split at h
   ·rename_i x y t tx d e2 e3
    have e2':args=#[x,y]:=by cases args;simpa using e2
    have e3':ts=#[t,tx]:=by cases ts;simpa using e3
    subst e2' e3'
    exact Out.done hI (append_out hE.tab hI.here (hd' _ rfl) h)
   ·exact pure_done hE hI hd h
   ·split at h
    ·exact call_done hE.fn hI hd' h
    ·split at h
     ·exact inl_done hE.tab hE.inl hI hd' h
     ·exact callX_done hE.fx hI hd' h
   ·cases h
  ·exact pure_done hE hI hd h
theorem deClo_exec (hI:Inv E.toCx w0 G st a w S pls X) (clo:Nat→Option Nat) (o:Oper):execOp a.eval { o with op:=deClo clo st o.op }=execOp a.eval o:=by
 obtain ⟨dst,op,ty,pos,after,guard⟩:=o
 cases op with
 | call c =>
  obtain ⟨callee,args,ts⟩:=c
  cases callee with
  | value f =>
   cases f with
   | tmp t =>
    simp only [deClo]
    split
    ·rename_i g hg
     split
     ·rename_i g' x ht
      split
      ·rename_i e
       have e:=Nat.eq_of_beq_eq_true e
       subst e
       have h1:=hI.tmps t
       rw [ht] at h1
       obtain ⟨ws,h2,_,cb,rfl,h3⟩:=h1
       have hcb:cb=[]:=by
        rcases h3 with h3 | ⟨h3,_⟩
        ·exact h3.1
        ·exact absurd rfl h3
       subst hcb
       have h4:a.eval (.tmp t)=.func (.func g) #[] #[]:=h2
       simp only [execOp,resolve,h4]
       rfl
      ·rfl
     ·rfl
    ·rfl
   | _=>rfl
  | _=>rfl
 | _=>rfl
theorem op_done (hE:EnvOK P E) (hI:Inv E.toCx w0 G st a w S pls X){o:Oper} (h:opK E st o some=some st'):Done P E.toCx w0 G S a w o st':=by
 unfold opK at h
 split at h
 ·rename_i hd
  obtain ⟨plsP,XP,hI1⟩:=pre_inv hI E.fn E.fx (deClo E.clo st o.op)
  have hD:=op0_done hE hI1 (o:={ o with op:=deClo E.clo st o.op }) hd h
  intro K Q hK
  have hw:=hD K Q hK
  have e:=deClo_exec hI E.clo o
  unfold Oper.wp at hw ⊢
  rw [← e]
  exact hw
 ·cases h
end
end Go.Rf
namespace Go.Rf
def pathEq:Path→Path→Bool
 | [],[]=>true
 | .L::p,.L::q=>pathEq p q
 | .R::p,.R::q=>pathEq p q
 | .ix i::p,.ix j::q=>Nat.beq i j && pathEq p q
 | _,_=>false
theorem pathEq_eq:∀ {p q:Path},pathEq p q=true→p=q:=by
 intro p
 induction p with
 | nil=>intro q h;cases q <;> simp [pathEq] at h;rfl
 | cons s p ih =>
  intro q h
  cases q with
  | nil=>cases s <;> simp [pathEq] at h
  | cons s' q =>
   cases s <;> cases s' <;> simp only [pathEq,bA,reduceCtorEq] at h
   ·rw [ih h]
   ·rw [ih h]
   ·rw [Nat.eq_of_beq_eq_true h.1,ih h.2]
structure Fuse where
 d:Nat
 t:Nat
 tx:Nat
 x:Operand
 y:Operand
 d2:Nat
 t2:Nat
 x2:Operand
 i2:Operand
 d3:Nat
 t3:Nat
 k:Nat
 t4:Nat
def fusePat:List Oper→Option (Fuse×List Oper)
 | ⟨some d,.call ⟨.builtin .append,args,tys⟩,_,_,_,none⟩::⟨some d2,.indexAddr t2 x2 i2,_,_,_,none⟩::⟨some d3,.fieldAddr t3 (.tmp d2') k,_,_,_,none⟩::⟨none,.store t4 (.tmp d3') (.tmp d'),_,_,_,none⟩::l =>
  match args.toList,tys.toList with
  | [x,y],[t,tx]=>if d2'=d2∧d3'=d3∧d'=d then some (⟨d,t,tx,x,y,d2,t2,x2,i2,d3,t3,k,t4⟩,l) else none
  | _,_=>none
 | _=>none
def fuseUse (st:St) (F:Fuse):Bool :=
 match opnd st F.x with
 | .a (.ref _ p)=>hasIx p
 | _=>false
def notTmp (d:Nat):Operand→Bool
 | .tmp t=>!Nat.beq t d
 | _=>true
def junk3 (st:St) (F:Fuse):St:=((st.put (some F.d) (.a .junk)).put (some F.d2) (.a .junk)).put (some F.d3) (.a .junk)
def fuseK (E:Cz) (st:St) (F:Fuse){R:Type} (K:St→Option R):Option R :=
 match opnd st F.x with
 | .a (.ref id p)=>match st.roots id with
  | some r=>match getP p r.τ r.x with
   | some ⟨.sl .own e,xs⟩=>match (st.kill id).roots F.d with
    | none=>match src2 E.toCy (((st.kill id).root F.d ⟨.val false,.sl .own e,xs⟩).put (some F.d) (.a (.ref F.d []))) F.tx (opnd (((st.kill id).root F.d ⟨.val false,.sl .own e,xs⟩).put (some F.d) (.a (.ref F.d []))) F.y) with
     | some (some ⟨e',ys⟩,st1)=>match own1 st1 (st1.tmps F.d) with
      | some (some ⟨e1,xs1⟩,st2)=>match atTy e' e1 ys,E.tab F.t with
       | some ys',some (.sl _ s) =>
        if s.size=e1.size∧F.d<E.n∧F.d2<E.n∧F.d3<E.n∧Nat.beq F.d F.d2=false∧Nat.beq F.d F.d3=false∧Nat.beq F.d2 F.d3=false∧notTmp F.d F.y=true∧likeTy (E.tab F.t4) (.sl .own e1)=true∧hasIx p=true then
         pureK E.toCx (st.put (some F.d) (.a .junk)) (.indexAddr F.t2 F.x2 F.i2) fun tv2 =>
          pureK E.toCx ((st.put (some F.d) (.a .junk)).put (some F.d2) tv2) (.fieldAddr F.t3 (.tmp F.d2) F.k) fun tv3 =>
           match tv3 with
           | .a (.ptr id' p3)=>if id'=id then
             (if pathEq p p3=true then
              (if xs1.length+ys'.length≤4294967296 then
               (match setP p r.τ r.x (.sl .own e1) (xs1++ys'),st2.roots id with
               | some ⟨τn,xn⟩,none=>K (St.renew (junk3 st F) (junk3 st2 F) id ⟨r.k,τn,xn⟩)
               | _,_=>none) else none) else none) else none
           | _=>none
        else none
       | _,_=>none
      | _=>none
     | _=>none
    | some _=>none
   | _=>none
  | none=>none
 | _=>none
theorem at_some {H:Heap}:∀ (p:Path){τ:Ty}{vs vs':List Value}{l l':Option (Nat×Nat)},(l.isSome=true∨hasIx p=true)→At H p τ vs l vs' l'→l'.isSome=true:=by
 intro p
 induction p with
 | nil =>
  rintro τ vs vs' l l' h ⟨_,rfl⟩
  rcases h with h | h
  ·exact h
  ·simp [hasIx] at h
 | cons s p ih =>
  intro τ vs vs' l l' h ha
  cases s with
  | L =>
   cases τ <;> simp only [At] at ha
   exact ih (by simpa [hasIx] using h) ha
  | R =>
   cases τ <;> simp only [At] at ha
   exact ih (by simpa [hasIx] using h) ha
  | ix i =>
   cases τ with
   | sl m e =>
    cases m <;> simp only [At] at ha
    obtain ⟨b,off,len,cap,c,el,fr,_,_,ha⟩:=ha
    exact ih (.inl rfl) ha
   | _=>simp only [At] at ha
section
variable {P:Program}{E:Cz}{w0 w w':World}{G:Blk}{st st':St}{a:Act}{S:Stab}{pls:Nat→Pl}{X:Nat→List Nat}
theorem Inv.renewed {C:Cx}{S1:Stab}{H1:Heap}{pls0:Nat→Pl}{roots0:Nat→Option Root}{st0:St}{id:Nat}{r:Root}{τn:Ty}{xn:τn.D}{Y:List Nat}{vsn:List Value}{ln:Option (Nat×Nat)}
  (htm:∀ t i p,st0.tmps t=.a (.ptr i p)→VRel S1 H1 pls0 roots0 (a.tmps.getD t undef) (.ptr i p)) (htr:∀ t i p,st0.tmps t=.a (.ref i p)→VRel S1 H1 pls0 roots0 (a.tmps.getD t undef) (.ref i p))
  (hre:roots0 id=some r) (b1:RootRel S (hp w) (pls0 id) ⟨r.k,τn,xn⟩ Y) (b3:Holds (hp w) (pls0 id) τn.size vsn ln) (b4:τn.skel=r.τ.skel) (b5:∀ vs l,Holds H1 (pls0 id) r.τ.size vs l→ln=l∧vsn.length=vs.length)
  (n1:Inv C w0 G { st with roots:=fun i=>if i=id then some ⟨r.k,τn,xn⟩ else st.roots i } a w S (upd pls id (pls0 id)) X) :
  Inv C w0 G (St.renew st0 st id ⟨r.k,τn,xn⟩) a w S (upd pls id (pls0 id)) X:=by
 refine n1.retmp0 rfl (fun t=>?_)
 have hold:=n1.tmps t
 simp only [St.renew]
 split
 ·rename_i j p ht
  split
  ·rename_i hc
   obtain ⟨rfl,hix⟩:=hc
   obtain ⟨r0,hr0,σ0,y0,v0,l0,v1,b,off,c1,c2,c3,c4,c5⟩:=htm t _ _ ht
   rw [hre] at hr0;cases hr0
   obtain ⟨d1,d2⟩:=b5 v0 l0 c3
   obtain ⟨σ',y',v1',q1,q2,q3⟩:=at_skel (H':=hp w) p (τ':=τn) xn hix b4 c1 d2 c4
   exact ⟨⟨r.k,τn,xn⟩,by simp,σ',y',vsn,l0,v1',b,off,q1,q2,by rw [upd_same,← d1];exact b3,q3,c5⟩
  ·exact hold
 ·rename_i j p ht
  split
  ·rename_i hc
   obtain ⟨rfl,hix,hvk⟩:=hc
   obtain ⟨r0,hr0,σ0,y0,v0,l0,v1,l1,c1,c2,c3,c4,c5⟩:=htr t _ _ ht
   rw [hre] at hr0;cases hr0
   obtain ⟨us,hus⟩:∃ us,pls0 j=.val us:=by
    cases hpl:pls0 j with
    | val us=>exact ⟨us,rfl⟩
    | mem=>cases hk:r.k <;> rw [hk,hpl] at b1 <;> simp [RootRel,RK.isVal,hk] at b1 hvk
   rw [hus] at c3 b3
   obtain ⟨rfl,rfl⟩:=c3
   obtain ⟨rfl,rfl⟩:=b3
   obtain ⟨σ',y',q1,q2,q3,q4⟩:=at_same (H':=hp w) p (τ':=τn) xn hix b4 c1 c4
   exact ⟨⟨r.k,τn,xn⟩,by simp,σ',y',vsn,none,v1,l1,q1,q2,by rw [upd_same,hus];exact ⟨rfl,rfl⟩,q3,by rw [c5,valOf_like (skel_agg q4)]⟩
  ·exact hold
 ·exact hold
end
end Go.Rf
namespace Go.Rf
structure Push where
 d1:Nat
 t1:Nat
 y:Operand
 d2:Nat
 t:Nat
 tx:Nat
 x:Operand
def pushPat:List Oper→Option (Push×List Oper)
 | ⟨some d1,.buildSlice t1 1 parts,_,_,_,none⟩::⟨some d2,.call ⟨.builtin .append,args,tys⟩,_,_,_,none⟩::l =>
  match parts.toList,args.toList,tys.toList with
  | [(0,y)],[x,.tmp d1'],[t,tx]=>if d1'=d1 then some (⟨d1,t1,y,d2,t,tx,x⟩,l) else none
  | _,_,_=>none
 | _=>none
structure Pushd where
 id:Nat
 e:Ty
 xs:List (List e.D)
 row:List e.D
 st2:St
def isSl:Option Ty→Bool
 | some (.sl _ _)=>true
 | _=>false
def isSlSl:Option Ty→Bool
 | some (.sl _ (.sl _ _))=>true
 | _=>false
def pushGet (C:Cy) (st:St) (F:Push):Option Pushd :=
 match opnd st F.y with
 | .a (.ref idr [])=>match st.roots idr with
  | some ⟨.val _,.sl .own e2,row⟩=>match own1 (st.kill idr) (opnd (st.kill idr) F.x) with
   | some (some ⟨.sl .own e,xs⟩,st2)=>if he:e=e2 then
     (if (isSlSl (C.tab F.t) && isSlSl (C.tab F.t1) && isSl (C.tab F.tx) && (st2.roots F.d2).isNone && Nat.ble (F.d1+1) C.n && Nat.ble (F.d2+1) C.n && !Nat.beq F.d2 F.d1 && notTmp F.d1 F.x)=true then
      some ⟨idr,e2,he▸xs,row,st2⟩ else none) else none
   | _=>none
  | _=>none
 | _=>none
def pushTo (q:Pushd) (F:Push) (tv old:TV):TV :=
 match tv with
 | .a (.ref i [])=>if i=q.id then .a (.ref F.d2 [.ix (List.length q.xs)]) else old
 | _=>old
def pushSt (st:St) (F:Push) (q:Pushd):St :=
 {roots:=(q.st2.root F.d2 ⟨.val false,.sl .own (.sl .own q.e),q.xs++[q.row]⟩).roots,
  tmps:=fun t=>if t=F.d2 then .a (.ref F.d2 []) else if t=F.d1 then .a .junk else pushTo q F (st.tmps t) (q.st2.tmps t) }
end Go.Rf
namespace Go.Rf
def quiet (E:Cz) (op:Op):Bool :=
 match op with
 | .build .. | .buildSlice .. | .makeSlice .. | .box .. | .alloc .. | .store .. | .assign ..=>false
 | .call c=>match c.callee with
  | .builtin .append=>false
  | .builtin _=>true
  | .value (.func f)=>match E.fn f with
   | some fn=>fn.ps.all Ty.plain && fn.rs.all Ty.plain
   | none=>false
  | .value (.tmp t)=>match E.clo t with
   | some g=>match E.fn g with
    | some fn=>fn.ps.all Ty.plain && fn.rs.all Ty.plain
    | none=>false
   | none=>false
  | _=>false
 | _=>true
theorem deClo_quiet {E:Cz}{st:St}{op:Op} (hq:quiet E op=true):quiet E (deClo E.clo st op)=true:=by
 cases op with
 | call c =>
  obtain ⟨callee,args,ts⟩:=c
  cases callee with
  | value f =>
   cases f with
   | tmp t =>
    simp only [deClo]
    split
    ·rename_i g hg
     split
     ·split
      ·simpa [quiet,hg] using hq
      ·exact hq
     ·exact hq
    ·exact hq
   | _=>exact hq
  | _=>exact hq
 | _=>exact hq
def cutPick (dg:Nat):List Oper→Option (List Oper×Nat×List Oper)
 | []=>none
 | o::l=>match o.op,o.dst with
  | .pick (.tmp t) x y,some d=>if t=dg then some ([o],d,l) else (match cutPick dg l with
   | some (m,d',r)=>some (o::m,d',r)
   | none=>none)
  | _,_=>match cutPick dg l with
   | some (m,d',r)=>some (o::m,d',r)
   | none=>none
theorem cutPick_eq {dg:Nat}:∀ {l m r:List Oper}{d:Nat},cutPick dg l=some (m,d,r)→l=m++r:=by
 intro l
 induction l with
 | nil=>intro m r d h;simp [cutPick] at h
 | cons o l ih =>
  intro m r d h
  simp only [cutPick] at h
  split at h
  ·split at h
   ·cases h;rfl
   ·split at h
    ·rename_i h1;cases h;simp [ih h1]
    ·cases h
  ·split at h
   ·rename_i h1;cases h;simp [ih h1]
   ·cases h
def dsts (l:List Oper):List Nat:=l.filterMap (·.dst)
def junkD (ds:List Nat) (st:St):St:={ st with tmps:=fun t=>if ds.elem t=true then .a .junk else st.tmps t }
def boolAt (d:Nat) (st:St):Option Bool :=
 match st.tmps d with
 | .a (.v .bool b)=>some b
 | _=>none
section
variable {R:Type}
def opsK (E:Cz) (ops:Array Oper){R:Type}:Nat→List Nat→List Oper→St→(St→Option R)→Option R
 | _,_,[],st,K=>K st
 | 0,_,_::_,_,_=>none
 | n+1,res,o::l,st,K =>
  match o.guard with
  | none=>match fusePat (o::l) with
   | some (F,l')=>if fuseUse st F=true then fuseK E st F fun st'=>opsK E ops n res l' st' K else opK E st o fun st'=>opsK E ops n res l st' K
   | none=>match pushPat (o::l) with
    | some (F,l')=>match pushGet E.toCy st F with
     | some q=>if List.length q.xs+List.length [q.row]≤4294967296 then opsK E ops n res l' (pushSt st F q) K else none
     | none=>opK E st o fun st'=>opsK E ops n res l st' K
    | none=>opK E st o fun st'=>opsK E ops n res l st' K
  | some (g,b)=>match (ops[g]?).bind (·.dst) with
   | none=>none
   | some dg=>match st.tmps dg with
    | .tup []=>if dOK E.n o.dst=true then opsK E ops n res l (st.put o.dst (.tup [])) K else none
    | .a (.v .bool t) =>
     if res.elem dg=true then
      (if t=b then opK E st o fun st'=>opsK E ops n res l st' K
       else if dOK E.n o.dst=true then opsK E ops n res l (st.put o.dst (.tup [])) K else none)
     else match cutPick dg l with
      | some (m,pd,r) =>
       if (o::m).all (fun o=>quiet E o.op)=true∧(dsts (o::m)).elem dg=false∧dg<E.n then
        (if t=true then opsK E ops n (dg::res) (o::m) (st.put (some dg) (.a (.v .bool true))) (boolAt pd)
         else opsK E ops n (dg::res) (o::m) (st.put (some dg) (.a (.v .bool false))) (boolAt pd)).bind fun v =>
          opsK E ops n res r ({ junkD (dsts (o::m)) st with tmps:=fun t=>if t=pd then .a (.v .bool v) else (junkD (dsts (o::m)) st).tmps t }) K
       else if (o::m).all (fun o=>quiet E o.op)=false then
        (if t=true then opsK E ops n (dg::res) (o::l) (st.put (some dg) (.a (.v .bool true))) K
         else opsK E ops n (dg::res) (o::l) (st.put (some dg) (.a (.v .bool false))) K)
       else none
      | none=>none
    | _=>none
end
def wpL (P:Program) (ops:Array Oper) (J:World→Prop) (Q:Exit→Act→World→Prop):List Oper→(Act→World→Prop)→Act→World→Prop
 | [],K,a,w=>K a w
 | o::l,K,a,w=>if Region.wanted o (yielded ops a.tmps)=true then o.wp P a w (fun a' w'=>J w'∧wpL P ops J Q l K a' w') Q else wpL P ops J Q l K (a.put o.dst undef) w
theorem wpL_append {P:Program}{ops:Array Oper}{J:World→Prop}{Q:Exit→Act→World→Prop}:∀ (l m:List Oper){K:Act→World→Prop}{a:Act}{w:World},
  wpL P ops J Q l (wpL P ops J Q m K) a w→wpL P ops J Q (l++m) K a w:=by
 intro l
 induction l with
 | nil=>intro m K a w h;exact h
 | cons o l ih =>
  intro m K a w h
  simp only [List.cons_append,wpL] at h ⊢
  split
  ·rename_i hw;rw [if_pos hw] at h;exact Oper.wp_mono (fun a w h=>⟨h.1,ih m h.2⟩) h
  ·rename_i hw;rw [if_neg hw] at h;exact ih m h
theorem wpL_mono {P:Program}{ops:Array Oper}{J:World→Prop}{Q:Exit→Act→World→Prop}:∀ (l:List Oper){K K':Act→World→Prop}{a:Act}{w:World},
  (∀ a w,K a w→K' a w)→wpL P ops J Q l K a w→wpL P ops J Q l K' a w:=by
 intro l
 induction l with
 | nil=>intro K K' a w h hl;exact h _ _ hl
 | cons o l ih =>
  intro K K' a w h hl
  simp only [wpL] at hl ⊢
  split
  ·rename_i hw;rw [if_pos hw] at hl;exact Oper.wp_mono (fun a w hl=>⟨hl.1,ih h hl.2⟩) hl
  ·rename_i hw;rw [if_neg hw] at hl;exact ih h hl
theorem wpL_ops {P:Program}{ops:Array Oper}{J:World→Prop}{Q:Exit→Act→World→Prop}:∀ (l:List Oper) (i:Nat),ops.toList.drop i=l→∀ {a:Act}{w:World},wpL P ops J Q l (Q .normal) a w →
  wpOps P ops Q (List.range' i l.length) a w:=by
 intro l
 induction l with
 | nil=>intro i _ a w h;exact h
 | cons o l ih =>
  intro i hi a w h
  have hget:ops[i]?=some o:=by
   have:=congrArg (·[0]?) hi
   simpa using this
  have hnext:ops.toList.drop (i+1)=l:=by
   have:=congrArg (List.drop 1) hi
   simpa [Nat.add_comm] using this
  simp only [List.length_cons,List.range'_succ,wpOps,hget,wpL] at h ⊢
  split
  ·rename_i hw;rw [if_pos hw] at h;exact .inl (Oper.wp_mono (fun a w h=>ih (i+1) hnext h.2) h)
  ·rename_i hw;rw [if_neg hw] at h;exact ih (i+1) hnext h
theorem wpL_region {P:Program}{ops:Array Oper}{J:World→Prop}{Q:Exit→Act→World→Prop}{id:Nat}{a:Act}{w:World} (h:wpL P ops J Q ops.toList (Q .normal) a w):(Code.region id ops false).wp P Q a w:=by
 refine wp_region ?_
 have:=wpL_ops (P:=P) (Q:=Q) ops.toList 0 rfl h
 rw [List.range_eq_range']
 simpa using this
section
variable {P:Program}{E:Cz}{w0 w w':World}{G:Blk}{st st':St}{a:Act}{S:Stab}{pls:Nat→Pl}{X:Nat→List Nat}
theorem mkV_plain {d:Nat}{q:Σ τ:Ty,τ.D} (hp:q.1.plain=true) (h:mkV st d q some=some st'):st'=st.put (some d) (.a (.v q.1 q.2)):=by
 unfold mkV at h
 rw [if_pos hp] at h
 cases h;rfl
theorem takeArgs_plain:∀ (os:List Operand) (ps:List Ty){qs:List (Option (Σ τ:Ty,τ.D))},ps.all Ty.plain=true→takeArgs st os ps=some (qs,st')→st'=st:=by
 intro os
 induction os with
 | nil=>intro ps qs hp h;cases ps <;> simp [takeArgs] at h;exact h.2.symm
 | cons o os ih =>
  intro ps qs hp h
  cases ps with
  | nil=>simp [takeArgs] at h
  | cons σ ps =>
   simp only [List.all_cons,bA] at hp
   simp only [takeArgs,if_pos hp.1] at h
   split at h
   ·rename_i h1;cases h;exact ih ps hp.2 h1
   ·cases h
theorem pre_quiet {op:Op} (hq:quiet E op=true):pre E.fn E.fx st op=st:=by
 unfold pre
 split
 ·rename_i c
  split
  ·rename_i f ec
   simp only [quiet,ec] at hq
   split at hq
   ·rename_i fn hf
    simp only [bA] at hq
    try rw [hf]
    exact preL_plain _ _ hq.1
   ·cases hq
  ·rfl
 ·rfl
theorem quiet_op {o:Oper} (hq:quiet E o.op=true) (h:opK E st o some=some st'):∃ tv,st'=st.put o.dst tv:=by
 have pu:∀ op d,(pureK E.toCx st op fun tv=>some (st.put d tv))=some st'→∃ tv,st'=st.put d tv:=by
  intro op d h
  rw [pureK_bind] at h
  obtain ⟨tv,_,h2⟩:=Option.bind_eq_some_iff.1 h
  cases h2
  exact ⟨tv,rfl⟩
 have hq:=deClo_quiet (st:=st) hq
 unfold opK at h
 obtain ⟨o2,ho2⟩:∃ o2:Oper,o2.op=deClo E.clo st o.op:=⟨{ o with op:=deClo E.clo st o.op },rfl⟩
 rw [← ho2] at h hq
 rw [pre_quiet hq] at h
 split at h
 ·unfold op0 at h
  split at h
  ·rename_i e _;rw [e] at hq;simp [quiet] at hq
  ·rename_i e _;rw [e] at hq;simp [quiet] at hq
  ·rename_i e _;rw [e] at hq;simp [quiet] at hq
  ·rename_i e _;rw [e] at hq;simp [quiet] at hq
  ·rename_i e _;rw [e] at hq;simp [quiet] at hq
  ·rename_i e _;rw [e] at hq;simp [quiet] at hq
  ·rename_i e _;rw [e] at hq;simp [quiet] at hq
  ·rename_i c e
   split at h
   ·rename_i ec _ _ _;rw [e] at hq;simp [quiet,ec] at hq
   ·exact pu _ _ h
   ·rename_i f0 ec
    have hfn:hasFn E.fn f0=true:=by
     rw [e] at hq
     simp only [quiet,ec] at hq
     split at hq
     ·cases hq
     ·rename_i e3;cases e3
     ·rename_i e3
      cases e3
      split at hq
      ·rename_i h3;simp [hasFn,h3]
      ·cases hq
     ·rename_i e3
      cases e3
      simp [hasFn,hasInl,callX] at h
     ·cases hq
    rw [if_pos hfn] at h
    unfold callK at h
    split at h
    ·rename_i fid e2
     cases e2
     split at h
     ·rename_i f hf
      rw [e] at hq
      simp only [quiet,ec,hf,bA] at hq
      split at h
      ·rename_i qs st1 ht
       have hst:=takeArgs_plain _ _ hq.1 ht
       subst hst
       split at h
       ·obtain ⟨r,_,h⟩:=Option.bind_eq_some_iff.1 h
        unfold resK at h
        split at h
        ·cases h;exact ⟨_,rfl⟩
        ·rename_i τ x _ er _
         split at h
         ·rename_i d ed
          rw [er] at hq
          simp at hq
          exact ⟨_,by rw [ed];exact mkV_plain hq.2 h⟩
         ·rename_i ed
          cases h;exact ⟨.a .junk,by rw [ed];rfl⟩
        ·split at h
         ·cases h;exact ⟨_,rfl⟩
         ·cases h
       ·cases h
      ·cases h
     ·cases h
    ·cases h
   ·cases h
  ·exact pu _ _ h
 ·cases h
end
end Go.Rf
namespace Go.Rf
theorem put_roots' {d:Option Nat}{tv:TV}{st:St}:(st.put d tv).roots=st.roots:=by cases d <;> rfl
theorem act_same {a:Act}{d t:Nat}{v:Value} (h:t≠d):(a.put (some d) v).tmps.getD t undef=a.tmps.getD t undef:=by
 simp [Act.put,Array.getD_eq_getD_getElem?,Array.getElem?_setIfInBounds_ne (Ne.symm h)]
theorem act_here {a:Act}{d:Nat}{v:Value} (h:d<a.tmps.size):(a.put (some d) v).tmps.getD d undef=v:=by
 simp [Act.put,Array.getD_eq_getD_getElem?,h]
theorem act_twice {a:Act}{d:Nat}{v u:Value}:(a.put (some d) v).put (some d) u=a.put (some d) u:=by
 simp [Act.put]
theorem eval_other {a:Act}{d:Nat}{v:Value}{y:Operand} (h:notTmp d y=true):(a.put (some d) v).eval y=a.eval y:=by
 cases y <;> simp only [Act.eval] <;> try rfl
 rename_i t
 have:t≠d:=by
  intro e;subst e;simp [notTmp] at h
 simp [Act.put,Array.getD_eq_getD_getElem?,Array.getElem?_setIfInBounds_ne (Ne.symm this)]
theorem fusePat_spec {l l':List Oper}{F:Fuse} (h:fusePat l=some (F,l')):∃ (ty1 ty2 ty3 ty4:TypeId) (p1 p2 p3 p4:String) (e1 e2 e3 e4:Array Edge),
  l=⟨some F.d,.call ⟨.builtin .append,#[F.x,F.y],#[F.t,F.tx]⟩,ty1,p1,e1,none⟩::⟨some F.d2,.indexAddr F.t2 F.x2 F.i2,ty2,p2,e2,none⟩::⟨some F.d3,.fieldAddr F.t3 (.tmp F.d2) F.k,ty3,p3,e3,none⟩::⟨none,.store F.t4 (.tmp F.d3) (.tmp F.d),ty4,p4,e4,none⟩::l':=by
 unfold fusePat at h
 split at h
 ·split at h
  ·rename_i ha ht
   split at h
   ·rename_i hc
    obtain ⟨rfl,rfl,rfl⟩:=hc
    cases h
    have ha':=congrArg List.toArray ha
    have ht':=congrArg List.toArray ht
    simp only [Array.toArray_toList] at ha' ht'
    subst ha' ht'
    exact ⟨_,_,_,_,_,_,_,_,_,_,_,_,rfl⟩
   ·cases h
  ·cases h
 ·cases h
section
variable {P:Program}{E:Cz}{w0 w w':World}{G:Blk}{st st':St}{a:Act}{S:Stab}{pls:Nat→Pl}{X:Nat→List Nat}{R:Type}
theorem fuse_sound (hE:EnvOK P E) (hI:Inv E.toCx w0 G st a w S pls X){F:Fuse}{l l':List Oper} (hp:fusePat l=some (F,l')){K:St→Option R}{r:R} (h:fuseK E st F K=some r){ops:Array Oper}
  {J:World→Prop} (hJ:∀ {st:St}{a:Act}{w:World}{S:Stab}{pls:Nat→Pl}{X:Nat→List Nat},Inv E.toCx w0 G st a w S pls X→J w){Q:Exit→Act→World→Prop}{K':Act→World→Prop}
  (hK:∀ st' a' w',K st'=some r→Fits E.toCx w0 G S w st' a' w'→(∀ t,t≠F.d→t≠F.d2→t≠F.d3→a'.tmps.getD t undef=a.tmps.getD t undef)→wpL P ops J Q l' K' a' w'):wpL P ops J Q l K' a w:=by
 obtain ⟨ty1,ty2,ty3,ty4,p1,p2,p3,p4,e1,e2,e3,e4,rfl⟩:=fusePat_spec hp
 clear hp
 unfold fuseK at h
 split at h
 rotate_left
 ·cases h
 rename_i id p hx
 split at h
 rotate_left
 ·cases h
 rename_i rt hr
 split at h
 rotate_left
 ·cases h
 rename_i e xs hg
 split at h
 rotate_left
 ·cases h
 rename_i hd0
 split at h
 rotate_left
 ·cases h
 rename_i e' ys st1 hs2
 split at h
 rotate_left
 ·cases h
 rename_i ee xs1 st2 ho1
 split at h
 rotate_left
 ·cases h
 rename_i ys' m0 s hat htab
 split at h
 rotate_left
 ·cases h
 rename_i hc
 obtain ⟨hse,hd,hd2,hd3,n12,n13,n23,hny,hlk,hix⟩:=hc
 have n12:F.d≠F.d2:=by intro e;rw [e] at n12;simp at n12
 have n13:F.d≠F.d3:=by intro e;rw [e] at n13;simp at n13
 have n23:F.d2≠F.d3:=by intro e;rw [e] at n23;simp at n23
 -- the part,its place and its header
 have hvx:=hI.opnd F.x
 rw [hx] at hvx
 obtain ⟨r',hr',σ,y,vs,l0,vs',lp,g1,g2,g3,g4,g5⟩:=hvx
 rw [hr] at hr';cases hr'
 rw [hg] at g1;cases g1
 obtain ⟨⟨b,off⟩,hlp⟩:=Option.isSome_iff_exists.1 (at_some p (.inr hix) g4)
 subst hlp
 obtain ⟨q,f,rest,q0,q1,q2,q3,q4⟩:=(hI.roots id rt hr).lend (hI.nd id) id hg g2 g3 g4
 obtain ⟨qB,qpre,qpost,qel,qfr,qhd⟩:=q
 cases qhd with
 | some _=>simp at q0
 | none =>
 obtain ⟨ws,f1,h1,h2,h3,rfl⟩:=q2
 simp only [Plc.ptr,Value.pointer.injEq,sI,Addr.mk.injEq,and_true] at q1
 obtain ⟨rfl,rfl⟩:=q1
 simp only at h1 h2
 obtain ⟨vs9,l9,fp9,hh9,hrp9,_⟩:=(hI.roots id rt hr).holds
 obtain ⟨rfl,rfl⟩:=hh9.det g3
 have hws:ws=vs':=by
  obtain ⟨c9,el9,fr9,m1,m2,m3⟩:=at_mem p hrp9 g2 g4 (holds_mem (S:=S) (r:=rt) hh9) hg
  rw [h1] at m1
  simp only [sI,Obj.cells.injEq] at m1
  obtain ⟨rfl,_,_⟩:=m1
  rw [← m3]
  have hl:=h3.length
  simp only [List.append_assoc,List.drop_left]
  rw [← hl,List.take_left]
 subst hws
 have hwl:ws.length=1:=h3.length
 obtain ⟨hv,rfl,hval⟩:=valOf_one (τ:=.sl .own e) rfl h3.length
 have hxv:a.eval F.x=hv:=by rw [g5];rfl
 -- all that the root owns is put aside
 have hk:=hI.kill id
 have hFk:Free w0 w G S (upd X id []) ((qB::f1)++rest):=by
  have h0:Free w0 w G S (upd X id []) (X id):=by
   refine ⟨fun q hq=>hI.own id q hq,hI.nd id,fun i q hq hq'=>?_⟩
   by_cases e:i=id
   ·subst e;simp at hq'
   ·rw [upd_other _ _ e] at hq';exact hI.dis id i q (Ne.symm e) hq hq'
  exact h0.perm q3.symm
 have hF1:Free w0 w G S (upd X id []) f1:=hFk.sub (List.Sublist.trans (List.sublist_cons_self _ _) (List.sublist_append_left _ _))
 obtain ⟨k1,k2⟩:=hk.newVal hd0 h3 hF1
 have k3:=k1.put (dst:=some F.d) (v:=valOf (.sl .own e) [hv]) (tv:=.a (.ref F.d [])) (fun d' e=>by cases e;exact hd) k2
 have hv0:valOf (.sl .own e) [hv]=hv:=rfl
 rw [hv0] at k3
 have hadz:F.d<a.tmps.size:=by rw [hI.size];exact hd
 generalize hX1:upd (upd X id []) F.d f1=X1 at k3
 generalize hpls1:upd pls F.d (.val [hv])=pls1 at k3
 have kh:=k3.here
 obtain ⟨X2,g2',m1,m2,m3⟩:=src2_spec hE.tab kh (kh.opnd F.y) hs2
 have hdv:=m1.tmps F.d
 rw [act_here hadz] at hdv
 obtain ⟨X3,g1',o1,o2,o3⟩:=own1_spec m1 m2 hdv ho1
 have o3:Rep S (hp w) (.sl .own ee) [hv] xs1 g1':=o3
 obtain ⟨news,s1,s2⟩:=m3
 obtain ⟨r1,r2,r3⟩:=atTy_rows hat s2
 -- the operations in between,as they would go here
 have hI0:=hI.put (dst:=some F.d) (v:=undef) (tv:=.a .junk) (fun d' e=>by cases e;exact hd) trivial
 rw [pureK_bind] at h
 obtain ⟨tv2,hp2,h⟩:=Option.bind_eq_some_iff.1 h
 rw [pureK_bind] at h
 obtain ⟨tv3,hp3,h⟩:=Option.bind_eq_some_iff.1 h
 split at h
 rotate_left
 ·cases h
 rename_i id' p3'
 split at h
 rotate_left
 ·cases h
 rename_i hid
 subst hid
 split at h
 rotate_left
 ·cases h
 rename_i hpe
 have hpe:=pathEq_eq hpe
 subst hpe
 split at h
 rotate_left
 ·cases h
 rename_i hb
 split at h
 rotate_left
 ·cases h
 rename_i τn xn hset h20
 -- it is appended
 have happ:∃ v' w1 fp',(Builtin.append_ #[F.t,F.tx] ty1 #[hv,(a.put (some F.d) hv).eval F.y]).run P w=.ok v' w1∧Inv E.toCx w (owned G X1) st2 (a.put (some F.d) hv) w1 S pls1 X3 ∧
   Rep S (hp w1) (.sl .own ee) [v'] (xs1++ys') fp'∧Free w w1 (owned G X1) S X3 fp':=by
  by_cases hy0:0<ys.length
  ·rw [r3 hy0] at s1 r1
   exact append_spec hE.tab o1 htab hse o3 o2 s1 r2.symm r1 (by omega) (ty:=ty1)
  ·have hy:ys=[]:=List.eq_nil_of_length_eq_zero (by omega)
   subst hy
   have hy':ys'=[]:=List.eq_nil_of_length_eq_zero (by rw [r2];rfl)
   subst hy'
   have hn0:news=[]:=List.eq_nil_of_length_eq_zero (by rw [s1.newsLen];simp)
   subst hn0
   have hg2:g2'=[]:=s2
   exact append_spec hE.tab o1 htab hse o3 o2 (Src.size s1) rfl (by rw [hg2];rfl) (by simpa using hb) (ty:=ty1) (ys:=[])
 obtain ⟨v',w1,fp',j1,j2,j3,j4⟩:=happ
 rw [eval_other hny] at j1
 -- the world behind it
 have hnotX:∀ c,(c=qB∨c∈rest)→c ∉ owned G X1:=by
  rintro c hc ⟨i,hi⟩
  have hcF:c∈(qB::f1)++rest:=by
   rcases hc with h | h <;> simp [h]
  rw [← hX1] at hi
  by_cases ei:i=F.d
  ·subst ei
   rw [upd_same] at hi
   have hnd:=hFk.nd
   rcases hc with h | h
   ·subst h
    simp only [List.cons_append,List.nodup_cons,List.mem_append,not_or] at hnd
    exact hnd.1.1 hi
   ·have:=(List.nodup_append.1 hnd).2.2 c (by simp [hi]) c h
    exact this rfl
  ·rw [upd_other _ _ ei] at hi
   exact hFk.dis i c hcF hi
 have hstill:∀ m c,S m c→hp w1 c=hp w c:=fun m c hc=>j2.frm.block c (hI.stab m c hc) (by
  rintro ⟨i,hi⟩
  exact (k3.own i c hi).2.1 m hc)
 have hsame:∀ c,(c=qB∨c∈rest)→hp w1 c=hp w c:=fun c hc=>j2.frm.block c (hFk.ok c (by rcases hc with h | h <;> simp [h])).1 (hnotX c hc)
 have jB:=k3.back j2
 have jB2:=jB.put (dst:=some F.d) (v:=v') (tv:=.a .junk) (fun d' e=>by cases e;exact hd) trivial
 rw [act_twice] at jB2
 have hJ1:J w1:=hJ jB2
 -- the operations in between
 have i0:=hI.put (dst:=some F.d) (v:=v') (tv:=.a .junk) (fun d' e=>by cases e;exact hd) trivial
 obtain ⟨v2,run2,rel2⟩:=pure_run (o:=⟨some F.d2,.indexAddr F.t2 F.x2 F.i2,ty2,p2,e2,none⟩) hE.tab i0 hp2
 have i2:=i0.put (dst:=some F.d2) (v:=v2) (tv:=tv2) (fun d' e=>by cases e;exact hd2) rel2
 obtain ⟨v3,run3,rel3⟩:=pure_run (o:=⟨some F.d3,.fieldAddr F.t3 (.tmp F.d2) F.k,ty3,p3,e3,none⟩) hE.tab i2 hp3
 have hv3:v3=.pointer (some ⟨qB,qpre.length,none⟩):=by
  obtain ⟨r9,hr9,σ9,y9,vs8,l8,vs7,b9,off9,c1,c2,c3,c4,c5⟩:=rel3
  simp only [put_roots'] at hr9
  rw [hr] at hr9;cases hr9
  obtain ⟨rfl,rfl⟩:=c3.det g3
  obtain ⟨_,e9⟩:=c4.det p g4
  cases e9
  exact c5
 have r2w:=run2 w1 ⟨hstill,fun id h=>by cases h⟩
 have r3w:=run3 w1 ⟨hstill,fun id h=>by cases h⟩
 -- the store
 have hB1:hp w1 qB=some (.cells (qpre++[hv]++qpost).toArray qel qfr):=by rw [hsame qB (.inl rfl)];exact h1
 obtain ⟨s4,hs41,hs42,_⟩:=likeTy_spec hlk
 have hone:=j3.oneCell
 have hcell:v'.cells=[v'].toArray:=by
  have:=valOf_cells (τ:=.sl .own ee) j3.length hone
  exact this
 have hrun:=storeVar_run (P:=P) (w:=w1) (b:=qB) (off:=qpre.length) hE.tab hs41 hcell (by rw [hs42];rfl) hB1 (by simpa using h2) (by simp) hone
 have hput:lput (qpre++[hv]++qpost).toArray.toList qpre.length [v']=qpre++[v']++qpost:=by
  simp [lput]
 rw [hput] at hrun
 -- all of it is free
 have hfp'old:∀ c∈fp',w.heap.size≤c∨c∈owned G X1:=fun c hc=>(j4.ok c hc).2.2
 have hFall:Free w0 w1 G S X3 ((qB::fp')++rest):=by
  have hsz:=j2.frm.size
  refine ⟨fun c hc=>?_,?_,fun i c hc hi=>?_⟩
  ·simp only [List.cons_append,List.mem_cons,List.mem_append] at hc
   rcases hc with hc | hc | hc
   ·have:=hFk.ok c (by simp [hc]);exact ⟨by omega,this.2⟩
   ·obtain ⟨u1,u2,u3⟩:=j4.ok c hc
    refine ⟨u1,u2,?_⟩
    rcases u3 with u3 | ⟨i,hi⟩
    ·exact .inl (Nat.le_trans hI.frm.size u3)
    ·exact (k3.own i c hi).2.2
   ·have:=hFk.ok c (by simp [hc]);exact ⟨by omega,this.2⟩
  ·have hnd:=hFk.nd
   simp only [List.cons_append,List.nodup_cons,List.mem_append,not_or,List.nodup_append] at hnd ⊢
   refine ⟨⟨fun hc=>?_,hnd.1.2⟩,j4.nd,hnd.2.2.1,?_⟩
   ·rcases hfp'old qB hc with h | h
    ·have:=(hFk.ok qB (by simp)).1;omega
    ·exact hnotX qB (.inl rfl) h
   ·rintro c hc c' hc' rfl
    rcases hfp'old c hc with h | h
    ·have:=(hFk.ok c (by simp [hc'])).1;omega
    ·exact hnotX c (.inr hc') h
  ·simp only [List.cons_append,List.mem_cons,List.mem_append] at hc
   rcases hc with hc | hc | hc
   ·rcases (j2.own i c hi).2.2 with h | h
    ·have:=(hFk.ok c (by simp [hc])).1;omega
    ·exact hnotX c (.inl hc) h
   ·exact j4.dis i c hc hi
   ·rcases (j2.own i c hi).2.2 with h | h
    ·have:=(hFk.ok c (by simp [hc])).1;omega
    ·exact hnotX c (.inr hc) h
 -- the state behind the store
 have jB3:=(jB2.put (dst:=some F.d2) (v:=v2) (tv:=.a .junk) (fun d' e=>by cases e;exact hd2) trivial).put (dst:=some F.d3) (v:=v3) (tv:=.a .junk) (fun d' e=>by cases e;exact hd3) trivial
 have jW:=jB3.writeFree hFall (b:=qB) (by simp) (qpre++[v']++qpost).toArray
 generalize hw2:w1.setRow qB (qpre++[v']++qpost).toArray=w2 at jW hrun
 have hoth:∀ c,c≠qB→hp w2 c=hp w1 c:=fun c hc=>by rw [← hw2];exact hp_setRow_other hc
 have hsz2:w2.heap.size=w1.heap.size:=by rw [← hw2];simp
 have hFall2:Free w0 w2 G S X3 ((qB::fp')++rest):=⟨fun c hc=>by rw [hsz2];exact hFall.ok c hc,hFall.nd,hFall.dis⟩
 have hnd0:=hFall.nd
 simp only [List.cons_append,List.nodup_cons,List.mem_append,not_or] at hnd0
 have hheld:HeldAt S (hp w2) (.sl .own ee) ⟨qB,qpre,qpost,qel,qfr,none⟩ (xs1++ys') (qB::fp'):=by
  refine ⟨[v'],fp',?_,?_,j3.heap (fun m c hc=>hoth c ?_) (fun c hc=>hoth c ?_),rfl⟩
  ·rw [← hw2]
   simp only
   exact hp_setRow_same hB1
  ·simpa using h2
  ·rintro rfl;exact (hFall.ok c (by simp)).2.1 m hc
  ·rintro rfl;exact hnd0.1.1 hc
 have hrest2:∀ c∈rest,hp w2 c=hp w c:=fun c hc=>by
  rw [hoth c (by rintro rfl;exact hnd0.1.2 hc)];exact hsame c (.inr hc)
 have hstill2:∀ m c,S m c→hp w2 c=hp w c:=fun m c hc=>by
  rw [hoth c (by rintro rfl;exact (hFall.ok c (by simp)).2.1 m hc)];exact hstill m c hc
 obtain ⟨Y,vsn,ln,b1,b2,b3,b4,b5⟩:=q4 S (hp w2) (.sl .own ee) (xs1++ys') (qB::fp') τn xn (fun _ _ h=>h) hstill2 hrest2 hheld hset rfl
 have hFY:Free w0 w2 G S X3 Y:=hFall2.perm b2
 have h20':(junk3 st2 F).roots id'=none:=by
  simp only [junk3,put_roots'];exact h20
 have nn:=jW.newRoot (d:=id') (r:=⟨rt.k,τn,xn⟩) (pl:=pls id') (Y:=Y) h20' b1 hFY.ok hFY.nd (fun j _ c hc=>hFY.dis j c hc) (fun hk=>hI.pin id' rt hr hk)
 have hold:∀ t,t≠F.d→t≠F.d2→t≠F.d3→((((a.put (some F.d) v').put (some F.d2) v2).put (some F.d3) v3).tmps.getD t undef)=a.tmps.getD t undef:=by
  intro t t1 t2 t3
  rw [act_same t3,act_same t2,act_same t1]
 have hst0:∀ t tv,(junk3 st F).tmps t=.a tv→tv≠.junk→t≠F.d∧t≠F.d2∧t≠F.d3∧st.tmps t=.a tv:=by
  intro t tv ht hne
  simp only [junk3,St.put] at ht
  split at ht
  ·simp only [TV.a.injEq] at ht;exact absurd ht.symm hne
  ·rename_i t3
   split at ht
   ·simp only [TV.a.injEq] at ht;exact absurd ht.symm hne
   ·rename_i t2
    split at ht
    ·simp only [TV.a.injEq] at ht;exact absurd ht.symm hne
    ·rename_i t1
     exact ⟨t1,t2,t3,ht⟩
 have fin:=Inv.renewed (a:=((a.put (some F.d) v').put (some F.d2) v2).put (some F.d3) v3) (w:=w2) (st:=junk3 st2 F) (S1:=S) (H1:=hp w) (pls0:=pls) (roots0:=st.roots) (st0:=junk3 st F) (id:=id') (r:=rt) (τn:=τn) (xn:=xn)
  (fun t i p ht=>by
   obtain ⟨t1,t2,t3,t4⟩:=hst0 t _ ht (by simp)
   have:=hI.tmps t
   rw [hold t t1 t2 t3];rw [t4] at this;exact this)
  (fun t i p ht=>by
   obtain ⟨t1,t2,t3,t4⟩:=hst0 t _ ht (by simp)
   have:=hI.tmps t
   rw [hold t t1 t2 t3];rw [t4] at this;exact this)
  hr b1 b3 b4 b5 nn
 -- the walk
 have w1':∀ (o:Oper) (a:Act),o.guard=none→Region.wanted o (yielded ops a.tmps)=true:=fun o a hg=>by simp [Region.wanted,hg]
 rw [wpL,if_pos (w1' _ _ rfl)]
 have x1:(execOp a.eval ⟨some F.d,.call ⟨.builtin .append,#[F.x,F.y],#[F.t,F.tx]⟩,ty1,p1,e1,none⟩).run P w=.ok (.value v') w1:=by
  rw [← hxv] at j1
  simp [execOp,resolve,invoke,builtin,j1]
 simp only [Oper.wp,x1,Oper.upon]
 refine ⟨hJ1,?_⟩
 rw [wpL,if_pos (w1' _ _ rfl)]
 simp only [Oper.wp,r2w,Oper.upon]
 refine ⟨hJ1,?_⟩
 rw [wpL,if_pos (w1' _ _ rfl)]
 simp only [Oper.wp,r3w,Oper.upon]
 refine ⟨hJ1,?_⟩
 rw [wpL,if_pos (w1' _ _ rfl)]
 have hsz0:=hI.size
 have v3e:(((a.put (some F.d) v').put (some F.d2) v2).put (some F.d3) v3).eval (.tmp F.d3)=.pointer (some ⟨qB,qpre.length,none⟩):=by
  rw [← hv3]
  exact act_here (by rw [(jB2.put (dst:=some F.d2) (v:=v2) (tv:=.a .junk) (fun d' e=>by cases e;exact hd2) trivial).size];exact hd3)
 have v1e:(((a.put (some F.d) v').put (some F.d2) v2).put (some F.d3) v3).eval (.tmp F.d)=v':=by
  show (((a.put (some F.d) v').put (some F.d2) v2).put (some F.d3) v3).tmps.getD F.d undef=v'
  rw [act_same n13,act_same n12]
  exact act_here hadz
 have x4:(execOp (((a.put (some F.d) v').put (some F.d2) v2).put (some F.d3) v3).eval ⟨none,.store F.t4 (.tmp F.d3) (.tmp F.d),ty4,p4,e4,none⟩).run P w1=.ok .skip w2:=by
  simp [execOp,Instr.storeAt,v3e,v1e,Instr.sureAddr,hrun]
 simp only [Oper.wp,x4,Oper.upon]
 refine ⟨hJ fin,?_⟩
 exact hK _ _ _ h ⟨S,_,_,fin,fun _ _ h=>h,hstill2,fun b hb=>.inl hb,fun m b hb=>.inl ⟨m,hb⟩⟩ hold
end
end Go.Rf
namespace Go.Rf
theorem pushPat_spec {l l':List Oper}{F:Push} (h:pushPat l=some (F,l')):∃ (ty1 ty2:TypeId) (p1 p2:String) (e1 e2:Array Edge),
  l=⟨some F.d1,.buildSlice F.t1 1 #[(0,F.y)],ty1,p1,e1,none⟩::⟨some F.d2,.call ⟨.builtin .append,#[F.x,.tmp F.d1],#[F.t,F.tx]⟩,ty2,p2,e2,none⟩::l':=by
 unfold pushPat at h
 split at h
 ·split at h
  ·rename_i hp ha ht
   split at h
   ·rename_i hc
    subst hc
    cases h
    have hp':=congrArg List.toArray hp
    have ha':=congrArg List.toArray ha
    have ht':=congrArg List.toArray ht
    simp only [Array.toArray_toList] at hp' ha' ht'
    subst hp' ha' ht'
    exact ⟨_,_,_,_,_,_,rfl⟩
   ·cases h
  ·cases h
 ·cases h
section
variable {P:Program}{C:Cy}{w0 w:World}{G:Blk}{st:St}{a:Act}{S:Stab}{pls:Nat→Pl}{X:Nat→List Nat}
theorem isSl_spec {o:Option Ty} (h:isSl o=true):∃ m s,o=some (.sl m s):=by
 unfold isSl at h
 split at h
 ·exact ⟨_,_,rfl⟩
 ·cases h
theorem isSlSl_spec {o:Option Ty} (h:isSlSl o=true):∃ m m' s,o=some (.sl m (.sl m' s)):=by
 unfold isSlSl at h
 split at h
 ·exact ⟨_,_,_,rfl⟩
 ·cases h
theorem build1_run {tab:Nat→Option Ty} (hT:TabOK P tab){t:Nat}{m:Mode}{s:Ty} (ht:tab t=some (.sl m s)) (hs:s.size=1){y:Operand}{hv:Value} (hy:a.eval y=hv) (hc:hv.cells=#[hv]){d:Nat}{ty:TypeId}{pos:String}{after:Array Edge}{guard:Option (Nat×Bool)} :
  ∃ el,∀ w,(execOp a.eval ⟨some d,.buildSlice t 1 #[(0,y)],ty,pos,after,guard⟩).run P w=.ok (.value (.slice (some ⟨w.heap.size,0,none⟩) 1 1)) (w.alloc (.cells #[hv] el)):=by
 obtain ⟨dd,hdd,hk⟩:=(hT t _ ht).under
 cases dd with
 | slice el =>
  simp only [dk,descOK,beq_iff_eq] at hk
  refine ⟨el,fun w=>?_⟩
  have hsz:=(hT _ _ hk).size (w:=w)
  have hz:=(hT _ _ hk).zero (w:=w)
  have key:∀ q:Array Value,Instr.fill (fun i=>some (i*s.size,s.size)) ((Array.range (1*s.size)).map (fun i=>q[i % q.size]!)) [(0,hv)]=some #[hv]:=by
   intro q
   rw [fill_one (vs:=[hv]) (off:=0) hc (by simp [hs]) (by simp [hs])]
   simp [Instr.fill,lput,hs]
  simp only [execOp,Instr.buildSlice,Sem.run_bind,hdd,Result.andThen_ok,hsz,Sem.run_ite]
  rw [if_neg (by omega),if_neg (by omega)]
  simp only [Sem.run_bind,hz,Sem.run_pure,Result.andThen_ok]
  have e1:((#[(0,y)]:Array (Nat×Operand)).map fun (i,x)=>(i,a.eval x)).toList=[(0,hv)]:=by simp [hy]
  rw [e1,key]
  simp [newRow]
 | _=>simp [dk,descOK] at hk
theorem push_out (hT:TabOK P C.tab) (hI:Inv C.toCx w0 G st a w S pls X){F:Push}{q:Pushd} (h:pushGet C st F=some q) (hb:List.length q.xs+List.length [q.row]≤4294967296){ty1 ty2:TypeId}{p1 p2:String}{e1 e2:Array Edge} :
  ∃ v1 w1 v2 w2,(execOp a.eval ⟨some F.d1,.buildSlice F.t1 1 #[(0,F.y)],ty1,p1,e1,none⟩).run P w=.ok (.value v1) w1 ∧
   (∃ st1 pls1 X1,Inv C.toCx w0 G st1 (a.put (some F.d1) v1) w1 S pls1 X1) ∧
   (execOp (a.put (some F.d1) v1).eval ⟨some F.d2,.call ⟨.builtin .append,#[F.x,.tmp F.d1],#[F.t,F.tx]⟩,ty2,p2,e2,none⟩).run P w1=.ok (.value v2) w2 ∧
   ∃ pls' X',Inv C.toCx w0 G (pushSt st F q) ((a.put (some F.d1) v1).put (some F.d2) v2) w2 S pls' X':=by
 unfold pushGet at h
 split at h
 rotate_left
 ·cases h
 rename_i idr hy
 split at h
 rotate_left
 ·cases h
 rename_i bb e2' row hr
 split at h
 rotate_left
 ·cases h
 rename_i e xs st2 ho1
 split at h
 rotate_left
 ·cases h
 rename_i he
 subst he
 split at h
 rotate_left
 ·cases h
 rename_i hc
 simp only [bA,Bool.not_eq_true',Nat.beq_eq_true_eq,Option.isNone_iff_eq_none] at hc
 obtain ⟨⟨⟨⟨⟨⟨⟨c1,c2⟩,c3⟩,h0⟩,hd1⟩,hd2⟩,hne⟩,hnx⟩:=hc
 have hd1:F.d1<C.n:=Nat.le_of_ble_eq_true hd1
 have hd2:F.d2<C.n:=Nat.le_of_ble_eq_true hd2
 have hne:F.d2≠F.d1:=by intro e;rw [e] at hne;simp at hne
 obtain ⟨m1,m1',s1,ht⟩:=isSlSl_spec c1
 obtain ⟨m2,m2',s2,ht1⟩:=isSlSl_spec c2
 obtain ⟨m3,s3,htx⟩:=isSl_spec c3
 cases h
 simp only at hb ⊢
 -- the list that is put
 have hvy:=hI.opnd F.y
 rw [hy] at hvy
 have hvy0:=hvy
 have htk:take st (.a (.ref idr []))=some (⟨.sl .own e,row⟩,st.kill idr):=by simp [take,hr]
 obtain ⟨X1,g,ws,k1,k2,k3,k4,_⟩:=take_spec hI (Free.nil (w0:=w0) (w:=w) (G:=G) (S:=S) (X:=X)) hvy htk
 simp only [List.nil_append] at k2
 obtain ⟨hv,rfl,hval⟩:=valOf_one (τ:=.sl .own e) rfl k4.length
 have hval:valOf (Ty.sl .own e) [hv]=hv:=rfl
 simp only at k3
 rw [hval] at k3
 obtain ⟨X2,g1,n1,n2,n3⟩:=own1_spec k1 k2 (k1.opnd F.x) ho1
 have n3:Rep S (hp w) (.sl .own (.sl .own e)) [a.eval F.x] xs g1:=n3
 have hcells:hv.cells=#[hv]:=by
  have:=valOf_cells (τ:=.sl .own e) k4.length k4.oneCell
  exact this
 obtain ⟨el,hrun1⟩:=build1_run (a:=a) hT ht1 (show (Ty.sl m2' s2).size=1 from rfl) k3 hcells (d:=F.d1) (ty:=ty1) (pos:=p1) (after:=e1) (guard:=none)
 -- the world behind the literal
 have i1:=(n1.alloc (.cells #[hv] el)).put (dst:=some F.d1) (v:=.slice (some ⟨w.heap.size,0,none⟩) 1 1) (tv:=.a .junk) (fun d' e=>by cases e;exact hd1) trivial
 have hF1:Free w0 (w.alloc (.cells #[hv] el)) G S X2 (g1++g):=(n2.alloc n1 _).sub (List.sublist_cons_self _ _)
 have r1:Rep S (hp (w.alloc (.cells #[hv] el))) (.sl .own (.sl .own e)) [a.eval F.x] xs g1:=n3.alloc n1 (fun b hb=>(n2.ok b (by simp [hb])).1) _
 have r2:Rep S (hp (w.alloc (.cells #[hv] el))) (.sl .own e) [hv] row g:=k4.alloc n1 (fun b hb=>(n2.ok b (by simp [hb])).1) _
 obtain ⟨elx,hkx⟩:=under_slice hT htx
 have hone:hv.oneCell'=true:=k4.oneCell hv (by simp)
 have hsrc:Src P (Ty.sl .own e).size F.tx (.slice (some ⟨w.heap.size,0,none⟩) 1 1) 1 [hv] (w.alloc (.cells #[hv] el)):=by
  refine Src.ofSlice _ hkx ⟨w.heap.size,0,none⟩ 1 1 [hv] (by simp [Ty.size]) ?_ (by simpa using hone)
  intro j u hj
  rw [addr_add,cell_hp (c:=#[hv]) (el:=el) (fr:=(0,0)) (hp_alloc_new (w:=w))]
  cases j with
  | zero=>simpa using hj
  | succ j=>simp at hj
 have hrows:Rows (Rep S (hp (w.alloc (.cells #[hv] el))) (.sl .own e)) (Ty.sl .own e).size [hv] [row] g:=⟨g,[],by simp,r2,rfl⟩
 obtain ⟨v2,w2,fp,j1,j2,j3,j4,j5⟩:=append_spec' (ty:=ty2) hT i1 ht (show (Ty.sl m1' s1).size=(Ty.sl .own e).size from rfl) r1 hF1 hsrc rfl hrows hb
 obtain ⟨l',hat⟩:=j5 rfl
 have h0':(st2.put (some F.d1) (.a .junk)).roots F.d2=none:=by rw [put_roots'];exact h0
 obtain ⟨o1,o2⟩:=j2.newVal h0' j3 j4
 have o3:=o1.put (dst:=some F.d2) (v:=v2) (tv:=.a (.ref F.d2 [])) (fun d' e=>by cases e;exact hd2) (trel_sl o2)
 refine ⟨_,_,v2,w2,hrun1 w,⟨_,_,_,i1⟩,?_,upd pls F.d2 (.val [v2]),upd X2 F.d2 fp,?_⟩
 ·have hex:(a.put (some F.d1) (.slice (some ⟨w.heap.size,0,none⟩) 1 1)).eval F.x=a.eval F.x:=eval_other hnx
  have hez:(a.put (some F.d1) (.slice (some ⟨w.heap.size,0,none⟩) 1 1)).eval (.tmp F.d1)=.slice (some ⟨w.heap.size,0,none⟩) 1 1:=by
   simp only [Act.eval]
   exact act_here (by rw [hI.size];exact hd1)
  simp only [execOp,resolve,invoke,builtin,Sem.run_bind,Sem.run_pure,Result.andThen_ok]
  have e9:(#[F.x,Operand.tmp F.d1].map (a.put (some F.d1) (.slice (some ⟨w.heap.size,0,none⟩) 1 1)).eval)=#[a.eval F.x,.slice (some ⟨w.heap.size,0,none⟩) 1 1]:=by
   simp [hex,hez]
  rw [e9,j1]
  rfl
 ·refine o3.retmp0 (by simp only [pushSt,put_roots'];rfl) (fun t=>?_)
  have hold:=o3.tmps t
  simp only [pushSt]
  split
  ·rename_i e;subst e
   simpa [St.put] using hold
  ·rename_i ht2
   split
   ·exact trivial
   ·rename_i ht1'
    have hold':TRel S (hp w2) (upd pls F.d2 (.val [v2])) (St.put (St.root (St.put st2 (some F.d1) (.a .junk)) F.d2 ⟨.val false,.sl .own (.sl .own e),xs++[row]⟩) (some F.d2) (.a (.ref F.d2 []))).roots
      (((a.put (some F.d1) (.slice (some ⟨w.heap.size,0,none⟩) 1 1)).put (some F.d2) v2).tmps.getD t undef) (st2.tmps t):=by
     have e9:(St.put (St.root (St.put st2 (some F.d1) (.a .junk)) F.d2 ⟨.val false,.sl .own (.sl .own e),xs++[row]⟩) (some F.d2) (.a (.ref F.d2 []))).tmps t=st2.tmps t:=by
      simp [St.put,St.root,ht2,ht1']
     rw [← e9];exact hold
    unfold pushTo
    split
    ·rename_i i hti
     split
     ·rename_i hid
      simp only at hid
      subst hid
      -- what spoke of it
      have hat0:=hI.tmps t
      rw [hti] at hat0
      obtain ⟨ra,hra,σa,ya,va,la,va',la',ga1,ga2,ga3,ga4,ga5⟩:=hat0
      obtain ⟨rb,hrb,σb,yb,vb,lb,vb',lb',gb1,gb2,gb3,gb4,gb5⟩:=hvy0
      rw [hr] at hra hrb;cases hra;cases hrb
      obtain ⟨rfl,rfl⟩:=ga3.det gb3
      obtain ⟨rfl,rfl⟩:=ga4
      obtain ⟨rfl,rfl⟩:=gb4
      simp only [getP,sI,Sigma.mk.injEq] at ga1 gb1
      obtain ⟨rfl,ga1⟩:=ga1
      obtain ⟨rfl,gb1⟩:=gb1
      have hsame:a.tmps.getD t undef=hv:=by rw [ga5,← gb5,k3]
      refine ⟨⟨.val false,.sl .own (.sl .own e),xs++[row]⟩,by simp [St.put,St.root],.sl .own e,List.getD (xs++[row]) (List.length xs) (Ty.dflt (.sl .own e)),[v2],none,[hv],l',rfl,⟨?_,trivial⟩,?_,hat,?_⟩
      ·simp
      ·rw [upd_same];exact ⟨rfl,rfl⟩
      ·rw [act_same ht2,act_same ht1',hsame];rfl
     ·exact hold'
    ·exact hold'
end
end Go.Rf
namespace Go.Rf
section
variable {P:Program}{E:Cz}{w0 w w':World}{G:Blk}{st st':St}{a:Act}{S:Stab}{pls:Nat→Pl}{X:Nat→List Nat}{R:Type}
def Post (E:Cz) (w0:World) (G:Blk) (S:Stab) (w:World) (a:Act) (st:St) (l:List Oper) (K:St→Option R) (r:R) (a':Act) (w':World):Prop :=
 ∃ st',K st'=some r∧Fits E.toCx w0 G S w st' a' w'∧(∀ t,t ∉ dsts l→a'.tmps.getD t undef=a.tmps.getD t undef)∧(l.all (fun o=>quiet E o.op)=true→st'.roots=st.roots∧∀ t,t ∉ dsts l→st'.tmps t=st.tmps t)
theorem Inv.retmp {C:Cx} (hI:Inv C w0 G st a w S pls X) (hr:st'.roots=st.roots) (h:∀ t,TRel S (hp w) pls st.roots (a.tmps.getD t undef) (st'.tmps t)):Inv C w0 G st' a w S pls X :=
 ⟨hI.frm,hI.stab,hI.kl,hI.own,hI.nd,hI.dis,fun id r h'=>hI.roots id r (by rw [← hr];exact h'),fun t=>by rw [hr];exact h t,hI.size,hI.defers,hI.glb,fun id r h'=>hI.pin id r (by rw [← hr];exact h')⟩
theorem put_other {d t:Nat}{tv:TV} (h:t≠d):(st.put (some d) tv).tmps t=st.tmps t:=by simp [St.put,h]
theorem put_same {d:Nat}{tv:TV}:(st.put (some d) tv).tmps d=tv:=by simp [St.put]
theorem put_roots {d:Option Nat}{tv:TV}:(st.put d tv).roots=st.roots:=by cases d <;> rfl
theorem put_dst {d:Option Nat}{tv:TV}{t:Nat} (h:d≠some t):(st.put d tv).tmps t=st.tmps t:=by
 cases d with
 | none=>rfl
 | some d=>exact put_other (fun e=>h (by rw [e]))
theorem mem_dsts {l:List Oper}{o:Oper}{t:Nat} (h:t ∉ dsts (o::l)):o.dst≠some t∧t ∉ dsts l:=by
 constructor
 ·intro e;exact h (by simp [dsts,e])
 ·intro e
  apply h
  simp only [dsts,List.mem_filterMap] at e ⊢
  obtain ⟨x,hx,hx'⟩:=e
  exact ⟨x,by simp [hx],hx'⟩
theorem act_put {d:Option Nat}{v:Value}{t:Nat} (h:d≠some t):(a.put d v).tmps.getD t undef=a.tmps.getD t undef:=by
 cases d with
 | none=>rfl
 | some d =>
  have hne:d≠t:=fun e=>h (by rw [e])
  simp [Act.put,Array.getD_eq_getD_getElem?,Array.getElem?_setIfInBounds_ne hne]
theorem Post.later {w1:World}{S1:Stab}{st1:St}{l l':List Oper}{K:St→Option R}{r:R}{a1 a':Act} (hg:Grows w0 G S S1 w w1) (hf:∀ t,t ∉ dsts l'→t ∉ dsts l∧a1.tmps.getD t undef=a.tmps.getD t undef)
  (hq:l'.all (fun o=>quiet E o.op)=true→l.all (fun o=>quiet E o.op)=true∧st1.roots=st.roots∧∀ t,t ∉ dsts l'→t ∉ dsts l∧st1.tmps t=st.tmps t)
  (h:Post E w0 G S1 w1 a1 st1 l K r a' w'):Post E w0 G S w a st l' K r a' w':=by
 obtain ⟨st',hK,⟨S',pls',X',hI,hg'⟩,ha,hr⟩:=h
 refine ⟨st',hK,⟨S',pls',X',hI,hg.trans hg'⟩,fun t ht=>(ha t (hf t ht).1).trans (hf t ht).2,fun hl=>?_⟩
 obtain ⟨h1,h2,h3⟩:=hq hl
 obtain ⟨h4,h5⟩:=hr h1
 exact ⟨h4.trans h2,fun t ht=>(h5 t (h3 t ht).1).trans (h3 t ht).2⟩
def isB:Value→Bool→Bool
 | .bool t,b=>t == b
 | _,_=>false
theorem dsts_append (l m:List Oper):dsts (l++m)=dsts l++dsts m:=by simp [dsts]
theorem cutPick_dst {dg:Nat}:∀ {l m r:List Oper}{d:Nat},cutPick dg l=some (m,d,r)→d∈dsts m:=by
 intro l
 induction l with
 | nil=>intro m r d h;simp [cutPick] at h
 | cons o l ih =>
  have key:∀ {m r:List Oper}{d:Nat},d∈dsts m→d∈dsts (o::m):=by
   intro m r d h
   have:=dsts_append [o] m
   rw [show o::m=[o]++m from rfl,this,List.mem_append]
   exact .inr h
  intro m r d h
  simp only [cutPick] at h
  split at h
  ·rename_i hd
   split at h
   ·cases h;simp [dsts,hd]
   ·split at h
    ·rename_i h1;cases h;exact key (r:=r) (ih h1)
    ·cases h
  ·split at h
   ·rename_i h1;cases h;exact key (r:=r) (ih h1)
   ·cases h
theorem wanted_of {o:Oper}{ops:Array Oper}{g:Nat}{b:Bool} (hg:o.guard=some (g,b)){dg:Nat} (hd:(ops[g]?).bind (·.dst)=some dg){v:Value} (hv:a.tmps.getD dg undef=v) :
  Region.wanted o (yielded ops a.tmps)=isB v b:=by
 simp only [Region.wanted,hg,yielded,hd,oB]
 rw [Array.getD_eq_getD_getElem?] at hv
 cases e:a.tmps[dg]? with
 | none=>rw [e] at hv;simp at hv;subst hv;simp [undef,isB]
 | some u =>
  rw [e] at hv
  simp at hv
  subst hv
  cases u <;> simp [isB]
theorem opsK_sound (hE:EnvOK P E){ops:Array Oper}{J:World→Prop} (hJ:∀ {st:St}{a:Act}{w:World}{S:Stab}{pls:Nat→Pl}{X:Nat→List Nat},Inv E.toCx w0 G st a w S pls X→J w){Q:Exit→Act→World→Prop}:∀ (n:Nat){R:Type} (res:List Nat) (l:List Oper){st:St}{K:St→Option R}{r:R}{a:Act}{w:World}{S:Stab}{pls:Nat→Pl}{X:Nat→List Nat},
  opsK E ops n res l st K=some r→Inv E.toCx w0 G st a w S pls X→wpL P ops J Q l (Post E w0 G S w a st l K r) a w:=by
 intro n
 induction n with
 | zero =>
  intro R res l st K r a w S pls X h hI
  cases l with
  | nil=>exact ⟨st,h,⟨S,pls,X,hI,Grows.refl⟩,fun _ _=>rfl,fun _=>⟨rfl,fun _ _=>rfl⟩⟩
  | cons o l=>simp [opsK] at h
 | succ n ih =>
  intro R res l st K r a w S pls X h hI
  cases l with
  | nil=>exact ⟨st,h,⟨S,pls,X,hI,Grows.refl⟩,fun _ _=>rfl,fun _=>⟨rfl,fun _ _=>rfl⟩⟩
  | cons o l =>
   -- an operation that is done
   have step:(opK E st o fun st'=>opsK E ops n res l st' K)=some r→Region.wanted o (yielded ops a.tmps)=true→wpL P ops J Q (o::l) (Post E w0 G S w a st (o::l) K r) a w:=by
    intro h hw
    rw [opK_bind] at h
    obtain ⟨st1,h1,h2⟩:=Option.bind_eq_some_iff.1 h
    simp only [wpL,if_pos hw]
    refine op_done hE hI h1 _ _ ?_
    rintro v w1 ⟨S1,pls1,X1,hI1,hg⟩
    refine ⟨hJ hI1,wpL_mono l ?_ (ih res l h2 hI1)⟩
    intro a' w' hp
    refine hp.later hg (fun t ht=>⟨(mem_dsts ht).2,act_put (mem_dsts ht).1⟩) ?_
    intro hq
    simp only [List.all_cons,bA] at hq
    obtain ⟨tv,rfl⟩:=quiet_op hq.1 h1
    exact ⟨hq.2,put_roots,fun t ht=>⟨(mem_dsts ht).2,put_dst (mem_dsts ht).1⟩⟩
   -- one that is passed over
   have skip:dOK E.n o.dst=true→opsK E ops n res l (st.put o.dst (.tup [])) K=some r→Region.wanted o (yielded ops a.tmps)=false→wpL P ops J Q (o::l) (Post E w0 G S w a st (o::l) K r) a w:=by
    intro hd h hw
    simp only [wpL,hw,bF,if_false]
    have hI1:=hI.put (dst:=o.dst) (v:=undef) (tv:=.tup []) (fun d e=>by rw [e] at hd;simpa [dOK] using hd) ⟨[],rfl,trivial⟩
    refine wpL_mono l ?_ (ih res l h hI1)
    intro a' w' hp
    refine hp.later Grows.refl (fun t ht=>⟨(mem_dsts ht).2,act_put (mem_dsts ht).1⟩) ?_
    intro hq
    simp only [List.all_cons,bA] at hq
    exact ⟨hq.2,put_roots,fun t ht=>⟨(mem_dsts ht).2,put_dst (mem_dsts ht).1⟩⟩
   simp only [opsK] at h
   split at h
   ·rename_i hg
    have hwant:Region.wanted o (yielded ops a.tmps)=true:=by simp [Region.wanted,hg]
    split at h
    ·rename_i F l' hpat
     split at h
     ·-- what lies at an index is appended to
      obtain ⟨ty1,ty2,ty3,ty4,p1,p2,p3,p4,e1,e2,e3,e4,hl⟩:=fusePat_spec hpat
      refine fuse_sound hE hI hpat h hJ ?_
      rintro st1 a1 w1 hk ⟨S1,pls1,X1,hI1,hg1⟩ ht
      refine wpL_mono l' ?_ (ih res l' hk hI1)
      intro a' w' hp
      have hq:(o::l).all (fun o=>quiet E o.op)=false:=by rw [hl];simp [quiet]
      refine hp.later hg1 (fun t hm=>?_) (fun h=>by rw [hq] at h;cases h)
      rw [hl] at hm
      have m1:=mem_dsts hm
      have m2:=mem_dsts m1.2
      have m3:=mem_dsts m2.2
      have m4:=mem_dsts m3.2
      exact ⟨m4.2,ht t (fun e=>m1.1 (by rw [e])) (fun e=>m2.1 (by rw [e])) (fun e=>m3.1 (by rw [e]))⟩
     ·exact step h hwant
    ·split at h
     ·rename_i F l' hpat
      split at h
      ·rename_i q hq
       split at h
       ·rename_i hb
        -- a list put behind a list of lists
        obtain ⟨ty1,ty2,p1,p2,e1,e2,hl⟩:=pushPat_spec hpat
        obtain ⟨v1,w1,v2,w2,u1,⟨sta,plsa,Xa,ua⟩,u2,pls',X',u3⟩:=push_out (ty1:=ty1) (ty2:=ty2) (p1:=p1) (p2:=p2) (e1:=e1) (e2:=e2) hE.tab hI.here hq hb
        have hgr:Grows w0 G S S w w2:=⟨fun _ _ h=>h,hI.still u3.frm,fun _ h=>.inl h,fun m _ h=>.inl ⟨m,h⟩⟩
        have hB:=hI.back u3
        rw [hl]
        simp only [wpL]
        rw [if_pos (by simp [Region.wanted])]
        simp only [Oper.wp,u1,Oper.upon]
        refine ⟨hJ (hI.back ua),?_⟩
        rw [if_pos (by simp [Region.wanted])]
        simp only [Oper.wp,u2,Oper.upon]
        refine ⟨hJ hB,wpL_mono l' ?_ (ih res l' h hB)⟩
        intro a' w' hp
        have hnq:(o::l).all (fun o=>quiet E o.op)=false:=by rw [hl];simp [quiet]
        rw [← hl]
        refine hp.later hgr (fun t hm=>?_) (fun h=>by rw [hnq] at h;cases h)
        rw [hl] at hm
        have m1:=mem_dsts hm
        have m2:=mem_dsts m1.2
        exact ⟨m2.2,(act_put m2.1).trans (act_put m1.1)⟩
       ·cases h
      ·exact step h hwant
     ·exact step h hwant
   ·rename_i g b hg
    split at h
    ·cases h
    ·rename_i dg hdg
     have ht:=hI.tmps dg
     split at h
     ·rename_i e
      rw [e] at ht
      obtain ⟨vs,hv,hl⟩:=ht
      cases vs with
      | cons _ _=>simp [LRel] at hl
      | nil =>
       split at h
       ·rename_i hd
        exact skip hd h (by rw [wanted_of hg hdg hv];rfl)
       ·cases h
     ·rename_i t e
      rw [e] at ht
      obtain ⟨vs,hv,⟨rfl,_⟩⟩:=ht
      have hv:a.tmps.getD dg undef=.bool t:=hv
      split at h
      ·split at h
       ·rename_i htb
        exact step h (by rw [wanted_of hg hdg hv];simp [isB,htb])
       ·rename_i htb
        split at h
        ·rename_i hd
         exact skip hd h (by rw [wanted_of hg hdg hv];simpa [isB] using htb)
        ·cases h
      ·split at h
       ·rename_i m pd rr hcut
        split at h
        ·rename_i hcond
         obtain ⟨hq,hnd,hlt⟩:=hcond
         obtain ⟨v,h1,h2⟩:=Option.bind_eq_some_iff.1 h
         have hl:=cutPick_eq hcut
         subst hl
         -- either way the group gives v
         have grp:wpL P ops J Q (o::m) (fun a' w'=>∃ st1,boolAt pd st1=some v∧Fits E.toCx w0 G S w st1 a' w'∧st1.roots=st.roots∧(∀ t',t' ∉ dsts (o::m)→t'≠dg→st1.tmps t'=st.tmps t')∧st1.tmps dg=.a (.v .bool t)∧(∀ t',t' ∉ dsts (o::m)→a'.tmps.getD t' undef=a.tmps.getD t' undef)) a w:=by
          have key:∀ b':Bool,t=b'→opsK E ops n (dg::res) (o::m) (st.put (some dg) (.a (.v .bool b'))) (boolAt pd)=some v →
            wpL P ops J Q (o::m) (fun a' w'=>∃ st1,boolAt pd st1=some v∧Fits E.toCx w0 G S w st1 a' w'∧st1.roots=st.roots∧(∀ t',t' ∉ dsts (o::m)→t'≠dg→st1.tmps t'=st.tmps t')∧st1.tmps dg=.a (.v .bool t)∧(∀ t',t' ∉ dsts (o::m)→a'.tmps.getD t' undef=a.tmps.getD t' undef)) a w:=by
           intro b' hb h1
           subst hb
           have hI1:Inv E.toCx w0 G (st.put (some dg) (.a (.v .bool t))) a w S pls X:=by
            refine hI.retmp put_roots (fun t'=>?_)
            by_cases e':t'=dg
            ·subst e';rw [put_same,hv];exact ⟨[.bool t],rfl,rfl,rfl⟩
            ·rw [put_other e'];exact hI.tmps t'
           refine wpL_mono _ ?_ (ih (dg::res) (o::m) h1 hI1)
           rintro a' w' ⟨st1,k1,k2,k0,k3⟩
           obtain ⟨k4,k5⟩:=k3 hq
           refine ⟨st1,k1,k2,k4.trans put_roots,fun t' h1 h2=>(k5 t' h1).trans (put_other h2),?_⟩
           have hnd':dg ∉ dsts (o::m):=by
            intro hmem
            have:=List.elem_eq_true_of_mem hmem
            rw [this] at hnd;cases hnd
           refine ⟨?_,k0⟩
           rw [k5 dg hnd',put_same]
          split at h1
          ·rename_i ht;exact key true ht h1
          ·rename_i ht;exact key false (by simpa using ht) h1
         have:o::(m++rr)=(o::m)++rr:=rfl
         rw [this]
         refine wpL_append (o::m) rr (wpL_mono _ ?_ grp)
         rintro a1 w1 ⟨st1,g1,⟨S1,pls1,X1,hI1,hgr⟩,g2,g3,g4,g5⟩
         have hI2:Inv E.toCx w0 G { junkD (dsts (o::m)) st with tmps:=fun t=>if t=pd then .a (.v .bool v) else (junkD (dsts (o::m)) st).tmps t } a1 w1 S1 pls1 X1:=by
          refine hI1.retmp g2.symm (fun t'=>?_)
          have h0:=hI1.tmps t'
          simp only
          split
          ·rename_i e'
           subst e'
           unfold boolAt at g1
           split at g1
           ·rename_i b' e';cases g1;rw [e'] at h0;exact h0
           ·cases g1
          ·simp only [junkD]
           split
           ·exact trivial
           ·rename_i hne
            have hne':t' ∉ dsts (o::m):=fun hm=>hne (List.elem_eq_true_of_mem hm)
            by_cases e':t'=dg
            ·subst e'
             rw [g4] at h0
             rw [e]
             exact h0
            ·rw [g3 t' hne' e'] at h0;exact h0
         refine wpL_mono _ ?_ (ih res rr h2 hI2)
         intro a' w' hp
         refine hp.later hgr (fun t' ht'=>?_) ?_
         ·rw [dsts_append,List.mem_append,not_or] at ht'
          exact ⟨ht'.2,g5 t' ht'.1⟩
         intro hq'
         rw [List.all_append,bA] at hq'
         refine ⟨hq'.2,rfl,fun t' ht'=>?_⟩
         rw [dsts_append,List.mem_append,not_or] at ht'
         have hin:=ht'
         refine ⟨hin.2,?_⟩
         have hpd:t'≠pd:=by
          rintro rfl
          apply hin.1
          rw [show o::m=[o]++m from rfl,dsts_append,List.mem_append]
          exact .inr (cutPick_dst hcut)
         simp only [if_neg hpd,junkD]
         split
         ·rename_i hm;exact absurd (List.mem_of_elem_eq_true hm) hin.1
         ·rfl
        ·split at h
         ·rename_i hnq
          have go:∀ b':Bool,t=b'→opsK E ops n (dg::res) (o::l) (st.put (some dg) (.a (.v .bool b'))) K=some r→wpL P ops J Q (o::l) (Post E w0 G S w a st (o::l) K r) a w:=by
           intro b' hb h1
           subst hb
           have hI1:Inv E.toCx w0 G (st.put (some dg) (.a (.v .bool t))) a w S pls X:=by
            refine hI.retmp put_roots (fun t'=>?_)
            by_cases e':t'=dg
            ·subst e';rw [put_same,hv];exact ⟨[.bool t],rfl,rfl,rfl⟩
            ·rw [put_other e'];exact hI.tmps t'
           refine wpL_mono _ ?_ (ih (dg::res) (o::l) h1 hI1)
           rintro a' w' ⟨st1,k1,k2,k0,k3⟩
           refine ⟨st1,k1,k2,k0,fun hq=>?_⟩
           exfalso
           have hl:=cutPick_eq hcut
           rw [hl,← List.cons_append,List.all_append,bA] at hq
           rw [hq.1] at hnq
           cases hnq
          split at h
          ·rename_i ht';exact go true ht' h
          ·rename_i ht';exact go false (by simpa using ht') h
         ·cases h
       ·cases h
     ·cases h
end
end Go.Rf
namespace Go.Rf
def inlCode:Code→Option (List (Nat×Array Oper))
 | .ret=>some []
 | .seq (.region id ops false) c=>(inlCode c).map ((id,ops)::·)
 | _=>none
def inlOf (f:Func):Inl :=
 {n:=f.ntmps
  rs:=match f.body with
   | some c=>(inlCode c).getD []
   | none=>[]
  r:=match f.results.toList with
   | [.tmp r]=>r
   | _=>0 }
def inlGood (f:Func):Bool :=
 (match f.body with
  | some c=>(inlCode c).isSome
  | none=>false) && (match f.results.toList with
   | [.tmp _]=>true
   | _=>false) && !(f.name == "runtime.NumGoroutine")
theorem inlRun_append {R:Type} (C:Cx):∀ (l m:List Oper) (st:St) (K:St→Option R),inlRun C (l++m) st K=inlRun C l st fun st=>inlRun C m st K:=by
 intro l
 induction l with
 | nil=>intro m st K;rfl
 | cons o l ih =>
  intro m st K
  simp only [List.cons_append,inlRun]
  split
  ·split
   ·congr 1;funext tv;exact ih _ _ _
   ·rfl
  ·rfl
theorem inlRun_roots (C:Cx):∀ (l:List Oper){st st':St},inlRun C l st some=some st'→st'.roots=st.roots:=by
 intro l
 induction l with
 | nil=>intro st st' h;cases h;rfl
 | cons o l ih =>
  intro st st' h
  simp only [inlRun] at h
  split at h
  ·split at h
   ·rw [pureK_bind] at h
    obtain ⟨tv,h1,h2⟩:=Option.bind_eq_some_iff.1 h
    rw [ih h2,put_roots]
   ·cases h
  ·cases h
section
variable {P:Program}{C:Cx}{w0 w w':World}{G:Blk}{st st':St}{a:Act}{S:Stab}{pls:Nat→Pl}{X:Nat→List Nat}
theorem inlRun_wp (hT:TabOK P C.tab){ops:Array Oper}{Q:Exit→Act→World→Prop}:∀ (l:List Oper){st st':St}{a:Act},inlRun C l st some=some st'→Inv C w0 G st a w S pls X →
  wpL P ops (fun _=>True) Q l (fun a' w'=>w'=w∧Inv C w0 G st' a' w S pls X) a w:=by
 intro l
 induction l with
 | nil=>intro st st' a h hI;cases h;exact ⟨rfl,hI⟩
 | cons o l ih =>
  intro st st' a h hI
  simp only [inlRun] at h
  split at h
  ·rename_i d hg hd
   split at h
   ·rename_i hlt
    rw [pureK_bind] at h
    obtain ⟨tv,h1,h2⟩:=Option.bind_eq_some_iff.1 h
    obtain ⟨v,hr,hv⟩:=pure_run (o:=o) hT hI h1
    simp only [wpL]
    rw [if_pos (by simp [Region.wanted,hg])]
    simp only [Oper.wp,hr w ⟨fun _ _ _=>rfl,fun _ _ _ _=>rfl⟩,Oper.upon]
    refine ⟨trivial,?_⟩
    rw [hd]
    exact ih h2 (hI.put (fun d' e=>by cases e;exact hlt) hv)
   ·cases h
  ·cases h
theorem inlCode_wp (hT:TabOK P C.tab):∀ (c:Code){rs:List (Nat×Array Oper)}{st st':St}{a:Act},inlCode c=some rs→inlRun C (rs.flatMap fun r=>r.2.toList) st some=some st'→Inv C w0 G st a w S pls X →
  c.wp P (fun e a' w'=>e=.ret∧w'=w∧Inv C w0 G st' a' w S pls X) a w:=by
 intro c rs
 induction rs generalizing c with
 | nil =>
  intro st st' a hc h hI
  unfold inlCode at hc
  split at hc
  ·cases h
   exact wp_ret ⟨rfl,rfl,hI⟩
  ·rename_i id ops c'
   cases e:inlCode c' with
   | none=>rw [e] at hc;cases hc
   | some _=>rw [e] at hc;cases hc
  ·cases hc
 | cons r rs ih =>
  intro st st' a hc h hI
  unfold inlCode at hc
  split at hc
  ·cases hc
  ·rename_i id ops c'
   cases e:inlCode c' with
   | none=>rw [e] at hc;cases hc
   | some rs' =>
    rw [e] at hc
    simp only [Option.map_some,sI,List.cons.injEq] at hc
    obtain ⟨rfl,rfl⟩:=hc
    simp only [List.flatMap_cons] at h
    rw [inlRun_append,inlRun_bind] at h
    obtain ⟨st1,h1,h2⟩:=Option.bind_eq_some_iff.1 h
    refine wp_seq (wpL_region (wpL_mono _ ?_ (inlRun_wp hT ops.toList h1 hI)))
    rintro a1 w1 ⟨rfl,hI1⟩
    exact ih c' e h2 hI1
  ·cases hc
theorem inl_ok {fid:Nat}{fn:Func} (hfn:P.funcs[fid]?=some fn) (hg:inlGood fn=true):InlOK P fid (inlOf fn):=by
 unfold inlGood at hg
 rw [bA,bA] at hg
 obtain ⟨⟨g1,g2⟩,g3⟩:=hg
 have h1:fn.name ≠ "runtime.NumGoroutine":=by simpa using g3
 split at g1
 ·rename_i c hb
  obtain ⟨rs,hrs⟩:=Option.isSome_iff_exists.1 g1
  split at g2
  ·rename_i r hr
   have hi:inlOf fn=⟨fn.ntmps,rs,r⟩:=by
    unfold inlOf
    rw [hb,hr]
    simp [hrs]
   rw [hi]
   refine ⟨?_,?_⟩
   ·intro args w
    simp [callFunc,hfn,h1,hb,mark]
   ·intro C w0 w G st a S pls X args stc hT hI hlen h
    simp only at hlen
    refine calls_of_wp hfn hb ?_
    have hI':Inv { C with n:=fn.ntmps } w0 G ⟨argAt st args,st.roots⟩ { tmps:=(args.map a.eval).toArray++Array.replicate (fn.ntmps-(args.map a.eval).toArray.size) undef,defers:=[] } w S pls X:=by
     refine ⟨hI.frm,hI.stab,hI.kl,hI.own,hI.nd,hI.dis,hI.roots,fun t=>?_,by simp;omega,rfl,hI.glb,hI.pin⟩
     simp only [argAt]
     cases e:args[t]? with
     | none=>exact trivial
     | some o =>
      have hlt:=(List.getElem?_eq_some_iff.1 e).1
      have:=hI.opnd o
      rw [Array.getD_eq_getD_getElem?,Array.getElem?_append_left (by simpa using hlt)]
      simp [e]
      exact this
    refine wp_mono (inlCode_wp (C:={ C with n:=fn.ntmps }) hT c hrs h hI') ?_
    rintro e' a' w' ⟨rfl,rfl,hI2⟩
    refine ⟨hI2.defers,a'.tmps.getD r undef,?_,_,rfl,rfl,?_⟩
    ·have hres:fn.results=#[.tmp r]:=by
      have:=congrArg List.toArray hr
      simpa using this
     simp [results,hres]
    ·have h9:=hI2.tmps r
     rw [inlRun_roots _ _ h] at h9
     exact h9
  ·cases g2
 ·cases g1
end
end Go.Rf
namespace Go.Rf
inductive SK where
 | val | own (io:Bool) | box (io:Bool) | look
 deriving DecidableEq
structure Slot where
 t:Nat
 k:SK
 τ:Ty
def tys:List Slot→List Ty
 | []=>[]
 | s::l=>s.τ::tys l
def norm1 (st:St) (s:Slot):Option St :=
 match s.k with
 | .own false=>match st.tmps s.t with
  | .a (.ref id [])=>if id=s.t then some st else
   (match take st (.a (.ref id [])) with
    | some (q,st1)=>match st1.roots s.t with
     | none=>if q.1.isAgg=s.τ.isAgg then some ((st1.root s.t ⟨.val false,q.1,q.2⟩).put (some s.t) (.a (.ref s.t []))) else none
     | some _=>none
    | none=>none)
  | .a (.ref id (e::p))=>(match take st (.a (.ref id (e::p))) with
    | some (q,st1)=>match st1.roots s.t with
     | none=>if q.1.isAgg=s.τ.isAgg then some ((st1.root s.t ⟨.val false,q.1,q.2⟩).put (some s.t) (.a (.ref s.t []))) else none
     | some _=>none
    | none=>none)
  | .a (.v τ x)=>match st.roots s.t with
   | none=>if τ.isAgg=s.τ.isAgg then some ((st.root s.t ⟨.val false,τ,x⟩).put (some s.t) (.a (.ref s.t []))) else none
   | some _=>none
  | _=>none
 | .box false=>match st.tmps s.t with
  | .a (.ptr id [])=>if id=s.t then some st else
   (match st.roots id,st.roots s.t with
    | some ⟨.box false,τ,x⟩,none=>some (((st.kill id).root s.t ⟨.box false,τ,x⟩).put (some s.t) (.a (.ptr s.t [])))
    | _,_=>none)
  | _=>none
 | _=>some st
def norm (n:Nat) (st:St):List Slot→Option St
 | []=>some st
 | s::l=>if s.t<n then (match norm1 st s with
  | some st1=>norm n st1 l
  | none=>none) else none
def read1 (st:St) (s:Slot):Option s.τ.D :=
 match s.k with
 | .val=>match st.tmps s.t with
  | .a (.v σ y)=>if s.τ.plain=true then coe0 σ s.τ y else none
  | _=>none
 | .own io=>match st.tmps s.t,st.roots s.t with
  | .a (.ref i []),some ⟨.val io',σ,y⟩=>if i=s.t∧io=io' then coe0 σ s.τ y else none
  | _,_=>none
 | .box io=>match st.tmps s.t,st.roots s.t with
  | .a (.ptr i []),some ⟨.box io',σ,y⟩=>if i=s.t∧io=io' then coe0 σ s.τ y else none
  | _,_=>none
 | .look=>match st.tmps s.t with
  | .a (.sptr σ y)=>coe0 σ s.τ y
  | _=>none
def reads (st:St):(l:List Slot)→Option (LD (tys l))
 | []=>some ()
 | s::l=>match read1 st s,reads st l with
  | some x,some xs=>some (x,xs)
  | _,_=>none
def slots (n:Nat) (st:St) (l:List Slot):Option (LD (tys l)) :=
 match norm n st l with
 | some st1=>reads st1 l
 | none=>none
def Slot.tv (s:Slot) (x:s.τ.D):TV :=
 match s.k with
 | .val=>.a (.v s.τ x)
 | .own _=>.a (.ref s.t [])
 | .box _=>.a (.ptr s.t [])
 | .look=>.a (.sptr s.τ x)
def Slot.rt (s:Slot) (x:s.τ.D):Option Root :=
 match s.k with
 | .val=>none
 | .own io=>some ⟨.val io,s.τ,x⟩
 | .box io=>some ⟨.box io,s.τ,x⟩
 | .look=>none
def mkT:(l:List Slot)→LD (tys l)→(Nat→TV)→Nat→TV
 | [],_,f=>f
 | s::l,x,f=>fun t=>if t=s.t then s.tv x.1 else mkT l x.2 f t
def mkR:(l:List Slot)→LD (tys l)→Nat→Option Root
 | [],_=>fun _=>none
 | s::l,x=>fun t=>if t=s.t then s.rt x.1 else mkR l x.2 t
def mkSt (l:List Slot) (x:LD (tys l)) (f:Nat→TV):St:=⟨mkT l x f,mkR l x⟩
def base (W:List Nat) (st:St):Nat→TV:=fun t =>
 if W.elem t=true then .a .junk else
  match st.tmps t with
  | .a (.v τ x)=>if τ.plain=true then .a (.v τ x) else .a .junk
  | .a (.sptr τ x)=>.a (.sptr τ x)
  | _=>.a .junk
section
variable {P:Program}{C:Cx}{w0 w w':World}{G:Blk}{st st':St}{a:Act}{S:Stab}{pls:Nat→Pl}{X:Nat→List Nat}
theorem Inv.repl (hI:Inv C w0 G st a w S pls X){t:Nat} (ht:t<C.n){tv:TV} (hv:TRel S (hp w) pls st.roots (a.tmps.getD t undef) tv):Inv C w0 G (st.put (some t) tv) a w S pls X:=by
 refine hI.retmp put_roots (fun t'=>?_)
 by_cases e:t'=t
 ·subst e;rw [put_same];exact hv
 ·rw [put_other e];exact hI.tmps t'
theorem norm1_spec (hI:Inv C w0 G st a w S pls X){s:Slot} (ht:s.t<C.n) (h:norm1 st s=some st'):∃ pls' X',Inv C w0 G st' a w S pls' X':=by
 unfold norm1 at h
 split at h
 ·split at h
  ·rename_i id e
   split at h
   ·cases h;exact ⟨pls,X,hI⟩
   ·split at h
    ·rename_i q st1 hta
     split at h
     ·rename_i h0
      split at h
      ·cases h
       have hv:=hI.tmps s.t
       rw [e] at hv
       obtain ⟨X1,g,ws,h1,h2,h3,h4,_⟩:=take_spec hI (Free.nil (w0:=w0) (w:=w) (G:=G) (S:=S) (X:=X)) hv hta
       obtain ⟨k1,k2⟩:=h1.newVal h0 h4 (by simpa using h2)
       refine ⟨_,_,k1.repl ht ?_⟩
       rw [h3];exact k2
      ·cases h
     ·cases h
    ·cases h
  ·rename_i id q1 p1 e
   split at h
   ·rename_i q st1 hta
    split at h
    ·rename_i h0
     split at h
     ·cases h
      have hv:=hI.tmps s.t
      rw [e] at hv
      obtain ⟨X1,g,ws,h1,h2,h3,h4,_⟩:=take_spec hI (Free.nil (w0:=w0) (w:=w) (G:=G) (S:=S) (X:=X)) hv hta
      obtain ⟨k1,k2⟩:=h1.newVal h0 h4 (by simpa using h2)
      refine ⟨_,_,k1.repl ht ?_⟩
      rw [h3];exact k2
     ·cases h
    ·cases h
   ·cases h
  ·rename_i τ x e
   split at h
   ·rename_i h0
    split at h
    ·cases h
     have hv:=hI.tmps s.t
     rw [e] at hv
     obtain ⟨ws,e1,hr⟩:=hv
     obtain ⟨k1,k2⟩:=hI.newVal h0 hr Free.nil
     refine ⟨_,_,k1.repl ht ?_⟩
     rw [e1];exact k2
    ·cases h
   ·cases h
  ·cases h
 ·split at h
  ·rename_i id e
   split at h
   ·cases h;exact ⟨pls,X,hI⟩
   ·rename_i hne
    split at h
    ·rename_i τ x hr h0
     cases h
     have hv:=hI.tmps s.t
     rw [e] at hv
     obtain ⟨r,hr',σ,y,vs,l,vs',b,off,g1,g2,g3,g4,g5⟩:=hv
     rw [hr] at hr';cases hr'
     obtain ⟨rfl,rfl⟩:=g4
     have hk:=hI.kill id
     have h0':(st.kill id).roots s.t=none:=by simp [St.kill,h0]
     have k:=hk.newRoot (d:=s.t) (r:=⟨.box false,τ,x⟩) (pl:=pls id) (Y:=X id) h0' (hI.roots id _ hr) (fun b hb=>hI.own id b hb) (hI.nd id) (fun i hi b hb hb'=>by
      by_cases e:i=id
      ·subst e;simp at hb'
      ·rw [upd_other _ _ e] at hb';exact hI.dis id i b (Ne.symm e) hb hb') (by simp [RK.io])
     refine ⟨_,_,k.repl ht ?_⟩
     exact ⟨⟨.box false,τ,x⟩,by simp [St.root],τ,x,vs',_,vs',b,off,rfl,trivial,by rw [upd_same];exact g3,⟨rfl,rfl⟩,g5⟩
    ·cases h
  ·cases h
 ·cases h;exact ⟨pls,X,hI⟩
theorem norm_spec:∀ (l:List Slot){st st':St}{pls:Nat→Pl}{X:Nat→List Nat},Inv C w0 G st a w S pls X→norm C.n st l=some st'→∃ pls' X',Inv C w0 G st' a w S pls' X':=by
 intro l
 induction l with
 | nil=>intro st st' pls X hI h;cases h;exact ⟨pls,X,hI⟩
 | cons s l ih =>
  intro st st' pls X hI h
  simp only [norm] at h
  split at h
  ·rename_i ht
   split at h
   ·rename_i st1 h1
    obtain ⟨pls1,X1,hI1⟩:=norm1_spec hI ht h1
    exact ih hI1 h
   ·cases h
  ·cases h
theorem mkR_of:∀ (l:List Slot){x:LD (tys l)},reads st l=some x→∀ {t:Nat}{r:Root},mkR l x t=some r →
  ∃ r0:Root,st.roots t=some r0∧r0.k=r.k∧(∃ y,coe0 r0.τ r.τ r0.x=some y∧y=r.x):=by
 intro l
 induction l with
 | nil=>intro x _ t r h;simp [mkR] at h
 | cons s l ih =>
  intro x hx t r h
  simp only [reads] at hx
  split at hx
  ·rename_i x1 xs h1 h2
   cases hx
   simp only [mkR] at h
   split at h
   ·rename_i e
    subst e
    unfold read1 at h1
    unfold Slot.rt at h
    split at h1
    ·rename_i hk
     rw [hk] at h
     cases h
    ·rename_i io hk
     rw [hk] at h
     cases h
     split at h1
     ·rename_i i io' σ y e1 e2
      split at h1
      ·rename_i e3;exact ⟨_,e2,by rw [e3.2],_,h1,rfl⟩
      ·cases h1
     ·cases h1
    ·rename_i io hk
     rw [hk] at h
     cases h
     split at h1
     ·rename_i i io' σ y e1 e2
      split at h1
      ·rename_i e3;exact ⟨_,e2,by rw [e3.2],_,h1,rfl⟩
      ·cases h1
     ·cases h1
    ·rename_i hk
     rw [hk] at h
     cases h
   ·exact ih h2 h
  ·cases hx
theorem mk_cases (f:Nat→TV):∀ (l:List Slot){x:LD (tys l)},reads st l=some x→∀ t:Nat,mkT l x f t=f t∨∃ (s:Slot) (y:s.τ.D),read1 st s=some y∧s.t=t∧mkT l x f t=s.tv y∧mkR l x t=s.rt y:=by
 intro l
 induction l with
 | nil=>intro x _ t;exact .inl rfl
 | cons s l ih =>
  intro x hx t
  simp only [reads] at hx
  split at hx
  ·rename_i x1 xs h1 h2
   cases hx
   simp only [mkT,mkR]
   split
   ·rename_i e
    exact .inr ⟨s,x1,h1,e.symm,rfl,rfl⟩
   ·exact ih h2 t
  ·cases hx
def BaseRel (S:Stab) (H:Heap) (a:Act) (f:Nat→TV):Prop:=∀ t,TRel S H (fun _=>default) (fun _=>none) (a.tmps.getD t undef) (f t)
theorem trel_base {H H':Heap}{S':Stab}{roots':Nat→Option Root}{pls':Nat→Pl}{val:Value}{tv:TV} (hS:∀ m b,S m b→S' m b) (hH:∀ m b,S m b→H' b=H b)
  (h:TRel S H (fun _=>default) (fun _=>none) val tv):TRel S' H' pls' roots' val tv:=by
 refine TRel.heap (X:=fun _=>[]) (fun id r hr=>by cases hr) hH hS (fun id hid=>?_) h
 obtain ⟨r,hr⟩:=live h hid
 cases hr
theorem BaseRel.later {S':Stab}{a':Act}{f:Nat→TV} (h:BaseRel S (hp w) a f) (hg:Grows w0 G S S' w w') (ha:∀ t,f t≠.a .junk→a'.tmps.getD t undef=a.tmps.getD t undef):BaseRel S' (hp w') a' f:=by
 intro t
 by_cases e:f t=.a .junk
 ·rw [e];trivial
 ·rw [ha t e];exact trel_base hg.more hg.still (h t)
theorem base_rel (hI:Inv C w0 G st a w S pls X) (W:List Nat):BaseRel S (hp w) a (base W st):=by
 intro t
 unfold base
 split
 ·trivial
 ·have h:=hI.tmps t
  split
  ·rename_i τ x e
   split
   ·rw [e] at h
    exact h
   ·trivial
  ·rename_i τ x e
   rw [e] at h
   exact h
  ·trivial
theorem base_junk {W:List Nat}{t:Nat} (h:base W st t≠.a .junk):t ∉ W:=by
 intro hm
 apply h
 unfold base
 rw [if_pos (List.elem_eq_true_of_mem hm)]
theorem reads_spec (hI:Inv C w0 G st a w S pls X){l:List Slot}{x:LD (tys l)} (hx:reads st l=some x){f:Nat→TV} (hf:BaseRel S (hp w) a f):Inv C w0 G (mkSt l x f) a w S pls X:=by
 have hroots:∀ id r,(mkSt l x f).roots id=some r→RootRel S (hp w) (pls id) r (X id):=by
  intro id r hr
  obtain ⟨r0,h1,h2,y,h3,h4⟩:=mkR_of l hx hr
  have h:=hI.roots id r0 h1
  obtain ⟨k,τ,z⟩:=r
  obtain ⟨k0,τ0,z0⟩:=r0
  simp only at h2 h3 h4
  subst h2
  rw [h4] at h3
  cases k0 <;> cases hpl:pls id <;> rw [hpl] at h <;> simp only [RootRel] at h ⊢
  ·obtain ⟨vs,l',fp,m1,m2,m3⟩:=h
   exact ⟨vs,l',fp,by rw [← skel_size_eq (coe0_skel h3)];exact m1,coe0_rep h3 m2,m3⟩
  ·exact coe0_rep h3 h
 refine { frm:=hI.frm,stab:=hI.stab,kl:=hI.kl,size:=hI.size,defers:=hI.defers,own:=hI.own,nd:=hI.nd,dis:=hI.dis,roots:=hroots,glb:=hI.glb,pin:=?_,tmps:=?_ }
 rotate_left
 ·intro id r hr hk
  obtain ⟨r0,h1,h2,_⟩:=mkR_of l hx hr
  exact hI.pin id r0 h1 (by rw [h2];exact hk)
 intro t
 rcases mk_cases f l hx t with e | ⟨s,y,h1,rfl,h3,h4⟩
 ·show TRel S (hp w) pls (mkSt l x f).roots (a.tmps.getD t undef) (mkT l x f t)
  rw [e];exact trel_base (fun _ _ h=>h) (fun _ _ _=>rfl) (hf t)
 ·show TRel S (hp w) pls (mkR l x) (a.tmps.getD s.t undef) (mkT l x f s.t)
  rw [h3]
  have hv:=hI.tmps s.t
  unfold read1 at h1
  unfold Slot.tv
  unfold Slot.rt at h4
  split at h1
  ·rename_i hk
   split at h1
   ·rename_i σ z e
    split at h1
    ·rw [e] at hv
     obtain ⟨ws,e1,hr⟩:=hv
     exact ⟨ws,by rw [e1,valOf_like (skel_agg (coe0_skel h1))],coe0_rep h1 hr⟩
    ·cases h1
   ·cases h1
  ·rename_i io hk
   split at h1
   ·rename_i i io' σ z e1 e2
    split at h1
    ·rename_i e3
     obtain ⟨e3,e4⟩:=e3
     subst e3 e4
     rw [e1] at hv
     obtain ⟨r,hr,σ',y',vs,l0,vs',l',g1,g2,g3,g4,g5⟩:=hv
     rw [e2] at hr;cases hr
     cases g1
     obtain ⟨rfl,rfl⟩:=g4
     exact ⟨_,by rw [h4,hk],s.τ,y,vs',l',vs',l',rfl,trivial,by rw [← skel_size_eq (coe0_skel h1)];exact g3,⟨rfl,rfl⟩,by rw [g5,valOf_like (skel_agg (coe0_skel h1))]⟩
    ·cases h1
   ·cases h1
  ·rename_i io hk
   split at h1
   ·rename_i i io' σ z e1 e2
    split at h1
    ·rename_i e3
     obtain ⟨e3,e4⟩:=e3
     subst e3 e4
     rw [e1] at hv
     obtain ⟨r,hr,σ',y',vs,l0,vs',b,off,g1,g2,g3,g4,g5⟩:=hv
     rw [e2] at hr;cases hr
     cases g1
     obtain ⟨rfl,rfl⟩:=g4
     exact ⟨_,by rw [h4,hk],s.τ,y,vs',_,vs',b,off,rfl,trivial,by rw [← skel_size_eq (coe0_skel h1)];exact g3,⟨rfl,rfl⟩,g5⟩
    ·cases h1
   ·cases h1
  ·rename_i hk
   split at h1
   ·rename_i σ z e
    rw [e] at hv
    obtain ⟨b,off,c,el,fr,e1,e2,e3,e4,e5⟩:=hv
    have hsz:=skel_size_eq (coe0_skel h1)
    exact ⟨b,off,c,el,fr,e1,e2,by rw [← hsz];exact e3,by rw [← hsz];exact coe0_rep h1 e4,e5⟩
   ·cases h1
theorem slots_spec (hI:Inv C w0 G st a w S pls X){l:List Slot}{x:LD (tys l)} (hx:slots C.n st l=some x){f:Nat→TV} (hf:BaseRel S (hp w) a f):∃ pls' X',Inv C w0 G (mkSt l x f) a w S pls' X':=by
 unfold slots at hx
 split at hx
 ·rename_i st1 h1
  obtain ⟨pls',X',hI'⟩:=norm_spec l hI h1
  exact ⟨pls',X',reads_spec hI' hx hf⟩
 ·cases hx
end
end Go.Rf
namespace Go.Rf
def tvOf:(rs:List Ty)→LD rs→TV
 | [],_=>.a .junk
 | [τ],x=>.a (.v τ x.1)
 | τ::σ::rs,x=>.tup (tupV (τ::σ::rs) x)
def nones {α:Type}:List Operand→List (Option α)
 | []=>[]
 | _::l=>none::nones l
def quietV (E:Cz) (st:St) (op:Op):Option TV :=
 match op with
 | .call c=>match c.callee with
  | .value (.func f)=>match E.fn f with
   | some fn=>if fn.ps.all Ty.plain=true∧fn.rs.all Ty.plain=true then
     (mkArgs st c.args.toList (nones c.args.toList) fn.ps).bind fun xs=>(fn.F xs).bind fun r=>some (tvOf fn.rs r) else none
   | none=>none
  | .builtin .append=>none
  | .builtin b=>pureK E.toCx st (.call c) some
  | _=>none
 | .build .. | .buildSlice .. | .makeSlice .. | .box .. | .alloc .. | .store .. | .assign ..=>none
 | op=>pureK E.toCx st op some
def quietK (E:Cz) (st:St) (op:Op){R:Type} (K:TV→Option R):Option R :=
 match op with
 | .call c=>match c.callee with
  | .value (.func f)=>match E.fn f with
   | some fn=>if fn.ps.all Ty.plain=true∧fn.rs.all Ty.plain=true then
     (match mkArgs st c.args.toList (nones c.args.toList) fn.ps with
      | some xs=>(fn.F xs).bind fun r=>K (tvOf fn.rs r)
      | none=>none) else none
   | none=>none
  | .builtin .append=>none
  | .builtin b=>pureK E.toCx st (.call c) K
  | _=>none
 | .build .. | .buildSlice .. | .makeSlice .. | .box .. | .alloc .. | .store .. | .assign ..=>none
 | op=>pureK E.toCx st op K
theorem quietK_eq (E:Cz) (st:St) (op:Op){R:Type} (K:TV→Option R):quietK E st op K=(quietV E st op).bind K:=by
 unfold quietK quietV
 split
 ·split
  ·split
   ·split
    ·split
     ·rename_i h
      rw [h]
      simp only [oB,Option.bind_assoc]
     ·rename_i h
      rw [h]
      rfl
    ·rfl
   ·rfl
  ·rfl
  ·exact pureK_bind _ _ _ _
  ·rfl
 all_goals first | rfl | exact pureK_bind _ _ _ _
section
variable {E:Cz}{st st2:St}
theorem takeArgs_nones:∀ (os:List Operand) (ps:List Ty){xs:LD ps},ps.all Ty.plain=true→mkArgs st os (nones os) ps=some xs→takeArgs st os ps=some (nones os,st):=by
 intro os
 induction os with
 | nil=>intro ps xs _ h;cases ps with
  | nil=>rfl
  | cons _ _=>simp [mkArgs,nones] at h
 | cons o os ih =>
  intro ps xs hp h
  cases ps with
  | nil=>simp [mkArgs,nones] at h
  | cons σ ps =>
   simp only [List.all_cons,bA] at hp
   simp only [mkArgs,nones] at h
   split at h
   ·rename_i h1 h2
    simp only [takeArgs,if_pos hp.1,nones]
    rw [ih ps hp.2 h2]
   ·cases h
theorem resK_plain {dst:Option Nat}{rs:List Ty}{r:LD rs} (hp:rs.all Ty.plain=true):resK st dst rs r some=some (st.put dst (tvOf rs r)):=by
 unfold resK tvOf
 split
 ·rfl
 ·rename_i τ x
  simp at hp
  split
  ·simp [mkV,hp]
  ·rfl
 ·rw [if_pos hp]
theorem pre_quietV {op:Op}{tv:TV} (h:quietV E st op=some tv):pre E.fn E.fx st op=st:=by
 unfold pre
 split
 ·rename_i c
  obtain ⟨callee,args,ts⟩:=c
  simp only
  split
  ·rename_i f
   simp only [quietV] at h
   split at h
   ·rename_i fn hf
    split at h
    ·rename_i hp
     try rw [hf]
     exact preL_plain _ _ hp.1
    ·cases h
   ·cases h
  ·rfl
 ·rfl
theorem deClo_quietV {op:Op}{tv:TV} (h:quietV E st op=some tv):deClo E.clo st op=op:=by
 cases op with
 | call c =>
  obtain ⟨callee,args,ts⟩:=c
  cases callee with
  | value f =>
   cases f with
   | tmp t=>simp [quietV] at h
   | _=>rfl
  | _=>rfl
 | _=>rfl
theorem quietV_op {o:Oper}{tv:TV} (hd:dOK E.n o.dst=true) (h:quietV E st o.op=some tv):opK E st o some=some (st.put o.dst tv):=by
 obtain ⟨dst,op,ty,pos,after,guard⟩:=o
 have pu:∀ op,pureK E.toCx st op some=some tv→(pureK E.toCx st op fun tv=>some (st.put dst tv))=some (st.put dst tv):=by
  intro op h
  rw [pureK_bind,h];rfl
 unfold opK
 rw [if_pos hd]
 simp only at h ⊢
 rw [deClo_quietV h,pre_quietV h]
 unfold quietV at h
 split at h
 ·rename_i c
  obtain ⟨callee,args,ts⟩:=c
  simp only at h
  split at h
  ·rename_i f
   split at h
   ·rename_i fn hf
    split at h
    ·rename_i hp
     obtain ⟨xs,h1,h⟩:=Option.bind_eq_some_iff.1 h
     obtain ⟨r,h2,h⟩:=Option.bind_eq_some_iff.1 h
     cases h
     have hfn:hasFn E.fn (.func f)=true:=by simp [hasFn,hf]
     simp only [op0,if_pos hfn,callK,hf]
     rw [takeArgs_nones _ _ hp.1 h1]
     simp only [h1]
     rw [h2]
     exact resK_plain hp.2
    ·cases h
   ·cases h
  ·cases h
  ·rename_i b hb
   have:op0 E st (.call ⟨.builtin b,args,ts⟩) dst some=pureK E.toCx st (.call ⟨.builtin b,args,ts⟩) fun tv=>some (st.put dst tv):=by
    unfold op0
    simp only
    split <;> first | rfl | simp_all
   rw [this]
   exact pu _ h
  ·cases h
 all_goals first
  | cases h;done
  | skip
 rename_i h1 h2 h3 h4 h5 h6 h7 h8
 have:op0 E st op dst some=pureK E.toCx st op fun tv=>some (st.put dst tv):=by
  cases op <;> first | rfl | (exfalso;first | exact h1 _ rfl | exact h2 _ _ rfl | exact h3 _ _ _ rfl | exact h4 _ _ _ rfl | exact h5 _ _ rfl | exact h6 _ rfl | exact h7 _ _ _ rfl | exact h8 _ rfl)
 rw [this]
 exact pu _ h
theorem opnd_tmp {x:Operand} (hr:∀ t,x=.tmp t→st2.tmps t=st.tmps t):opnd st2 x=opnd st x:=by
 cases x <;> first | rfl | exact hr _ rfl
theorem mkArgs_loc (hroots:st2.roots=st.roots):∀ (os:List Operand) (ps:List Ty){qs:List (Option (Σ τ:Ty,τ.D))},(∀ x∈os,opnd st2 x=opnd st x)→mkArgs st2 os qs ps=mkArgs st os qs ps:=by
 intro os
 induction os with
 | nil=>intro ps qs _;cases qs <;> cases ps <;> rfl
 | cons o os ih =>
  intro ps qs h
  cases qs with
  | nil=>rfl
  | cons q qs =>
   cases ps with
   | nil=>rfl
   | cons σ ps =>
    simp only [mkArgs]
    rw [ih ps (fun x hx=>h x (by simp [hx])),h o (by simp)]
    have:∀ tv,plainV st2 tv σ=plainV st tv σ:=by
     intro tv
     unfold plainV
     rw [hroots]
    rw [this]
theorem bnd_loc {o:Option Operand}{d:Int} (h:∀ x,o=some x→opnd st2 x=opnd st x):bnd st2 o d=bnd st o d:=by
 cases o with
 | none=>rfl
 | some x=>simp only [bnd,h x rfl]
theorem pureK_loc {C:Cx}{R:Type}{K:TV→Option R}{op:Op} (hroots:st2.roots=st.roots) (h:∀ x∈op.operands.toList,opnd st2 x=opnd st x):pureK C st2 op K=pureK C st op K:=by
 cases op
 case slice t x lo hi mx =>
  simp only [Op.operands] at h
  have h0:=h x (by simp)
  cases mx with
  | some _=>rfl
  | none =>
   simp only [pureK,sliceK,h0]
   have h1:∀ d,bnd st2 lo d=bnd st lo d:=fun d=>bnd_loc (fun y hy=>h y (by subst hy;simp))
   have h2:∀ d,bnd st2 hi d=bnd st hi d:=fun d=>bnd_loc (fun y hy=>h y (by subst hy;simp))
   simp only [h1,h2]
 case call c =>
  obtain ⟨callee,args,ts⟩:=c
  simp only [pureK]
  split
  ·rename_i x t e1 e2
   have hx:opnd st2 x=opnd st x:=h x (by simp [Op.operands,Call.operands,e1])
   rw [hx]
   split
   ·unfold lenK
    rw [hroots]
   ·rfl
  ·rename_i x y e1
   rw [h x (by simp [Op.operands,Call.operands,e1]),h y (by simp [Op.operands,Call.operands,e1])]
  ·rename_i x y e1
   rw [h x (by simp [Op.operands,Call.operands,e1]),h y (by simp [Op.operands,Call.operands,e1])]
  ·rfl
 all_goals
  simp only [Op.operands] at h
  simp at h
  try obtain ⟨ha,hb,hc⟩:=h
  try obtain ⟨ha,hb⟩:=h
  simp only [pureK]
  try simp only [*]
theorem quietV_loc {op:Op} (hroots:st2.roots=st.roots) (h:∀ x∈op.operands.toList,opnd st2 x=opnd st x):quietV E st2 op=quietV E st op:=by
 unfold quietV
 split
 ·rename_i c
  obtain ⟨callee,args,ts⟩:=c
  split
  ·rename_i f e
   simp only at e
   subst e
   have ha:∀ x∈args.toList,opnd st2 x=opnd st x:=fun x hx=>h x (by simp [Op.operands,Call.operands];exact .inr (by simpa using hx))
   simp only [mkArgs_loc hroots _ _ ha]
  ·rfl
  ·exact pureK_loc hroots h
  ·rfl
 all_goals first | rfl | exact pureK_loc hroots h
end
end Go.Rf
namespace Go.Rf
def opsD (E:Cz) (ops:Array Oper){R:Type}:Nat→List Nat→List Oper→St→(St→Option R)→Option R
 | _,_,[],st,K=>K st
 | 0,_,_::_,_,_=>none
 | n+1,res,o::l,st,K =>
  if dOK E.n o.dst=true then
   match o.guard with
   | none=>quietK E st o.op fun tv=>opsD E ops n res l (st.put o.dst tv) K
   | some (g,b)=>match (ops[g]?).bind (·.dst) with
    | none=>none
    | some dg=>match st.tmps dg with
     | .tup []=>opsD E ops n res l (st.put o.dst (.tup [])) K
     | .a (.v .bool t) =>
      if res.elem dg=true then
       (if t=b then quietK E st o.op fun tv=>opsD E ops n res l (st.put o.dst tv) K
        else opsD E ops n res l (st.put o.dst (.tup [])) K)
      else
       (if t=true then opsD E ops n (dg::res) (o::l) (st.put (some dg) (.a (.v .bool true))) K
        else opsD E ops n (dg::res) (o::l) (st.put (some dg) (.a (.v .bool false))) K)
     | _=>none
  else none
inductive OneR (E:Cz) (ops:Array Oper) (st:St) (o:Oper):TV→Prop where
 | run {tv:TV} (hg:o.guard=none) (h:quietV E st o.op=some tv):OneR E ops st o tv
 | yes {tv:TV}{g dg:Nat}{b:Bool} (hg:o.guard=some (g,b)) (hd:(ops[g]?).bind (·.dst)=some dg) (ht:st.tmps dg=.a (.v .bool b)) (h:quietV E st o.op=some tv):OneR E ops st o tv
 | no {g dg:Nat}{b t:Bool} (hg:o.guard=some (g,b)) (hd:(ops[g]?).bind (·.dst)=some dg) (ht:st.tmps dg=.a (.v .bool t)) (hne:t≠b):OneR E ops st o (.tup [])
 | none {g dg:Nat}{b:Bool} (hg:o.guard=some (g,b)) (hd:(ops[g]?).bind (·.dst)=some dg) (ht:st.tmps dg=.tup []):OneR E ops st o (.tup [])
inductive Tr (E:Cz) (ops:Array Oper):St→List Oper→List TV→St→Prop where
 | nil (st:St):Tr E ops st [] [] st
 | cons {st st':St}{o:Oper}{l:List Oper}{tv:TV}{tvs:List TV} (hd:dOK E.n o.dst=true) (h:OneR E ops st o tv) (ht:Tr E ops (st.put o.dst tv) l tvs st'):Tr E ops st (o::l) (tv::tvs) st'
theorem put_id {st:St}{d:Nat}{tv:TV} (h:st.tmps d=tv):st.put (some d) tv=st:=by
 cases st with
 | mk tmps roots =>
  simp only [St.put,St.mk.injEq,and_true]
  funext t
  split
  ·rename_i e;subst e;exact h.symm
  ·rfl
theorem opsD_tr {E:Cz}{ops:Array Oper}:∀ (n:Nat){R:Type} (res:List Nat) (l:List Oper){st:St}{K:St→Option R}{r:R},opsD E ops n res l st K=some r→∃ tvs st',Tr E ops st l tvs st'∧K st'=some r:=by
 intro n
 induction n with
 | zero =>
  intro R res l st K r h
  cases l with
  | nil=>exact ⟨[],st,.nil st,h⟩
  | cons o l=>simp [opsD] at h
 | succ n ih =>
  intro R res l st K r h
  cases l with
  | nil=>exact ⟨[],st,.nil st,h⟩
  | cons o l =>
   simp only [opsD] at h
   split at h
   ·rename_i hd
    split at h
    ·rename_i hg
     rw [quietK_eq] at h
     obtain ⟨tv,h1,h2⟩:=Option.bind_eq_some_iff.1 h
     obtain ⟨tvs,st',k1,k2⟩:=ih res l h2
     exact ⟨_,st',.cons hd (.run hg h1) k1,k2⟩
    ·rename_i g b hg
     split at h
     ·cases h
     ·rename_i dg hdg
      split at h
      ·rename_i e
       obtain ⟨tvs,st',k1,k2⟩:=ih res l h
       exact ⟨_,st',.cons hd (.none hg hdg e) k1,k2⟩
      ·rename_i t e
       split at h
       ·split at h
        ·rename_i htb
         subst htb
         rw [quietK_eq] at h
         obtain ⟨tv,h1,h2⟩:=Option.bind_eq_some_iff.1 h
         obtain ⟨tvs,st',k1,k2⟩:=ih res l h2
         exact ⟨_,st',.cons hd (.yes hg hdg e h1) k1,k2⟩
        ·rename_i htb
         obtain ⟨tvs,st',k1,k2⟩:=ih res l h
         exact ⟨_,st',.cons hd (.no hg hdg e htb) k1,k2⟩
       ·split at h
        ·rename_i ht
         rw [put_id (by rw [e,ht])] at h
         exact ih _ _ h
        ·rename_i ht
         rw [put_id (by rw [e];simp at ht;rw [ht])] at h
         exact ih _ _ h
      ·cases h
   ·cases h
def preds (o:Oper):List Nat:=(o.after.toList.filter (Region.binds .any)).map (·.on)
def reachB (ops:Array Oper):Nat→Nat→Nat→Bool
 | 0,_,_=>false
 | n+1,i,j=>match ops[i]? with
  | none=>false
  | some o=>(preds o).any fun k=>Nat.beq k j || reachB ops n k j
def readsOf (ops:Array Oper) (o:Oper):List Nat :=
 (o.op.operands.toList.filterMap fun | .tmp t=>some t | _=>none) ++
 (match o.guard with
  | some (g,_)=>((ops[g]?).bind (·.dst)).toList
  | none=>[])
def orderOK (ops:Array Oper) (m:Nat) (F:List Nat):Bool :=
 (List.range ops.size).all fun i=>match ops[i]? with
  | none=>false
  | some o=>(preds o).all (fun k=>Nat.blt k i) &&
   (if i<m then
    (List.range m).all fun j=>match (ops[j]?).bind (·.dst) with
     | none=>true
     | some d=>(Nat.beq j i || !(o.dst == some d)) && (!((readsOf ops o).elem d) || (Nat.blt j i && reachB ops ops.size i j))
    else F.elem i || (List.range i).all fun j=>F.elem j || reachB ops ops.size i j)
section
variable {ops:Array Oper}
def Closed (ops:Array Oper) (listed:Array Bool):Prop:=∀ k o,ops[k]?=some o→listed.getD k false=true→∀ j∈preds o,listed.getD j false=true
theorem reach_listed {listed:Array Bool} (hc:Closed ops listed):∀ (n i j:Nat),reachB ops n i j=true→(∀ o,ops[i]?=some o→∀ k∈preds o,listed.getD k false=true)→listed.getD j false=true:=by
 intro n
 induction n with
 | zero=>intro i j h _;simp [reachB] at h
 | succ n ih =>
  intro i j h hi
  simp only [reachB] at h
  split at h
  ·cases h
  ·rename_i o ho
   obtain ⟨k,hk,hkj⟩:=List.any_eq_true.1 h
   have hl:=hi o ho k hk
   simp only [Bool.or_eq_true] at hkj
   rcases hkj with e | e
   ·have:k=j:=Nat.eq_of_beq_eq_true e
    subst this;exact hl
   ·exact ih k j e (fun o' ho'=>hc k o' ho' hl)
theorem ready_preds {i:Nat}{listed:Array Bool}:i∈Region.ready .any ops listed↔listed.getD i true=false∧∃ o,ops[i]?=some o∧∀ j∈preds o,listed.getD j false=true:=by
 rw [mem_ready]
 constructor
 ·rintro ⟨h1,o,h2,h3⟩
  refine ⟨h1,o,h2,fun j hj=>?_⟩
  simp only [preds,List.mem_map,List.mem_filter] at hj
  obtain ⟨e,⟨he,hb⟩,rfl⟩:=hj
  exact h3 e (by simpa using he) hb
 ·rintro ⟨h1,o,h2,h3⟩
  refine ⟨h1,o,h2,fun e he hb=>h3 _ ?_⟩
  simp only [preds,List.mem_map,List.mem_filter]
  exact ⟨e,⟨by simpa using he,hb⟩,rfl⟩
theorem set_getD {listed:Array Bool}{i j:Nat}{d:Bool}:(listed.setIfInBounds i true).getD j d=if i=j∧i<listed.size then true else listed.getD j d:=by
 simp only [Array.getD_eq_getD_getElem?,Array.getElem?_setIfInBounds]
 split
 ·rename_i e
  subst e
  split
  ·rename_i h;simp [h]
  ·rename_i h;simp [h]
 ·rename_i e
  simp [e]
theorem Closed.add {listed:Array Bool} (hc:Closed ops listed){i:Nat} (hr:i∈Region.ready .any ops listed):Closed ops (listed.setIfInBounds i true):=by
 obtain ⟨h1,o,h2,h3⟩:=ready_preds.1 hr
 intro k o' ho' hk j hj
 rw [set_getD] at hk ⊢
 split
 ·rfl
 ·by_cases e:i=k
  ·subst e
   rw [h2] at ho';cases ho'
   exact h3 j hj
  ·rw [if_neg (by simp [e])] at hk
   exact hc k o' ho' hk j hj
theorem getD_flip {listed:Array Bool}{i:Nat} (hi:i<listed.size):listed.getD i true=listed.getD i false:=by
 simp [Array.getD_eq_getD_getElem?,hi]
def left (listed:Array Bool):Nat:=(listed.toList.filter fun b=>!b).length
theorem left_set {listed:Array Bool}{i:Nat} (h:listed.getD i true=false):left (listed.setIfInBounds i true)+1=left listed:=by
 have key:∀ (l:List Bool) (i:Nat),l[i]?=some false→((l.set i true).filter fun b=>!b).length+1=(l.filter fun b=>!b).length:=by
  intro l
  induction l with
  | nil=>intro i h;simp at h
  | cons b l ih =>
   intro i h
   cases i with
   | zero=>simp at h;subst h;simp
   | succ i =>
    have:=ih i (by simpa using h)
    cases b <;> simp [List.set] at this ⊢ <;> omega
 have hi:listed.toList[i]?=some false:=by
  rw [Array.getD_eq_getD_getElem?] at h
  cases e:listed[i]? with
  | none=>rw [e] at h;simp at h
  | some b=>rw [e] at h;simp at h;subst h;simpa using e
 have:=key listed.toList i hi
 unfold left
 rw [Array.toList_setIfInBounds]
 exact this
theorem left_zero {listed:Array Bool} (h:left listed=0){i:Nat}:listed.getD i true=true:=by
 rw [Array.getD_eq_getD_getElem?]
 cases e:listed[i]? with
 | none=>rfl
 | some b =>
  cases b with
  | true=>rfl
  | false =>
   exfalso
   unfold left at h
   have hm:false∈listed.toList.filter fun b=>!b:=by
    simp only [List.mem_filter]
    exact ⟨by have:=Array.mem_of_getElem? e;simpa using this,rfl⟩
   rw [List.eq_nil_of_length_eq_zero h] at hm
   cases hm
theorem ready_nil {listed:Array Bool} (hsz:listed.size=ops.size) (hb:∀ i o,ops[i]?=some o→∀ k∈preds o,k<i) (h:Region.ready .any ops listed=[]):∀ i,i<ops.size→listed.getD i false=true:=by
 intro i
 induction i using Nat.strongRecOn with
 | _ i ih =>
  intro hi
  cases e:listed.getD i false with
  | true=>rfl
  | false =>
   exfalso
   have:i∈Region.ready .any ops listed:=by
    refine ready_preds.2 ⟨by rw [getD_flip (by omega)];exact e,ops[i],by simp [hi],fun k hk=>?_⟩
    have hlt:=hb i ops[i] (by simp [hi]) k hk
    exact ih k hlt (by omega)
   rw [h] at this
   cases this
end
end Go.Rf
namespace Go.Rf
section
variable {P:Program}{E:Cz}{w0 w w':World}{G:Blk}{st st':St}{a:Act}{S:Stab}{pls:Nat→Pl}{X:Nat→List Nat}{ops:Array Oper}
structure Order (ops:Array Oper) (m:Nat) (F:List Nat):Prop where
 back:∀ i o,ops[i]?=some o→∀ k∈preds o,k<i
 apart:∀ i o,i<m→ops[i]?=some o→∀ j oj d,j<m→ops[j]?=some oj→oj.dst=some d→(j=i∨o.dst≠some d)∧(d∈readsOf ops o→j<i∧reachB ops ops.size i j=true)
 tail:∀ i,m≤i→i<ops.size→i ∉ F→∀ j,j<i→j ∉ F→reachB ops ops.size i j=true
theorem order_of {m:Nat}{F:List Nat} (h:orderOK ops m F=true):Order ops m F:=by
 have hi:∀ i o,ops[i]?=some o→_:=fun i o ho=>by
  have hlt:i<ops.size:=(Array.getElem?_eq_some_iff.1 ho).1
  have:=List.all_eq_true.1 h i (List.mem_range.2 hlt)
  rw [ho] at this
  exact this
 refine ⟨fun i o ho k hk=>?_,fun i o him ho j oj d hj hoj hd=>?_,fun i him hlt hiF j hj hjF=>?_⟩
 ·have:=hi i o ho
  simp only [bA] at this
  have:=List.all_eq_true.1 this.1 k hk
  exact Nat.succ_le_iff.1 (Nat.le_of_ble_eq_true this)
 ·have:=hi i o ho
  simp only [bA,if_pos him] at this
  have:=List.all_eq_true.1 this.2 j (List.mem_range.2 hj)
  simp only [hoj,oB,hd,bA,Bool.or_eq_true,Bool.not_eq_true'] at this
  refine ⟨?_,fun hr=>?_⟩
  ·rcases this.1 with e | e
   ·exact .inl (Nat.eq_of_beq_eq_true e)
   ·exact .inr (by simpa using e)
  ·rcases this.2 with e | e
   ·rw [List.elem_eq_true_of_mem hr] at e;cases e
   ·exact ⟨Nat.succ_le_iff.1 (Nat.le_of_ble_eq_true e.1),e.2⟩
 ·have ho:ops[i]?=some ops[i]:=by simp [hlt]
  have:=hi i _ ho
  simp only [bA,if_neg (Nat.not_lt.2 him),Bool.or_eq_true] at this
  rcases this.2 with e | e
  ·exact absurd (List.mem_of_elem_eq_true e) hiF
  ·have:=List.all_eq_true.1 e j (List.mem_range.2 hj)
   simp only [Bool.or_eq_true] at this
   rcases this with e | e
   ·exact absurd (List.mem_of_elem_eq_true e) hjF
   ·exact e
theorem any_tail {J:World→Prop}{Q:Exit→Act→World→Prop}{m:Nat}{F:List Nat} (hO:Order ops m F):∀ (is:List Nat) (fuel:Nat){listed:Array Bool}{a:Act}{w:World},is.Pairwise (·<·)→(∀ i∈is,m≤i∧i<ops.size∧i ∉ F)→listed.size=ops.size→Closed ops listed →
  (∀ j,j<ops.size→listed.getD j false=!is.elem j)→left listed≤fuel→J w→wpL P ops J Q (is.filterMap (ops[·]?)) (Q .normal) a w→wpAnyH P .any ops Q J fuel listed a w:=by
 intro is
 induction is with
 | nil =>
  intro fuel listed a w _ _ hsz hc hl hf hJ h
  have hr:Region.ready .any ops listed=[]:=by
   rw [List.eq_nil_iff_forall_not_mem]
   intro i hi
   obtain ⟨h1,o,h2,_⟩:=ready_preds.1 hi
   have hlt:i<ops.size:=(Array.getElem?_eq_some_iff.1 h2).1
   rw [getD_flip (by omega),hl i hlt] at h1
   simp at h1
  cases fuel with
  | zero=>exact ⟨hr,h⟩
  | succ f=>exact ⟨fun _=>h,fun i hi=>by rw [hr] at hi;cases hi⟩
 | cons k is ih =>
  intro fuel listed a w hp hb hsz hc hl hf hJ h
  obtain ⟨hmk,hklt,hkF⟩:=hb k (by simp)
  obtain ⟨o,hget⟩:∃ o,ops[k]?=some o:=⟨ops[k],by simp [hklt]⟩
  have hun:listed.getD k true=false:=by rw [getD_flip (by omega),hl k hklt];simp
  have hone:∀ i∈Region.ready .any ops listed,i=k:=by
   intro i hi
   obtain ⟨h1,o',h2,h3⟩:=ready_preds.1 hi
   have hlt:i<ops.size:=(Array.getElem?_eq_some_iff.1 h2).1
   rw [getD_flip (by omega),hl i hlt] at h1
   have hmem:i∈k::is:=by
    have:(k::is).elem i=true:=by cases e:(k::is).elem i with
     | true=>rfl
     | false=>rw [e] at h1;cases h1
    exact List.mem_of_elem_eq_true this
   simp only [List.mem_cons] at hmem
   rcases hmem with e | hmem
   ·exact e
   ·exfalso
    have hki:=(List.pairwise_cons.1 hp).1 i hmem
    obtain ⟨b1,b2,b3⟩:=hb i (by simp [hmem])
    have:=reach_listed hc ops.size i k (hO.tail i b1 b2 b3 k hki hkF) (fun o'' ho'' kk hkk=>by rw [h2] at ho'';cases ho'';exact h3 kk hkk)
    rw [hl k hklt] at this
    simp at this
  cases fuel with
  | zero =>
   have:=left_zero (Nat.le_zero.1 hf) (i:=k)
   rw [hun] at this;cases this
  | succ f =>
   refine ⟨fun hr=>?_,fun i hi=>?_⟩
   ·have:=ready_nil hsz hO.back hr k hklt
    rw [hl k hklt] at this;simp at this
   ·have e:=hone i hi
    subst e
    have hc':=hc.add hi
    have hnew:∀ j,j<ops.size→(listed.setIfInBounds i true).getD j false=!is.elem j:=by
     intro j hj
     rw [set_getD]
     split
     ·rename_i e
      obtain ⟨rfl,_⟩:=e
      have:i ∉ is:=fun hm=>Nat.lt_irrefl _ ((List.pairwise_cons.1 hp).1 i hm)
      simp [this]
     ·rename_i e
      rw [hl j hj]
      have:j≠i:=fun e'=>e ⟨e'.symm,by omega⟩
      simp [this]
    have hleft:=left_set hun
    have hp':=(List.pairwise_cons.1 hp).2
    have hb':∀ i∈is,m≤i∧i<ops.size∧i ∉ F:=fun i hi=>hb i (by simp [hi])
    unfold wpOp
    simp only [hget]
    simp only [List.filterMap_cons,hget,wpL] at h
    split
    ·rename_i hw
     rw [if_pos hw] at h
     exact .inl (Oper.wp_mono (fun a w h=>⟨h.1,ih f hp' hb' (by simp [hsz]) hc' hnew (by omega) h.1 h.2⟩) h)
    ·rename_i hw
     rw [if_neg hw] at h
     exact ⟨hJ,ih f hp' hb' (by simp [hsz]) hc' hnew (by omega) hJ h⟩
def tailI (ops:Array Oper) (m:Nat) (F:List Nat):List Nat:=(List.range ops.size).filter fun i=>Nat.ble m i && !F.elem i
theorem tailI_mem {m:Nat}{F:List Nat}{i:Nat}:i∈tailI ops m F↔i<ops.size∧m≤i∧i ∉ F:=by
 simp only [tailI,List.mem_filter,List.mem_range,bA,Bool.not_eq_true',Nat.ble_eq]
 constructor
 ·rintro ⟨h1,h2,h3⟩
  exact ⟨h1,h2,fun hm=>by rw [List.elem_eq_true_of_mem hm] at h3;cases h3⟩
 ·rintro ⟨h1,h2,h3⟩
  refine ⟨h1,h2,?_⟩
  cases e:F.elem i with
  | false=>rfl
  | true=>exact absurd (List.mem_of_elem_eq_true e) h3
theorem tailI_sorted {m:Nat}{F:List Nat}:(tailI ops m F).Pairwise (·<·):=List.Pairwise.filter _ List.pairwise_lt_range
structure Part (st:St) (l:List Oper) (tvs:List TV) (D:Nat→Bool) (st1:St):Prop where
 roots:st1.roots=st.roots
 old:∀ t,(∀ j oj,D j=true→l[j]?=some oj→oj.dst≠some t)→st1.tmps t=st.tmps t
 new:∀ j oj tvj t,D j=true→l[j]?=some oj→tvs[j]?=some tvj→oj.dst=some t→st1.tmps t=tvj
def Distinct (l:List Oper):Prop:=∀ (i j:Nat) (oi oj:Oper) (t:Nat),l[i]?=some oi→l[j]?=some oj→oi.dst=some t→oj.dst=some t→i=j
theorem Part.put {l:List Oper}{tvs:List TV}{D D':Nat→Bool}{st1:St} (h:Part st l tvs D st1) (hdis:Distinct l){i:Nat}{o:Oper}{tv:TV} (hi:l[i]?=some o) (htv:tvs[i]?=some tv)
  (hD:∀ j,j<l.length→(D' j=true↔D j=true∨j=i)):Part st l tvs D' (st1.put o.dst tv):=by
 have lt:∀ {j:Nat}{oj:Oper},l[j]?=some oj→j<l.length:=fun h=>(List.getElem?_eq_some_iff.1 h).1
 refine ⟨put_roots.trans h.roots,fun t ht=>?_,fun j oj tvj t hj hoj htvj hd=>?_⟩
 ·rw [put_dst (ht i o ((hD i (lt hi)).2 (.inr rfl)) hi)]
  exact h.old t (fun j oj hj hoj=>ht j oj ((hD j (lt hoj)).2 (.inl hj)) hoj)
 ·by_cases e:o.dst=some t
  ·have:=hdis i j o oj t hi hoj e hd
   subst this
   rw [hi] at hoj;cases hoj
   rw [htv] at htvj;cases htvj
   rw [e];exact put_same
  ·rw [put_dst e]
   rcases (hD j (lt hoj)).1 hj with hj | rfl
   ·exact h.new j oj tvj t hj hoj htvj hd
   ·rw [hi] at hoj;cases hoj
    exact absurd hd e
theorem Part.ext {l:List Oper}{tvs:List TV}{D D':Nat→Bool}{st1 st2:St} (h1:Part st l tvs D st1) (h2:Part st l tvs D' st2) (hl:l.length=tvs.length) (hD:∀ j,j<l.length→D j=true) (hD':∀ j,j<l.length→D' j=true):st1=st2:=by
 have ht:∀ t,st1.tmps t=st2.tmps t:=by
  intro t
  by_cases hex:∃ (j:Nat) (oj:Oper),l[j]?=some oj∧oj.dst=some t
  ·obtain ⟨j,oj,hj,hd⟩:=hex
   have hlt:=(List.getElem?_eq_some_iff.1 hj).1
   obtain ⟨tvj,htv⟩:∃ tvj,tvs[j]?=some tvj:=⟨tvs[j]'(by omega),List.getElem?_eq_getElem (by omega)⟩
   rw [h1.new j oj tvj t (hD j hlt) hj htv hd,h2.new j oj tvj t (hD' j hlt) hj htv hd]
  ·rw [h1.old t (fun j oj _ hj hd=>hex ⟨j,oj,hj,hd⟩),h2.old t (fun j oj _ hj hd=>hex ⟨j,oj,hj,hd⟩)]
 have hr:st1.roots=st2.roots:=h1.roots.trans h2.roots.symm
 cases st1;cases st2
 simp only [St.mk.injEq]
 exact ⟨funext ht,hr⟩
theorem tr_parts {l:List Oper}{tvs:List TV} (hdis:Distinct l) (ht:Tr E ops st l tvs st'):l.length=tvs.length∧∀ i,i≤l.length→∃ sti,Part st l tvs (fun j=>decide (j<i)) sti∧Tr E ops sti (l.drop i) (tvs.drop i) st':=by
 have hlen:∀ {st:St}{l:List Oper}{tvs:List TV},Tr E ops st l tvs st'→l.length=tvs.length:=by
  intro st l tvs h
  clear ht hdis
  induction h with
  | nil=>rfl
  | cons _ _ _ ih=>simp [ih]
 refine ⟨hlen ht,?_⟩
 intro i
 induction i with
 | zero=>intro _;exact ⟨st,⟨rfl,fun _ _=>rfl,by simp⟩,by simpa using ht⟩
 | succ i ih =>
  intro hi
  obtain ⟨sti,h1,h2⟩:=ih (by omega)
  have hlt:i<l.length:=by omega
  have hlt':i<tvs.length:=by rw [← hlen ht];exact hlt
  rw [List.drop_eq_getElem_cons hlt,List.drop_eq_getElem_cons hlt'] at h2
  cases h2 with
  | cons hd ho ht' =>
   refine ⟨_,h1.put hdis (D':=fun j=>decide (j<i+1)) (List.getElem?_eq_getElem hlt) (List.getElem?_eq_getElem hlt') (fun j _=>?_),ht'⟩
   simp only [decide_eq_true_eq]
   omega
theorem tr_end {l:List Oper}{tvs:List TV} (hdis:Distinct l) (ht:Tr E ops st l tvs st'):Part st l tvs (fun j=>decide (j<l.length)) st':=by
 obtain ⟨_,h⟩:=tr_parts hdis ht
 obtain ⟨sti,h1,h2⟩:=h l.length (Nat.le_refl _)
 have:l.drop l.length=[]:=List.drop_length
 rw [this] at h2
 generalize tvs.drop l.length=q at h2
 cases h2
 exact h1
theorem OneR.loc {o:Oper}{tv:TV}{st2:St} (h:OneR E ops st o tv) (hroots:st2.roots=st.roots) (ht:∀ t∈readsOf ops o,st2.tmps t=st.tmps t):OneR E ops st2 o tv:=by
 have hop:∀ x∈o.op.operands.toList,opnd st2 x=opnd st x:=fun x hx=>opnd_tmp (fun t e=>by
  subst e
  refine ht t ?_
  simp only [readsOf,List.mem_append,List.mem_filterMap]
  exact .inl ⟨.tmp t,hx,rfl⟩)
 have hq:=quietV_loc (E:=E) hroots hop
 have hg':∀ g b dg,o.guard=some (g,b)→(ops[g]?).bind (·.dst)=some dg→st2.tmps dg=st.tmps dg:=fun g b dg hg hd=>by
  refine ht dg ?_
  simp only [readsOf,List.mem_append,hg,hd]
  exact .inr (by simp)
 cases h with
 | run hg h=>exact .run hg (by rw [hq];exact h)
 | yes hg hd ht h=>exact .yes hg hd (by rw [hg' _ _ _ hg hd];exact ht) (by rw [hq];exact h)
 | no hg hd ht hne=>exact .no hg hd (by rw [hg' _ _ _ hg hd];exact ht) hne
 | none hg hd ht=>exact .none hg hd (by rw [hg' _ _ _ hg hd];exact ht)
theorem one_op {Q:Exit→Act→World→Prop} (hE:EnvOK P E) (hI:Inv E.toCx w0 G st a w S pls X){i:Nat}{o:Oper} (hi:ops[i]?=some o){tv:TV} (hd:dOK E.n o.dst=true) (h:OneR E ops st o tv){K:Act→World→Prop}
  (hK:∀ v w',Fits E.toCx w0 G S w (st.put o.dst tv) (a.put o.dst v) w'→K (a.put o.dst v) w'):wpOp P ops Q i K a w:=by
 have skip:Region.wanted o (yielded ops a.tmps)=false→tv=.tup []→wpOp P ops Q i K a w:=by
  intro hw e
  subst e
  unfold wpOp
  simp only [hi,hw,bF,if_false]
  refine hK undef w ⟨S,pls,X,?_,Grows.refl⟩
  exact hI.put (fun d e=>by rw [e] at hd;simpa [dOK] using hd) ⟨[],rfl,trivial⟩
 have run:Region.wanted o (yielded ops a.tmps)=true→quietV E st o.op=some tv→wpOp P ops Q i K a w:=by
  intro hw hq
  unfold wpOp
  simp only [hi,hw,if_true]
  exact .inl (op_done hE hI (quietV_op hd hq) _ _ hK)
 cases h with
 | run hg h=>exact run (by simp [Region.wanted,hg]) h
 | @yes _ g dg b hg hdg ht h =>
  have hv:=hI.tmps dg
  rw [ht] at hv
  obtain ⟨vs,hv,⟨rfl,_⟩⟩:=hv
  exact run (by rw [wanted_of hg hdg hv];simp [valOf,Ty.isAgg,isB]) h
 | @no g dg b t hg hdg ht hne =>
  have hv:=hI.tmps dg
  rw [ht] at hv
  obtain ⟨vs,hv,⟨rfl,_⟩⟩:=hv
  exact skip (by rw [wanted_of hg hdg hv];simpa [valOf,Ty.isAgg,isB] using hne) rfl
 | @none g dg b hg hdg ht =>
  have hv:=hI.tmps dg
  rw [ht] at hv
  obtain ⟨vs,hv,hl⟩:=hv
  cases vs with
  | cons _ _=>simp [LRel] at hl
  | nil=>exact skip (by rw [wanted_of hg hdg hv];rfl) rfl
end
end Go.Rf
namespace Go.Rf
section
variable {P:Program}{E:Cz}{w0 w w':World}{G:Blk}{st st':St}{a:Act}{S:Stab}{pls:Nat→Pl}{X:Nat→List Nat}{ops:Array Oper}
theorem distinct_of {m:Nat}{F:List Nat} (hO:Order ops m F):Distinct (ops.toList.take m):=by
 intro i j oi oj t hi hj hdi hdj
 have hi':i<m∧ops[i]?=some oi:=by
  rw [List.getElem?_take] at hi
  split at hi
  ·rename_i h;exact ⟨h,by simpa using hi⟩
  ·cases hi
 have hj':j<m∧ops[j]?=some oj:=by
  rw [List.getElem?_take] at hj
  split at hj
  ·rename_i h;exact ⟨h,by simpa using hj⟩
  ·cases hj
 rcases (hO.apart i oi hi'.1 hi'.2 j oj t hj'.1 hj'.2 hdj).1 with e | e
 ·exact e.symm
 ·exact absurd hdi e
theorem any_quiet {J:World→Prop} (hJ:∀ {st:St}{a:Act}{w:World}{S:Stab}{pls:Nat→Pl}{X:Nat→List Nat},Inv E.toCx w0 G st a w S pls X→J w){Q:Exit→Act→World→Prop} (hE:EnvOK P E){m:Nat}{F:List Nat} (hO:Order ops m F) (hFm:∀ i∈F,m≤i) (hm:m≤ops.size){tvs:List TV} (htr:Tr E ops st (ops.toList.take m) tvs st'){a0:Act}
  (hend:∀ a' w',Fits E.toCx w0 G S w st' a' w'→(∀ t,t ∉ dsts ops.toList→a'.tmps.getD t undef=a0.tmps.getD t undef)→wpL P ops J Q ((tailI ops m F).filterMap (ops[·]?)) (Q .normal) a' w') :
  ∀ (fuel:Nat){listed:Array Bool}{std:St}{a':Act}{w':World},listed.size=ops.size→Closed ops listed→(∀ j,m≤j→j<ops.size→listed.getD j false=F.elem j)→left listed≤fuel →
   Part st (ops.toList.take m) tvs (fun j=>listed.getD j false) std→Fits E.toCx w0 G S w std a' w'→(∀ t,t ∉ dsts ops.toList→a'.tmps.getD t undef=a0.tmps.getD t undef)→wpAnyH P .any ops Q J fuel listed a' w':=by
 have hdis:=distinct_of hO
 obtain ⟨hlen,hparts⟩:=tr_parts hdis htr
 have hl:(ops.toList.take m).length=m:=by simp;omega
 have hget:∀ i,i<m→∃ o,ops[i]?=some o∧(ops.toList.take m)[i]?=some o:=fun i hi=>by
  have:i<ops.size:=by omega
  exact ⟨ops[i],by simp [this],by rw [List.getElem?_take,if_pos hi];simp [this]⟩
 intro fuel
 induction fuel with
 | zero =>
  intro listed std a' w' hsz hc htail hleft hp hF hfr
  have hall:∀ j,j<ops.size→listed.getD j false=true:=fun j hj=>by rw [← getD_flip (by omega)];exact left_zero (Nat.le_zero.1 hleft)
  have e:std=st':=hp.ext (tr_end hdis htr) hlen (fun j hj=>hall j (by omega)) (fun j hj=>by simpa using hj)
  subst e
  refine any_tail hO _ 0 tailI_sorted (fun i hi=>by obtain ⟨h1,h2,h3⟩:=tailI_mem.1 hi;exact ⟨h2,h1,h3⟩) hsz hc (fun j hj=>?_) hleft (by obtain ⟨_,_,_,h,_⟩:=hF;exact hJ h) (hend a' w' hF hfr)
  rw [hall j hj]
  cases e:(tailI ops m F).elem j with
  | false=>rfl
  | true =>
   obtain ⟨h1,h2,h3⟩:=tailI_mem.1 (List.mem_of_elem_eq_true e)
   have:=hall j hj
   rw [htail j h2 hj] at this
   exact absurd (List.mem_of_elem_eq_true this) h3
 | succ f ih =>
  intro listed std a' w' hsz hc htail hleft hp hF hfr
  by_cases hall:∀ j,j<m→listed.getD j false=true
  ·have e:std=st':=hp.ext (tr_end hdis htr) hlen (fun j hj=>hall j (by omega)) (fun j hj=>by simpa using hj)
   subst e
   refine any_tail hO _ (f+1) tailI_sorted (fun i hi=>by obtain ⟨h1,h2,h3⟩:=tailI_mem.1 hi;exact ⟨h2,h1,h3⟩) hsz hc (fun j hj=>?_) hleft (by obtain ⟨_,_,_,h,_⟩:=hF;exact hJ h) (hend a' w' hF hfr)
   by_cases h:j<m
   ·rw [hall j h]
    cases e:(tailI ops m F).elem j with
    | false=>rfl
    | true=>obtain ⟨h1,h2,h3⟩:=tailI_mem.1 (List.mem_of_elem_eq_true e);omega
   ·rw [htail j (by omega) hj]
    cases e:(tailI ops m F).elem j with
    | true =>
     obtain ⟨h1,h2,h3⟩:=tailI_mem.1 (List.mem_of_elem_eq_true e)
     cases e':F.elem j with
     | false=>rfl
     | true=>exact absurd (List.mem_of_elem_eq_true e') h3
    | false =>
     cases e':F.elem j with
     | true=>rfl
     | false =>
      have:j∈tailI ops m F:=tailI_mem.2 ⟨hj,by omega,fun hm=>by rw [List.elem_eq_true_of_mem hm] at e';cases e'⟩
      rw [List.elem_eq_true_of_mem this] at e;cases e
  ·refine ⟨fun hr=>?_,fun i hi=>?_⟩
   ·exfalso
    apply hall
    intro j hj
    exact ready_nil hsz hO.back hr j (by omega)
   ·obtain ⟨h1,o,h2,h3⟩:=ready_preds.1 hi
    have hilt:i<ops.size:=(Array.getElem?_eq_some_iff.1 h2).1
    have him:i<m:=by
     rcases Nat.lt_or_ge i m with h | h
     ·exact h
     ·exfalso
      apply hall
      intro j hj
      have hiF:i ∉ F:=fun hm=>by
       have:=htail i h hilt
       rw [List.elem_eq_true_of_mem hm] at this
       rw [getD_flip (by omega),this] at h1;cases h1
      exact reach_listed hc ops.size i j (hO.tail i h hilt hiF j (by omega) (fun hm=>by have:=hFm j hm;omega)) (fun o' ho' k hk=>by rw [h2] at ho';cases ho';exact h3 k hk)
    obtain ⟨o',ho',hot⟩:=hget i him
    rw [h2] at ho';cases ho'
    obtain ⟨sti,hpi,hti⟩:=hparts i (by omega)
    have hlt:i<(ops.toList.take m).length:=by omega
    have hlt':i<tvs.length:=by omega
    rw [List.drop_eq_getElem_cons hlt,List.drop_eq_getElem_cons hlt'] at hti
    have hoe:(ops.toList.take m)[i]=o:=by
     rw [List.getElem?_eq_getElem hlt] at hot
     exact Option.some.inj hot
    rw [hoe] at hti
    generalize htv:tvs[i]=tv at hti
    cases hti with
    | cons hd hone _ =>
     have hone':OneR E ops std o tv:=by
      refine hone.loc (hp.roots.trans hpi.roots.symm) (fun t ht=>?_)
      by_cases hex:∃ (j:Nat) (oj:Oper),(ops.toList.take m)[j]?=some oj∧oj.dst=some t
      ·obtain ⟨j,oj,hj,hdj⟩:=hex
       have hjl:=(List.getElem?_eq_some_iff.1 hj).1
       have hjm:j<m:=by omega
       have hoj:ops[j]?=some oj:=by
        rw [List.getElem?_take,if_pos hjm] at hj;simpa using hj
       obtain ⟨hji,hreach⟩:=(hO.apart i o him h2 j oj t hjm hoj hdj).2 ht
       have hlj:listed.getD j false=true:=reach_listed hc ops.size i j hreach (fun o' ho' k hk=>by rw [h2] at ho';cases ho';exact h3 k hk)
       obtain ⟨tvj,htvj⟩:∃ tvj,tvs[j]?=some tvj:=⟨tvs[j]'(by omega),List.getElem?_eq_getElem (by omega)⟩
       rw [hp.new j oj tvj t hlj hj htvj hdj,hpi.new j oj tvj t (by simpa using hji) hj htvj hdj]
      ·rw [hp.old t (fun j oj _ hj hd=>hex ⟨j,oj,hj,hd⟩),hpi.old t (fun j oj _ hj hd=>hex ⟨j,oj,hj,hd⟩)]
     obtain ⟨S1,pls1,X1,hI1,hg1⟩:=hF
     refine one_op hE hI1 h2 hd hone' ?_
     rintro v w2 ⟨S2,pls2,X2,hI2,hg2⟩
     have hleft':=left_set h1
     refine ⟨hJ hI2,?_⟩
     refine ih (by simp [hsz]) (hc.add hi) (fun j hj hjs=>?_) (by omega) (hp.put hdis hot (by rw [List.getElem?_eq_getElem hlt',htv]) (fun j hj=>?_)) ⟨S2,pls2,X2,hI2,hg1.trans hg2⟩ (fun t ht=>?_)
     ·rw [set_getD,if_neg (by omega)];exact htail j hj hjs
     ·rw [set_getD]
      constructor
      ·intro h
       split at h
       ·rename_i e;exact .inr e.1.symm
       ·exact .inl h
      ·rintro (h | rfl)
       ·split
        ·rfl
        ·exact h
       ·rw [if_pos ⟨rfl,by omega⟩]
     ·rw [act_put ?_]
      ·exact hfr t ht
      ·intro e
       apply ht
       simp only [dsts,List.mem_filterMap]
       exact ⟨o,by have:=Array.mem_of_getElem? h2;simpa using this,e⟩
end
def freeN (E:Cz):List Oper→Nat
 | []=>0
 | o::l=>match o.op with
  | .assign _=>0
  | op=>if quiet E op=true then freeN E l+1 else 0
def canFloat (ops:Array Oper) (listed:Array Bool) (i:Nat):Bool :=
 match ops[i]? with
 | some o=>(match o.op,o.dst,o.guard with
   | .move _,some _,none=>true
   | .extract _ _,some _,none=>true
   | .nilCheck _,some _,none=>true
   | .binOp ..,some _,none=>true
   | .unOp ..,some _,none=>true
   | .load ..,some _,none=>true
   | .fieldAddr ..,some _,none=>true
   | .field ..,some _,none=>true
   | .indexAddr ..,some _,none=>true
   | .index ..,some _,none=>true
   | .slice ..,some _,none=>true
   | .convert ..,some _,none=>true
   | .call c,some _,none=>(match c.callee with
    | .builtin .len=>true
    | .builtin .min=>true
    | .builtin .max=>true
    | _=>false)
   | _,_,_=>false) && Region.free .any ops listed i && (Region.ready .any ops listed).contains i
 | none=>false
def floats (ops:Array Oper):List Nat→Array Bool→List Nat
 | [],_=>[]
 | i::is,listed=>if canFloat ops listed i=true then i::floats ops is (listed.setIfInBounds i true) else floats ops is listed
def addH:Option Nat→List Nat→List Nat
 | none,hs=>hs
 | some id,hs=>if hs.elem id=true then hs else id::hs
def floatK (E:Cz) (ops:Array Oper){R:Type}:List Nat→St→List Nat→(St→List Nat→Option R)→Option R
 | [],st,hs,K=>K st hs
 | i::is,st,hs,K=>match ops[i]? with
  | some o=>(match o.dst with
   | some d=>if d<E.n then pureK E.toCx st o.op fun tv=>floatK E ops is (st.put (some d) tv) (addH (rdRoot st o.op) hs) K else none
   | none=>none)
  | none=>none
inductive FTr (E:Cz) (ops:Array Oper):List Nat→St→List Nat→St→List Nat→Prop where
 | nil (st:St) (hs:List Nat):FTr E ops [] st hs st hs
 | cons {i d:Nat}{is hs hsF:List Nat}{st stF:St}{o:Oper}{tv:TV} (ho:ops[i]?=some o) (hd:o.dst=some d) (hlt:d<E.n) (hp:pureK E.toCx st o.op some=some tv)
   (h:FTr E ops is (st.put (some d) tv) (addH (rdRoot st o.op) hs) stF hsF):FTr E ops (i::is) st hs stF hsF
theorem floatK_tr {E:Cz}{ops:Array Oper}{R:Type}{K:St→List Nat→Option R}{r:R}:∀ {is:List Nat}{st:St}{hs:List Nat},floatK E ops is st hs K=some r→∃ stF hsF,FTr E ops is st hs stF hsF∧K stF hsF=some r:=by
 intro is
 induction is with
 | nil=>intro st hs h;exact ⟨st,hs,.nil st hs,h⟩
 | cons i is ih =>
  intro st hs h
  simp only [floatK] at h
  split at h
  ·rename_i o ho
   split at h
   ·rename_i d hd
    split at h
    ·rename_i hlt
     rw [pureK_bind] at h
     obtain ⟨tv,h1,h2⟩:=Option.bind_eq_some_iff.1 h
     obtain ⟨stF,hsF,h3,h4⟩:=ih h2
     exact ⟨stF,hsF,.cons ho hd hlt h1 h3,h4⟩
    ·cases h
   ·cases h
  ·cases h
theorem addH_some {id:Nat}{hs:List Nat}:addH (some id) hs=if hs.elem id=true then hs else id::hs:=rfl
theorem addH_mem {o:Option Nat}{hs:List Nat}:(∀ i∈hs,i∈addH o hs)∧(∀ i,o=some i→i∈addH o hs)∧(∀ i∈addH o hs,i∈hs∨o=some i):=by
 cases o with
 | none=>exact ⟨fun i h=>h,by simp,fun i h=>.inl h⟩
 | some id =>
  rw [addH_some]
  by_cases e:hs.elem id=true
  ·rw [if_pos e]
   exact ⟨fun i h=>h,fun i h=>by cases h;exact List.mem_of_elem_eq_true e,fun i h=>.inl h⟩
  ·rw [if_neg e]
   exact ⟨fun i h=>List.mem_cons_of_mem _ h,fun i h=>by cases h;exact List.mem_cons_self,fun i h=>by simp only [List.mem_cons] at h;rcases h with h | h;exact .inr (by rw [h]);exact .inl h⟩
theorem addH_nodup {o:Option Nat}{hs:List Nat} (h:hs.Nodup):(addH o hs).Nodup:=by
 cases o with
 | none=>exact h
 | some id =>
  rw [addH_some]
  by_cases e:hs.elem id=true
  ·rw [if_pos e];exact h
  ·rw [if_neg e]
   exact List.nodup_cons.2 ⟨fun hm=>e (List.elem_eq_true_of_mem hm),h⟩
theorem FTr.sub {E:Cz}{ops:Array Oper}{is hs hsF:List Nat}{st stF:St} (h:FTr E ops is st hs stF hsF):∀ i∈hs,i∈hsF:=by
 induction h with
 | nil=>exact fun i h=>h
 | cons _ _ _ _ _ ih=>exact fun i h=>ih i (addH_mem.1 i h)
theorem FTr.nodup {E:Cz}{ops:Array Oper}{is hs hsF:List Nat}{st stF:St} (h:FTr E ops is st hs stF hsF) (hn:hs.Nodup):hsF.Nodup:=by
 induction h with
 | nil=>exact hn
 | cons _ _ _ _ _ ih=>exact ih (addH_nodup hn)
theorem FTr.roots {E:Cz}{ops:Array Oper}{is hs hsF:List Nat}{st stF:St} (h:FTr E ops is st hs stF hsF):stF.roots=st.roots:=by
 induction h with
 | nil=>rfl
 | cons _ _ _ _ _ ih=>rw [ih];rfl
def flo (ops:Array Oper) (m:Nat):List Nat:=floats ops ((List.range ops.size).filter fun i=>Nat.ble m i) (Array.replicate ops.size false)
def killL (st:St):List Nat→St
 | []=>st
 | i::is=>killL (st.kill i) is
def rest1 (W:List Nat) (st st3:St) (id:Nat) (r:Root):St :=
 {tmps:=fun t=>if W.elem t=true then st3.tmps t else match st.tmps t with
   | .a v=>if v.refs=some id then .a v else st3.tmps t
   | _=>st3.tmps t
  roots:=fun i=>if i=id then some r else st3.roots i }
def restL (W:List Nat) (st:St){R:Type}:List Nat→St→(St→Option R)→Option R
 | [],st3,K=>K st3
 | i::is,st3,K=>match st.roots i,st3.roots i with
  | some r,none=>restL W st is (rest1 W st st3 i r) K
  | _,_=>none
def drawK (E:Cz) (ops:Array Oper){R:Type} (st:St) (K:St→Option R):Option R :=
 if orderOK ops (freeN E ops.toList) (flo ops (freeN E ops.toList))=true∧freeN E ops.toList≤ops.size∧Region.noSelect ops=true then
  floatK E ops (flo ops (freeN E ops.toList)) st [] fun stF hs =>
   opsD E ops (ops.size+ops.size) [] (ops.toList.take (freeN E ops.toList)) (killL stF hs) fun st' =>
    opsK E ops (ops.size+ops.size) [] ((tailI ops (freeN E ops.toList) (flo ops (freeN E ops.toList))).filterMap (ops[·]?)) st' fun st3 =>
     restL (dsts ops.toList) stF hs st3 K
 else none
theorem getD_rep {n j:Nat}:(Array.replicate n false).getD j false=false:=by
 simp [Array.getD_eq_getD_getElem?,Array.getElem?_replicate]
 split <;> rfl
theorem float_sound {P:Program}{E:Cz}{w0 w:World}{G:Blk}{a0:Act}{S:Stab}{pls:Nat→Pl}{X:Nat→List Nat}{ops:Array Oper} (hT:TabOK P E.tab) (hs:Region.noSelect ops=true){Q:Exit→Act→World→Prop}
  (hpan:∀ c a w,¬ Q (.panic c) a w){J:World→Prop} (hJw:J w){hsF:List Nat}{stF:St} (hJ:∀ w',J w'→(∀ m b,S m b→hp w' b=hp w b)∧∀ id∈hsF,∀ b∈X id,hp w' b=hp w b) :
  ∀ (is:List Nat) (fuel:Nat){listed:Array Bool}{st:St}{hs0:List Nat}{a:Act},FTr E ops (floats ops is listed) st hs0 stF hsF→listed.size=ops.size→Closed ops listed→left listed≤fuel →
   Inv E.toCx w0 G st a w S pls X→(∀ t,t ∉ dsts ops.toList→a.tmps.getD t undef=a0.tmps.getD t undef∧st.tmps t=stF.tmps t) →
   (∀ (fuel:Nat){listed':Array Bool}{a':Act},listed'.size=ops.size→Closed ops listed'→left listed'≤fuel→(∀ j,listed'.getD j false=(listed.getD j false || (floats ops is listed).elem j && decide (j<ops.size))) →
    Inv E.toCx w0 G stF a' w S pls X→(∀ t,t ∉ dsts ops.toList→a'.tmps.getD t undef=a0.tmps.getD t undef)→wpAnyH P .any ops Q J fuel listed' a' w)→wpAnyH P .any ops Q J fuel listed a w:=by
 intro is
 induction is with
 | nil =>
  intro fuel listed st hs0 a h hsz hc hf hI hfr hend
  simp only [floats] at h
  cases h
  exact hend fuel hsz hc hf (fun j=>by simp [floats]) hI (fun t ht=>(hfr t ht).1)
 | cons i is ih =>
  intro fuel listed st hs0 a h hsz hc hf hI hfr hend
  simp only [floats] at h hend
  split at h
  ·rename_i hcan
   rw [if_pos hcan] at hend
   cases h with
   | @cons _ d _ _ _ _ _ o tv ho hdst hlt hp h =>
    have hcan':=hcan
    unfold canFloat at hcan'
    rw [ho] at hcan'
    simp only [bA] at hcan'
    obtain ⟨⟨hmv,hfree⟩,hrd⟩:=hcan'
    have hg:o.guard=none:=by
     split at hmv <;> first | assumption | (exact absurd hmv (by simp))
    have hrd':i∈Region.ready .any ops listed:=by simpa using hrd
    have hun:=(ready_preds.1 hrd').1
    have hleft:=left_set hun
    have hilt:i<ops.size:=(Array.getElem?_eq_some_iff.1 ho).1
    obtain ⟨v,hrun,hv⟩:=pure_run hT hI hp
    cases fuel with
    | zero=>omega
    | succ f =>
     have hY:YieldsIf P ops J o v a:=by
      refine .inl ⟨by simp [Region.wanted,hg],fun w' hw'=>hrun w' ?_⟩
      obtain ⟨j1,j2⟩:=hJ w' hw'
      exact ⟨j1,fun id hid=>j2 id (h.sub id (addH_mem.2.1 id hid))⟩
     refine wpAnyH_take (v:=v) ho hs hfree hrd (fun c a w hq=>absurd hq (hpan _ _ _)) hY hJw ?_
     have hput:Inv E.toCx w0 G (st.put (some d) tv) (a.put o.dst v) w S pls X:=by
      rw [hdst]
      exact hI.put (fun d' e=>by cases e;exact hlt) hv
     have hdm:d∈dsts ops.toList:=by
      simp only [dsts,List.mem_filterMap]
      exact ⟨o,by have:=Array.mem_of_getElem? ho;simpa using this,hdst⟩
     refine ih f h (by simp [hsz]) (hc.add hrd') (by omega) hput ?_ ?_
     ·intro t ht
      obtain ⟨e1,e2⟩:=hfr t ht
      refine ⟨?_,?_⟩
      ·rw [act_put ?_]
       ·exact e1
       ·intro e
        rw [hdst] at e;cases e
        exact ht hdm
      ·rw [put_other (fun e=>ht (by rw [e];exact hdm))]
       exact e2
     ·intro fuel' listed' a' hsz' hc' hf' hl' hI' hfr'
      refine hend fuel' hsz' hc' hf' (fun j=>?_) hI' hfr'
      rw [hl' j,set_getD]
      by_cases e:i=j
      ·subst e
       rw [if_pos ⟨rfl,by omega⟩]
       simp [hilt]
      ·rw [if_neg (by simp [e])]
       have:¬ j=i:=fun h=>e h.symm
       simp [this]
  ·rename_i hcan
   rw [if_neg hcan] at hend
   exact ih fuel h hsz hc hf hI hfr hend
theorem floats_sub (ops:Array Oper):∀ (is:List Nat) (listed:Array Bool) (i:Nat),i∈floats ops is listed→i∈is:=by
 intro is
 induction is with
 | nil=>intro listed i h;simp [floats] at h
 | cons k is ih =>
  intro listed i h
  simp only [floats] at h
  split at h
  ·simp only [List.mem_cons] at h ⊢
   rcases h with h | h
   ·exact .inl h
   ·exact .inr (ih _ _ h)
  ·simp only [List.mem_cons];exact .inr (ih _ _ h)
theorem Inv.killL {C:Cx}{w0 w:World}{G:Blk}{a:Act}{S:Stab}{pls:Nat→Pl}:∀ (hs:List Nat){st:St}{X:Nat→List Nat},Inv C w0 G st a w S pls X →
  ∃ X',Inv C w0 G (killL st hs) a w S pls X'∧(∀ i,i∈hs→X' i=[])∧(∀ i,i ∉ hs→X' i=X i)∧(∀ i,i∈hs→(Rf.killL st hs).roots i=none):=by
 intro hs
 induction hs with
 | nil=>intro st X hI;exact ⟨X,hI,by simp,fun _ _=>rfl,by simp⟩
 | cons i is ih =>
  intro st X hI
  obtain ⟨X',h1,h2,h3,h4⟩:=ih (hI.kill i)
  have hr0:∀ (is:List Nat) (st:St),st.roots i=none→(Rf.killL st is).roots i=none:=by
   intro is
   induction is with
   | nil=>intro st h;exact h
   | cons k is ih=>intro st h;exact ih (st.kill k) (by simp only [St.kill];split;rfl;exact h)
  refine ⟨X',h1,fun j hj=>?_,fun j hj=>?_,fun j hj=>?_⟩
  ·by_cases hm:j∈is
   ·exact h2 j hm
   ·simp only [List.mem_cons] at hj
    rcases hj with e | hj
    ·rw [h3 j hm,e,upd_same]
    ·exact absurd hj hm
  ·simp only [List.mem_cons,not_or] at hj
   rw [h3 j hj.2,upd_other _ _ hj.1]
  ·by_cases hm:j∈is
   ·exact h4 j hm
   ·simp only [List.mem_cons] at hj
    rcases hj with e | hj
    ·subst e;exact hr0 is _ (by simp [St.kill])
    ·exact absurd hj hm
theorem restL_spec {C:Cx}{w0 w w3:World}{G:Blk}{st:St}{a a3:Act}{S S3:Stab}{pls:Nat→Pl}{X:Nat→List Nat}{W:List Nat} (hI:Inv C w0 G st a w S pls X) (hSS:∀ m b,S m b→S3 m b) (hS:∀ m b,S m b→hp w3 b=hp w b)
  (hsz:w.heap.size≤w3.heap.size) (hfr:∀ t,t ∉ W→a3.tmps.getD t undef=a.tmps.getD t undef){R:Type}{K:St→Option R}{r:R} :
  ∀ (hs:List Nat){st3:St}{pls3:Nat→Pl}{X3:Nat→List Nat},hs.Nodup→(∀ id∈hs,∀ b∈X id,hp w3 b=hp w b∧(∀ m,¬ S3 m b)∧∀ j,b ∉ X3 j)→Inv C w0 G st3 a3 w3 S3 pls3 X3→restL W st hs st3 K=some r →
   ∃ st4 pls4 X4,K st4=some r∧Inv C w0 G st4 a3 w3 S3 pls4 X4:=by
 intro hs
 induction hs with
 | nil=>intro st3 pls3 X3 _ _ h3 h;exact ⟨st3,pls3,X3,h,h3⟩
 | cons id hs ih =>
  intro st3 pls3 X3 hnd hX h3 h
  simp only [restL] at h
  split at h
  ·rename_i rr hr h0
   have hX0:=hX id (by simp)
   have hrr:=hI.roots id rr hr
   have hrr3:RootRel S3 (hp w3) (pls id) rr (X id):=by
    obtain ⟨k,τ,x⟩:=rr
    cases k <;> cases hpl:pls id <;> rw [hpl] at hrr <;> simp only [RootRel] at hrr ⊢
    ·obtain ⟨vs,l,fp,h1,h2,h4⟩:=hrr
     refine ⟨vs,l,fp,h1.heap (fun B o' e=>(hX0 B ?_).1),(h2.heap hS (fun b hb=>(hX0 b (by rw [h4];simp [hb])).1)).stab hSS,h4⟩
     obtain ⟨_,_,rfl,_⟩:=h1
     simp only [sI,Prod.mk.injEq] at e
     rw [h4];simp [e.1]
    ·exact (hrr.heap hS (fun b hb=>(hX0 b hb).1)).stab hSS
   have n1:=h3.newRoot (d:=id) (r:=rr) (pl:=pls id) (Y:=X id) h0 hrr3 (fun b hb=>⟨Nat.lt_of_lt_of_le (hI.own id b hb).1 hsz,(hX0 b hb).2.1,(hI.own id b hb).2.2⟩) (hI.nd id) (fun j _ b hb=>(hX0 b hb).2.2 j) (fun hk=>hI.pin id rr hr hk)
   have n2:Inv C w0 G (rest1 W st st3 id rr) a3 w3 S3 (upd pls3 id (pls id)) (upd X3 id (X id)):=by
    refine n1.retmp0 rfl (fun t=>?_)
    have hold:=n1.tmps t
    simp only [rest1]
    split
    ·exact hold
    ·rename_i hW
     split
     ·rename_i v hv
      split
      ·rename_i href
       have ht:=hI.tmps t
       rw [hv,← hfr t (fun hm=>hW (List.elem_eq_true_of_mem hm))] at ht
       refine VRel.heap hI.roots hS hSS (fun i hi=>?_) ht
       rw [href] at hi
       cases hi
       exact ⟨by simp [hr],by rw [upd_same],fun b hb=>(hX0 b hb).1⟩
      ·exact hold
     ·exact hold
   have hnd':=List.nodup_cons.1 hnd
   refine ih hnd'.2 (fun i hi b hb=>?_) n2 h
   obtain ⟨e1,e2,e3⟩:=hX i (by simp [hi]) b hb
   refine ⟨e1,e2,fun j hj=>?_⟩
   by_cases e:j=id
   ·subst e
    rw [upd_same] at hj
    have hne:i≠j:=by rintro rfl;exact hnd'.1 hi
    exact hI.dis i j b hne hb hj
   ·rw [upd_other _ _ e] at hj;exact e3 j hj
  ·cases h
theorem draw_sound {P:Program}{E:Cz}{w0 w:World}{G:Blk}{st:St}{a:Act}{S:Stab}{pls:Nat→Pl}{X:Nat→List Nat}{ops:Array Oper} (hE:EnvOK P E) (hm:P.follows .mixedOrders=true){R:Type}{id:Nat}
  {K:St→Option R}{r:R}{Q:Exit→Act→World→Prop} (hpan:∀ c a w,¬ Q (.panic c) a w) (hI:Inv E.toCx w0 G st a w S pls X) (h:drawK E ops st K=some r)
  (hQ:∀ st' a' w',K st'=some r→Fits E.toCx w0 G S w st' a' w'→(∀ t,t ∉ dsts ops.toList→a'.tmps.getD t undef=a.tmps.getD t undef)→Q .normal a' w'):(Code.region id ops true).wp P Q a w:=by
 unfold drawK at h
 split at h
 ·rename_i hc
  generalize hmm:freeN E ops.toList=m at h hc
  obtain ⟨hc1,hc2,hc3⟩:=hc
  have hO:=order_of hc1
  have hFm:∀ i∈flo ops m,m≤i∧i<ops.size:=fun i hi=>by
   have:=floats_sub ops _ _ i hi
   simp only [List.mem_filter,List.mem_range,Nat.ble_eq] at this
   exact ⟨this.2,this.1⟩
  obtain ⟨stF,hsF,htr,h⟩:=floatK_tr h
  have hnd:=htr.nodup (by simp)
  have hI':Inv E.toCx w0 G st a w.drew S pls X:=hI.drew
  -- what all worlds of the region have in common
  let J:World→Prop:=fun w'=>w.drew.heap.size≤w'.heap.size∧(∀ m b,S m b→hp w' b=hp w.drew b)∧∀ id∈hsF,∀ b∈X id,hp w' b=hp w.drew b
  have hJ0:J w.drew:=⟨Nat.le_refl _,fun _ _ _=>rfl,fun _ _ _ _=>rfl⟩
  refine wp_region_held (S:=J) hm ?_
  have hst:∀ t,t ∉ dsts ops.toList→st.tmps t=stF.tmps t:=by
   have:∀ {is hs hsF:List Nat}{st stF:St},FTr E ops is st hs stF hsF→∀ t,t ∉ dsts ops.toList→st.tmps t=stF.tmps t:=by
    intro is hs hsF st stF h
    induction h with
    | nil=>exact fun _ _=>rfl
    | @cons i d _ _ _ _ _ o tv ho hd _ _ _ ih =>
     intro t ht
     rw [← ih t ht,put_other]
     rintro rfl
     apply ht
     simp only [dsts,List.mem_filterMap]
     exact ⟨o,by have:=Array.mem_of_getElem? ho;simpa using this,hd⟩
   exact this htr
  refine float_sound (w:=w.drew) (a0:=a) hE.tab hc3 hpan hJ0 (fun w' h=>⟨h.2.1,h.2.2⟩) _ ops.size htr (by simp) ?_ ?_ hI' (fun t ht=>⟨rfl,hst t ht⟩) ?_
  ·intro k o ho hk
   rw [getD_rep] at hk;cases hk
  ·unfold left
   refine Nat.le_trans (List.length_filter_le _ _) ?_
   simp
  ·intro fuel listed' a0 hsz' hcl hf' hl' hI0 hfr0
   obtain ⟨Xk,hIk,hk1,hk2,hk3⟩:=hI0.killL hsF
   have hXk:∀ i b,b∈Xk i→b∈X i∧i ∉ hsF:=by
    intro i b hb
    by_cases hmm:i∈hsF
    ·rw [hk1 i hmm] at hb;cases hb
    ·rw [hk2 i hmm] at hb;exact ⟨hb,hmm⟩
   have hIh:=hIk.here
   have hJ:∀ {st:St}{a:Act}{w':World}{S:Stab}{pls:Nat→Pl}{X:Nat→List Nat},Inv E.toCx w.drew (owned G Xk) st a w' S pls X→J w':=by
    intro st a w' S' pls' X' hI2
    refine ⟨hI2.frm.size,fun m b hb=>hI2.frm.block b (hI0.stab m b hb) ?_,fun i hi b hb=>hI2.frm.block b (hI0.own i b hb).1 ?_⟩
    ·rintro ⟨j,hj⟩
     exact (hI0.own j b (hXk j b hj).1).2.1 m hb
    ·rintro ⟨j,hj⟩
     obtain ⟨e1,e2⟩:=hXk j b hj
     have hne:i≠j:=by rintro rfl;exact e2 hi
     exact hI0.dis i j b hne hb e1
   obtain ⟨tvs,st1,htr2,h2⟩:=opsD_tr _ _ _ h
   have hl2:∀ j,j<ops.size→listed'.getD j false=(flo ops m).elem j:=fun j hj=>by
    rw [hl' j,getD_rep];simp [hj,flo]
   refine any_quiet (w:=w.drew) (S:=S) (w0:=w.drew) (G:=owned G Xk) hJ hE hO (fun i hi=>(hFm i hi).1) hc2 htr2 (a0:=a) ?_ fuel hsz' hcl (fun j hj hjs=>hl2 j hjs) hf' ⟨rfl,fun _ _=>rfl,fun j oj tvj t hj hoj=>?_⟩ ⟨S,pls,Xk,hIh,Grows.refl⟩ hfr0
   ·rintro a' w' ⟨S1,pls1,X1,hI1,hg1⟩ hfr
    refine wpL_mono _ ?_ (opsK_sound hE hJ _ _ _ h2 hI1)
    rintro a2 w2 ⟨st2,k1,⟨S2,pls2,X2,hI2,hg2⟩,k3,_⟩
    have hg:=hg1.trans hg2
    have hback:=hIk.back hI2
    have hfr2:∀ t,t ∉ dsts ops.toList→a2.tmps.getD t undef=a.tmps.getD t undef:=by
     intro t ht
     rw [k3 t ?_]
     ·exact hfr t ht
     ·intro hm
      apply ht
      simp only [dsts,List.mem_filterMap] at hm ⊢
      obtain ⟨o,⟨i,_,ho⟩,hd⟩:=hm
      exact ⟨o,by have:=Array.mem_of_getElem? ho;simpa using this,hd⟩
    obtain ⟨j1,j2,j3⟩:=hJ hI2
    have hdd:∀ i∈hsF,∀ b∈X i,hp w2 b=hp w.drew b∧(∀ m,¬ S2 m b)∧∀ j,b ∉ X2 j:=by
     intro i hi b hb
     refine ⟨j3 i hi b hb,fun m hm=>?_,fun j hj=>?_⟩
     ·rcases hg.any m b hm with ⟨m',h⟩ | h | ⟨j,hj⟩
      ·exact (hI0.own i b hb).2.1 m' h
      ·have:=(hI0.own i b hb).1;omega
      ·obtain ⟨e1,e2⟩:=hXk j b hj
       have hne:i≠j:=by rintro rfl;exact e2 hi
       exact hI0.dis i j b hne hb e1
     ·rcases (hI2.own j b hj).2.2 with h | ⟨j',hj'⟩
      ·have:=(hI0.own i b hb).1;omega
      ·obtain ⟨e1,e2⟩:=hXk j' b hj'
       have hne:i≠j':=by rintro rfl;exact e2 hi
       exact hI0.dis i j' b hne hb e1
    obtain ⟨st4,pls4,X4,q1,q2⟩:=restL_spec (W:=dsts ops.toList) hI0 hg.more hg.still hI2.frm.size (fun t ht=>by rw [hfr2 t ht,hfr0 t ht]) hsF hnd hdd hback k1
    refine hQ st4 a2 w2 q1 ⟨S2,pls4,X4,q2,hg.more,fun m b hb=>hg.still m b hb,fun b hb=>?_,fun m b hb=>?_⟩ hfr2
    ·rcases hg.new b hb with h | h | ⟨j,hj⟩
     ·exact .inl h
     ·exact .inr (.inl (Nat.le_trans hI.frm.size h))
     ·exact .inr (hI0.own j b (hXk j b hj).1).2.2
    ·rcases hg.any m b hb with h | h | ⟨j,hj⟩
     ·exact .inl h
     ·exact .inr (.inl (Nat.le_trans hI.frm.size h))
     ·exact .inr (hI0.own j b (hXk j b hj).1).2.2
   ·have hjl:=(List.getElem?_eq_some_iff.1 hoj).1
    simp only [List.length_take] at hjl
    rw [hl2 j (by simp at hjl;omega)] at hj
    have:=(hFm j (List.mem_of_elem_eq_true hj)).1
    omega
 ·cases h
end Go.Rf
