/-
  A symbolic evaluator of the model's code, fifth part: code, functions; what came in is opened; the step of a law's row; of whatever program.
-/
import Derived.Test.YtcgneindmpkhgaaGreatDoorRRfE
import Derived.Test.YtcgneindmpkhgaaGreatDoorRRfC
import Derived.ChangeArms
import Derived.WalkKit
import Derived.ProofKit
import Derived.OpenShut
import Derived.ShutString
import Derived.ChangeOld
import Derived.Below
import Derived.Carry
import Derived.LaidLaws
set_option linter.unusedSimpArgs false
set_option linter.unusedVariables false
set_option autoImplicit false
namespace Go.Rf
inductive Step (A B C:Type) where
 | more (x:A)
 | done (x:B)
 | ret (x:C)
def iter {A B C:Type} (f:A→Option (Step A B C)):Nat→A→Option (B ⊕ C)
 | 0,_=>none
 | n+1,x=>match f x with
  | none=>none
  | some (.more y)=>iter f n y
  | some (.done b)=>some (.inl b)
  | some (.ret c)=>some (.inr c)
inductive Ex where
 | norm
 | exit (id:Nat)
 | ret
def Ex.to:Ex→Exit
 | .norm=>.normal
 | .exit id=>.exit id
 | .ret=>.ret
structure LoopAn where
 head:List Slot
 out:List Slot
 W:List Nat
structure An where
 join:Nat→Option (List Slot×List Nat)
 loop:Nat→Option LoopAn
 ret:List Slot
 frz:Nat→Option Nat:=fun _=>none
def frzK (st:St) (t:Nat):St :=
 match st.tmps t with
 | .a (.ref i [])=>match st.roots i with
  | some ⟨.val false,_,_⟩=>freeze st i
  | _=>st
 | .a (.ptr i [])=>match st.roots i with
  | some ⟨.box false,_,_⟩=>freeze st i
  | _=>st
 | _=>st
def wr:Code→List Nat
 | .region _ ops _=>dsts ops.toList
 | .seq a b=>wr a++wr b
 | .cond _ a b=>wr a++wr b
 | .block _ c=>wr c
 | .loop c=>wr c
 | _=>[]
def subW (a b:List Nat):Bool:=a.all fun t=>b.elem t
def joinAt (A:An):Operand→Option (List Slot×List Nat)
 | .tmp t=>A.join t
 | _=>none
def stays:List Nat→Code→Bool
 | _,.ret=>false
 | b,.exit id=>b.elem id
 | b,.seq x y=>stays b x && stays b y
 | b,.cond _ x y=>stays b x && stays b y
 | b,.block id c=>stays (id::b) c
 | b,.loop c=>stays b c
 | _,_=>true
def evalK (E:Cz) (A:An) (N:Nat):Code→{R:Type}→St→(Ex→St→Option R)→Option R
 | .skip,_,st,K=>K .norm st
 | .region id ops d,_,st,K=>match A.frz id with
  | none=>if d=true then drawA E ops st (K .norm) else opsK E ops (ops.size+ops.size) [] ops.toList st (K .norm)
  | some t=>if d=true then drawA E ops (frzK st t) (K .norm) else opsK E ops (ops.size+ops.size) [] ops.toList (frzK st t) (K .norm)
 | .seq x y,_,st,K=>evalK E A N x st fun e st'=>match e with
  | .norm=>evalK E A N y st' K
  | e=>K e st'
 | .cond c x y,_,st,K=>match opnd st c with
  | .a (.v .bool t)=>match (bif stays [] x && stays [] y then joinAt A c else none) with
   | none=>if t=true then evalK E A N x st K else evalK E A N y st K
   | some (sl,W)=>if subW (wr x++wr y) W=true then
     (if t=true then evalK E A N x st (fun e st'=>match e with | .norm=>slots E.n st' sl | _=>none)
      else evalK E A N y st (fun e st'=>match e with | .norm=>slots E.n st' sl | _=>none)).bind fun v =>
       K .norm (mkSt sl v (base W st))
    else none
  | _=>none
 | .block id (.loop c),_,st,K=>match A.loop id with
  | none=>none
  | some L=>if subW (wr c) L.W=true then
    (slots E.n st L.head).bind fun x =>
     (iter (fun x=>evalK E A N c (mkSt L.head x (base L.W st)) fun e st'=>match e with
      | .norm=>(slots E.n st' L.head).bind fun y=>some (Step.more y)
      | .exit i=>if i=id then (slots E.n st' L.out).bind fun y=>some (Step.done y) else none
      | .ret=>(slots E.n st' A.ret).bind fun y=>some (Step.ret y)) N x).bind fun r=>match r with
       | .inl y=>K .norm (mkSt L.out y (base L.W st))
       | .inr y=>K .ret (mkSt A.ret y (base L.W st))
   else none
 | .block id c,_,st,K=>evalK E A N c st fun e st'=>match e with
  | .exit i=>if i=id then K .norm st' else K (.exit i) st'
  | e=>K e st'
 | .exit id,_,st,K=>K (.exit id) st
 | .ret,_,st,K=>K .ret st
 | _,_,_,_=>none
section
variable {P:Program}{E:Cz}{w0 w w':World}{G:Blk}{st st':St}{a:Act}{S:Stab}{pls:Nat→Pl}{X:Nat→List Nat}
def PostC (E:Cz) (w0:World) (G:Blk) (S:Stab) (w:World) (a:Act) (W:List Nat){R:Type} (K:Ex→St→Option R) (r:R) (e':Exit) (a':Act) (w':World):Prop :=
 ∃ e st',e'=Ex.to e∧K e st'=some r∧Fits E.toCx w0 G S w st' a' w'∧∀ t,t ∉ W→a'.tmps.getD t undef=a.tmps.getD t undef
theorem subW_mem {x y:List Nat} (h:subW x y=true){t:Nat} (ht:t∈x):t∈y:=by
 have:=List.all_eq_true.1 h t ht
 exact List.mem_of_elem_eq_true this
noncomputable def least (p:Nat→Prop):Nat:=by
 classical exact if h:∃ n,p n∧∀ m,p m→n≤m then h.choose else 0
theorem least_spec {p:Nat→Prop}{n:Nat} (h:p n):p (least p)∧∀ m,p m→least p≤m:=by
 have key:∀ n,p n→∃ k,p k∧∀ m,p m→k≤m:=by
  intro n
  induction n using Nat.strongRecOn with
  | _ n ih =>
   intro h
   by_cases hn:∃ m,m<n∧p m
   ·obtain ⟨m,hm,hp⟩:=hn;exact ih m hm hp
   ·exact ⟨n,h,fun m hm=>by
     rcases Nat.lt_or_ge m n with h' | h'
     ·exact absurd ⟨m,h',hm⟩ hn
     ·exact h'⟩
 have hex:=key n h
 unfold least
 rw [dif_pos hex]
 exact hex.choose_spec
theorem wp_loop_n {Q:Exit→Act→World→Prop}{c:Code} (J:Nat→Act→World→Prop){n:Nat} (h0:J n a w)
  (round:∀ n a w,J n a w→c.wp P (Exit.then (fun a' w'=>∃ m,m<n∧J m a' w') Q) a w):(Code.loop c).wp P Q a w:=by
 refine wp_loop (fun a w=>∃ n,J n a w) (fun a w=>least fun n=>J n a w) ⟨n,h0⟩ ?_
 rintro a w ⟨n,h⟩
 obtain ⟨h1,_⟩:=least_spec (p:=fun n=>J n a w) h
 refine wp_mono (round _ a w h1) ?_
 intro e a' w' he
 cases e with
 | normal =>
  obtain ⟨m,hm,hj⟩:=he
  exact ⟨⟨m,hj⟩,Nat.lt_of_le_of_lt ((least_spec (p:=fun n=>J n a' w') hj).2 m hj) hm⟩
 | _=>exact he
theorem region_sound (hE:EnvOK P E) (hm:P.follows .mixedOrders=true){R:Type}{id:Nat}{ops:Array Oper}{K:Ex→St→Option R}{r:R} (hI:Inv E.toCx w0 G st a w S pls X)
  (h:opsK E ops (ops.size+ops.size) [] ops.toList st (K .norm)=some r):(Code.region id ops false).wp P (PostC E w0 G S w a (dsts ops.toList) K r) a w:=by
 refine wpL_region (wpL_mono _ ?_ (opsK_sound hE (J:=fun _=>True) (fun _=>trivial) _ _ _ h hI))
 rintro a' w' ⟨st',h1,h2,h3,_⟩
 exact ⟨.norm,st',rfl,h1,h2,h3⟩
theorem PostC.mono {S1:Stab}{w1:World}{a1 a':Act}{W W':List Nat}{R:Type}{K:Ex→St→Option R}{r:R}{e':Exit} (hg:Grows w0 G S S1 w w1) (hW:∀ t,t ∉ W'→t ∉ W∧a1.tmps.getD t undef=a.tmps.getD t undef)
  (h:PostC E w0 G S1 w1 a1 W K r e' a' w'):PostC E w0 G S w a W' K r e' a' w':=by
 obtain ⟨e,st',h1,h2,⟨S',pls',X',hI,hg'⟩,h3⟩:=h
 exact ⟨e,st',h1,h2,⟨S',pls',X',hI,hg.trans hg'⟩,fun t ht=>(h3 t (hW t ht).1).trans (hW t ht).2⟩
theorem frzK_inv {C:Cx} (hI:Inv C w0 G st a w S pls X) (t:Nat):∃ S' X',Inv C w0 G (frzK st t) a w S' pls X'∧Grows w0 G S S' w w:=by
 have key:∀ {i:Nat}{r:Root},st.roots i=some r→∃ S' X',Inv C w0 G (freeze st i) a w S' pls X'∧Grows w0 G S S' w w:=by
  intro i r hr
  refine ⟨_,_,hI.freeze hr,⟨fun _ _ h=>.inl h,fun _ _ _=>rfl,fun b hb=>?_,fun m b hb=>?_⟩⟩
  ·rcases hb with h | h
   ·exact .inl h
   ·exact .inr (hI.own i b h).2.2
  ·rcases hb with h | h
   ·exact .inl ⟨_,h⟩
   ·exact .inr (hI.own i b h).2.2
 unfold frzK
 split
 ·split
  ·rename_i hr;exact key hr
  ·exact ⟨S,X,hI,Grows.refl⟩
 ·split
  ·rename_i hr;exact key hr
  ·exact ⟨S,X,hI,Grows.refl⟩
 ·exact ⟨S,X,hI,Grows.refl⟩
def Snd (P:Program) (E:Cz) (w0:World) (G:Blk) (A:An) (N:Nat) (c:Code):Prop :=
 ∀ {R:Type}{st:St}{K:Ex→St→Option R}{r:R}{a:Act}{w:World}{S:Stab}{pls:Nat→Pl}{X:Nat→List Nat},
  evalK E A N c st K=some r→Inv E.toCx w0 G st a w S pls X→c.wp P (PostC E w0 G S w a (wr c) K r) a w
theorem loop_sound (A:An) (N:Nat){id:Nat}{c:Code} (ih:Snd P E w0 G A N c){R:Type}{K:Ex→St→Option R}{r:R} (hI:Inv E.toCx w0 G st a w S pls X)
  (h:evalK E A N (.block id (.loop c)) st K=some r):(Code.block id (.loop c)).wp P (PostC E w0 G S w a (wr c) K r) a w:=by
 simp only [evalK] at h
 split at h
 ·cases h
 ·rename_i L hL
  split at h
  ·rename_i hsub
   obtain ⟨x,h1,h⟩:=Option.bind_eq_some_iff.1 h
   obtain ⟨res,h2,h3⟩:=Option.bind_eq_some_iff.1 h
   have hbase:=base_rel hI L.W
   have frame:∀ {S2:Stab}{w2:World}{a2:Act},Grows w0 G S S2 w w2→(∀ t,t ∉ wr c→a2.tmps.getD t undef=a.tmps.getD t undef)→BaseRel S2 (hp w2) a2 (base L.W st) :=
    fun hg ha=>hbase.later hg (fun t ht=>ha t (fun hm=>base_junk ht (subW_mem hsub hm)))
   have key:∀ f:LD (tys L.head)→Option (Step (LD (tys L.head)) (LD (tys L.out)) (LD (tys A.ret))),iter f N x=some res →
     (∀ y z,f y=some z→(evalK E A N c (mkSt L.head y (base L.W st)) fun e st'=>match e with
      | .norm=>(slots E.n st' L.head).bind fun y=>some (Step.more y)
      | .exit i=>if i=id then (slots E.n st' L.out).bind fun y=>some (Step.done y) else none
      | .ret=>(slots E.n st' A.ret).bind fun y=>some (Step.ret y))=some z)→(Code.block id (.loop c)).wp P (PostC E w0 G S w a (wr c) K r) a w:=by
    intro f hN hf
    refine wp_block (wp_loop_n (fun n a' w'=>∃ y S' pls' X',iter f n y=some res∧Inv E.toCx w0 G (mkSt L.head y (base L.W st)) a' w' S' pls' X'∧Grows w0 G S S' w w'∧∀ t,t ∉ wr c→a'.tmps.getD t undef=a.tmps.getD t undef) (n:=N) ?_ ?_)
    ·obtain ⟨pls1,X1,hI1⟩:=slots_spec hI h1 hbase
     exact ⟨x,S,pls1,X1,hN,hI1,Grows.refl,fun _ _=>rfl⟩
    ·rintro n a1 w1 ⟨y,S1,pls1,X1,hit,hI1,hg1,ha1⟩
     cases n with
     | zero=>simp [iter] at hit
     | succ n =>
      simp only [iter] at hit
      split at hit
      ·cases hit
      ·rename_i z hz
       have hz:=hf _ _ hz
       refine wp_mono (ih hz hI1) ?_
       rintro e' a2 w2 ⟨e,st2,rfl,k1,⟨S2,pls2,X2,hI2,hg2⟩,k3⟩
       cases e with
       | norm =>
        obtain ⟨z',q1,q2⟩:=Option.bind_eq_some_iff.1 k1
        cases q2
        obtain ⟨pls3,X3,hI3⟩:=slots_spec hI2 q1 (frame (hg1.trans hg2) (fun t ht=>(k3 t ht).trans (ha1 t ht)))
        exact ⟨n,Nat.lt_succ_self n,_,S2,pls3,X3,hit,hI3,hg1.trans hg2,fun t ht=>(k3 t ht).trans (ha1 t ht)⟩
       | exit i =>
        simp only at k1
        split at k1
        ·obtain ⟨z',q1,q2⟩:=Option.bind_eq_some_iff.1 k1
         cases q2
        ·cases k1
       | ret =>
        obtain ⟨z',q1,q2⟩:=Option.bind_eq_some_iff.1 k1
        cases q2
      ·rename_i z hz
       have hz:=hf _ _ hz
       cases hit
       refine wp_mono (ih hz hI1) ?_
       rintro e' a2 w2 ⟨e,st2,rfl,k1,⟨S2,pls2,X2,hI2,hg2⟩,k3⟩
       cases e with
       | norm =>
        obtain ⟨z',q1,q2⟩:=Option.bind_eq_some_iff.1 k1
        cases q2
       | exit i =>
        simp only at k1
        split at k1
        ·rename_i hi
         subst hi
         obtain ⟨z',q1,q2⟩:=Option.bind_eq_some_iff.1 k1
         cases q2
         obtain ⟨pls3,X3,hI3⟩:=slots_spec hI2 q1 (frame (hg1.trans hg2) (fun t ht=>(k3 t ht).trans (ha1 t ht)))
         simp only [Ex.to,Exit.then,Exit.inBlock,if_true]
         exact ⟨.norm,_,rfl,h3,⟨S2,pls3,X3,hI3,hg1.trans hg2⟩,fun t ht=>(k3 t ht).trans (ha1 t ht)⟩
        ·cases k1
       | ret =>
        obtain ⟨z',q1,q2⟩:=Option.bind_eq_some_iff.1 k1
        cases q2
      ·rename_i z hz
       have hz:=hf _ _ hz
       cases hit
       refine wp_mono (ih hz hI1) ?_
       rintro e' a2 w2 ⟨e,st2,rfl,k1,⟨S2,pls2,X2,hI2,hg2⟩,k3⟩
       cases e with
       | norm =>
        obtain ⟨z',q1,q2⟩:=Option.bind_eq_some_iff.1 k1
        cases q2
       | exit i =>
        simp only at k1
        split at k1
        ·obtain ⟨z',q1,q2⟩:=Option.bind_eq_some_iff.1 k1
         cases q2
        ·cases k1
       | ret =>
        obtain ⟨z',q1,q2⟩:=Option.bind_eq_some_iff.1 k1
        cases q2
        obtain ⟨pls3,X3,hI3⟩:=slots_spec hI2 q1 (frame (hg1.trans hg2) (fun t ht=>(k3 t ht).trans (ha1 t ht)))
        exact ⟨.ret,_,rfl,h3,⟨S2,pls3,X3,hI3,hg1.trans hg2⟩,fun t ht=>(k3 t ht).trans (ha1 t ht)⟩
   exact key _ h2 (fun y z hz=>hz)
  ·cases h
theorem sound2 (hE:EnvOK P E) (hm:P.follows .mixedOrders=true) (A:An) (N:Nat):∀ c:Code,Snd P E w0 G A N c∧∀ c',c=.loop c'→Snd P E w0 G A N c':=by
 intro c
 induction c with
 | skip=>refine ⟨?_,fun c' e=>by cases e⟩;intro R st K r a w S pls X h hI;exact wp_skip ⟨.norm,st,rfl,h,⟨S,pls,X,hI,Grows.refl⟩,fun _ _=>rfl⟩
 | exit id=>refine ⟨?_,fun c' e=>by cases e⟩;intro R st K r a w S pls X h hI;exact wp_exit ⟨.exit id,st,rfl,h,⟨S,pls,X,hI,Grows.refl⟩,fun _ _=>rfl⟩
 | ret=>refine ⟨?_,fun c' e=>by cases e⟩;intro R st K r a w S pls X h hI;exact wp_ret ⟨.ret,st,rfl,h,⟨S,pls,X,hI,Grows.refl⟩,fun _ _=>rfl⟩
 | region id ops d =>
  refine ⟨?_,fun c' e=>by cases e⟩
  intro R st K r a w S pls X h hI
  simp only [evalK] at h
  have key:∀ {st:St}{S:Stab}{X:Nat→List Nat},Inv E.toCx w0 G st a w S pls X→(if d=true then drawA E ops st (K .norm) else opsK E ops (ops.size+ops.size) [] ops.toList st (K .norm))=some r→(Code.region id ops d).wp P (PostC E w0 G S w a (wr (.region id ops d)) K r) a w:=by
   intro st S X hI h1
   clear h
   split at h1
   ·rename_i hd
    subst hd
    exact drawA_sound hE hm (fun c a w hq=>by obtain ⟨e,st',he,_⟩:=hq;cases e <;> cases he) hI h1 (fun st' a' w' h1 h2 h3=>⟨.norm,st',rfl,h1,h2,h3⟩)
   ·rename_i hd
    have hd:d=false:=by simpa using hd
    subst hd
    exact region_sound hE hm hI h1
  split at h
  ·exact key hI h
  ·rename_i t _
   obtain ⟨S1,X1,hI1,hg1⟩:=frzK_inv hI t
   exact wp_mono (key hI1 h) (fun e' a' w' hp=>hp.mono hg1 (fun t ht=>⟨ht,rfl⟩))
 | seq x y ihx ihy =>
  refine ⟨?_,fun c' e=>by cases e⟩
  intro R st K r a w S pls X h hI
  simp only [evalK] at h
  refine wp_seq (wp_mono (ihx.1 h hI) ?_)
  rintro e' a1 w1 ⟨e,st1,rfl,h1,⟨S1,pls1,X1,hI1,hg⟩,h3⟩
  cases e with
  | norm =>
   refine wp_mono (ihy.1 h1 hI1) ?_
   intro e' a' w' hp
   refine hp.mono hg (fun t ht=>?_)
   simp only [wr,List.mem_append,not_or] at ht
   exact ⟨ht.2,h3 t ht.1⟩
  | exit id=>exact ⟨.exit id,st1,rfl,h1,⟨S1,pls1,X1,hI1,hg⟩,fun t ht=>h3 t (by simp only [wr,List.mem_append,not_or] at ht;exact ht.1)⟩
  | ret=>exact ⟨.ret,st1,rfl,h1,⟨S1,pls1,X1,hI1,hg⟩,fun t ht=>h3 t (by simp only [wr,List.mem_append,not_or] at ht;exact ht.1)⟩
 | cond c x y ihx ihy =>
  refine ⟨?_,fun c' e=>by cases e⟩
  intro R st K r a w S pls X h hI
  simp only [evalK] at h
  split at h
  ·rename_i t e
   have hc:=hI.opnd c
   rw [e] at hc
   obtain ⟨vs,hv,⟨rfl,_⟩⟩:=hc
   have hv:a.eval c=.bool t:=hv
   split at h
   ·refine wp_cond hv ?_
    cases t with
    | true =>
     rw [if_pos rfl] at h ⊢
     refine wp_mono (ihx.1 h hI) (fun e' a' w' hp=>hp.mono Grows.refl (fun t ht=>?_))
     simp only [wr,List.mem_append,not_or] at ht
     exact ⟨ht.1,rfl⟩
    | false =>
     rw [if_neg (by simp)] at h ⊢
     refine wp_mono (ihy.1 h hI) (fun e' a' w' hp=>hp.mono Grows.refl (fun t ht=>?_))
     simp only [wr,List.mem_append,not_or] at ht
     exact ⟨ht.2,rfl⟩
   ·rename_i sl W hj
    split at h
    ·rename_i hsub
     obtain ⟨v,h1,h2⟩:=Option.bind_eq_some_iff.1 h
     have fin:∀ (c':Code) (e':Exit) (a':Act) (w':World),(∀ t,t∈wr c'→t∈wr x++wr y) →
       PostC E w0 G S w a (wr c') (fun e st'=>match e with | .norm=>slots E.n st' sl | _=>none) v e' a' w'→PostC E w0 G S w a (wr x++wr y) K r e' a' w':=by
      rintro c' e' a' w' hin ⟨e2,st2,rfl,k1,⟨S2,pls2,X2,hI2,hg2⟩,k3⟩
      cases e2 with
      | norm =>
       have hb:BaseRel S2 (hp w') a' (base W st):=(base_rel hI W).later hg2 (fun t ht=>k3 t (fun hm=>base_junk ht (subW_mem hsub (hin t hm))))
       obtain ⟨pls3,X3,hI3⟩:=slots_spec hI2 k1 hb
       exact ⟨.norm,_,rfl,h2,⟨S2,pls3,X3,hI3,hg2⟩,fun t ht=>k3 t (fun hm=>ht (hin t hm))⟩
      | exit _=>cases k1
      | ret=>cases k1
     refine wp_cond hv ?_
     cases t with
     | true =>
      rw [if_pos rfl] at h1 ⊢
      exact wp_mono (ihx.1 h1 hI) (fun e' a' w' hp=>fin x e' a' w' (fun t ht=>List.mem_append_left _ ht) hp)
     | false =>
      rw [if_neg (by simp)] at h1 ⊢
      exact wp_mono (ihy.1 h1 hI) (fun e' a' w' hp=>fin y e' a' w' (fun t ht=>List.mem_append_right _ ht) hp)
    ·cases h
  ·cases h
 | block id c ih =>
  refine ⟨?_,fun c' e=>by cases e⟩
  intro R st K r a w S pls X h hI
  have key:(∀ c',c≠.loop c')→(Code.block id c).wp P (PostC E w0 G S w a (wr c) K r) a w:=by
   intro hc
   have h':(evalK E A N c st fun e st'=>match e with
     | .exit i=>if i=id then K .norm st' else K (.exit i) st'
     | e=>K e st')=some r:=by
    rw [← h]
    cases c <;> first | rfl | exact absurd rfl (hc _)
   refine wp_block (wp_mono (ih.1 h' hI) ?_)
   rintro e' a2 w2 ⟨e,st2,rfl,k1,k2,k3⟩
   cases e with
   | norm=>exact ⟨.norm,st2,rfl,k1,k2,k3⟩
   | ret=>exact ⟨.ret,st2,rfl,k1,k2,k3⟩
   | exit i =>
    simp only [Ex.to,Exit.inBlock]
    simp only at k1
    split at k1
    ·rename_i hi
     rw [if_pos hi]
     exact ⟨.norm,st2,rfl,k1,k2,k3⟩
    ·rename_i hi
     rw [if_neg hi]
     exact ⟨.exit i,st2,rfl,k1,k2,k3⟩
  cases c with
  | loop c=>exact loop_sound A N (ih.2 c rfl) hI h
  | _=>exact key (by intro c' e;cases e)
 | loop c ih=>refine ⟨?_,fun c' e=>by cases e;exact ih.1⟩;intro R st K r a w S pls X h hI;simp [evalK] at h
 | rangeFunc=>refine ⟨?_,fun c' e=>by cases e⟩;intro R st K r a w S pls X h hI;simp [evalK] at h
 | scope=>refine ⟨?_,fun c' e=>by cases e⟩;intro R st K r a w S pls X h hI;simp [evalK] at h
 | label=>refine ⟨?_,fun c' e=>by cases e⟩;intro R st K r a w S pls X h hI;simp [evalK] at h
 | goto=>refine ⟨?_,fun c' e=>by cases e⟩;intro R st K r a w S pls X h hI;simp [evalK] at h
 | refuse=>refine ⟨?_,fun c' e=>by cases e⟩;intro R st K r a w S pls X h hI;simp [evalK] at h
theorem evalK_sound (hE:EnvOK P E) (hm:P.follows .mixedOrders=true) (A:An) (N:Nat) (c:Code):Snd P E w0 G A N c:=(sound2 hE hm A N c).1
end
end Go.Rf
namespace Go.Rf
def junkT:Nat→TV:=fun _=>.a .junk
def evalF (E:Cz) (A:An) (N:Nat) (pl:List Slot) (c:Code) (x:LD (tys pl)):Option (LD (tys A.ret)) :=
 evalK E A N c (mkSt pl x junkT) fun e st'=>match e with
  | .exit _=>none
  | _=>slots E.n st' A.ret
def numbered:Nat→List Slot→Bool
 | _,[]=>true
 | i,s::l=>s.t == i && (match s.k with | .val=>s.τ.plain | .own io=>!io | .box _=>false | .look=>false) && numbered (i+1) l
def backOK:List Slot→Bool
 | []=>true
 | s::l=>s.τ.noLend && (match s.k with | .val=>s.τ.plain | .own _=>true | .box _=>true | .look=>false) && !((l.map (·.t)).elem s.t) && backOK l
def Hands (w:World) (a:Act) (s:Slot) (v:Value):Prop :=
 match s.k with
 | .box _=>∃ b off c el fr,a.tmps.getD s.t undef=.pointer (some ⟨b,off,none⟩)∧hp w b=some (.cells c el fr)∧off+s.τ.size≤c.size∧v=valOf s.τ ((c.toList.drop off).take s.τ.size)
 | _=>v=a.tmps.getD s.t undef
def HandsL (w:World) (a:Act):List Slot→List Value→Prop
 | [],[]=>True
 | s::l,v::vs=>Hands w a s v∧HandsL w a l vs
 | _,_=>False
theorem Rep.keep {S:Stab}{H:Heap}{T:Nat→Prop} (hT:∀ b,S .keep b→T b):∀ {τ:Ty}{vs:List Value}{x:τ.D}{f:List Nat},τ.noLend=true→Rep S H τ vs x f→Rep (fun _=>T) H τ vs x f:=by
 intro τ
 induction τ with
 | int k=>exact fun _ h=>h
 | bool=>exact fun _ h=>h
 | str=>exact fun _ h=>h
 | nil=>exact fun _ h=>h
 | dead=>exact fun _ h=>h
 | unit=>exact fun _ h=>h
 | clo g c _=>exact fun hn _=>by simp [Ty.noLend] at hn
 | pair a b iha ihb =>
  rintro vs x fp hn ⟨v1,v2,f1,f2,rfl,rfl,h1,h2⟩
  simp only [Ty.noLend,bA] at hn
  exact ⟨v1,v2,f1,f2,rfl,rfl,iha hn.1 h1,ihb hn.2 h2⟩
 | sl o e ih =>
  rintro vs x fp hn ⟨a,len,cap,rfl,hl,hc,hh⟩
  simp only [Ty.noLend,bA,bne_iff_ne,ne_eq] at hn
  refine ⟨a,len,cap,rfl,hl,hc,?_⟩
  rcases hh with h | ⟨b,off,c,el,fr,f2,rfl,hb,hsz,hr,h⟩
  ·exact .inl h
  ·refine .inr ⟨b,off,c,el,fr,f2,rfl,hb,hsz,Rows.mono (fun _ _ _=>ih hn.2) hr,?_⟩
   rcases h with ⟨h1,h2,h3⟩ | h
   ·refine .inl ⟨h1,hT _ ?_,h3⟩
    cases o with
    | own=>exact absurd rfl h1
    | keep=>exact h2
    | lend=>exact absurd rfl hn.1
   ·exact .inr h
theorem mkR_none:∀ (l:List Slot) (x:LD (tys l)){t:Nat},t ∉ l.map (·.t)→mkR l x t=none:=by
 intro l
 induction l with
 | nil=>intro x t _;rfl
 | cons s l ih =>
  intro x t h
  simp only [List.map_cons,List.mem_cons,not_or] at h
  simp only [mkR]
  rw [if_neg h.1]
  exact ih x.2 h.2
theorem numbered_t:∀ {l:List Slot}{i:Nat},numbered i l=true→∀ t∈l.map (·.t),i≤t:=by
 intro l
 induction l with
 | nil=>intro i _ t h;simp at h
 | cons s l ih =>
  intro i h t ht
  simp only [numbered,bA,beq_iff_eq] at h
  simp only [List.map_cons,List.mem_cons] at ht
  rcases ht with rfl | ht
  ·omega
  ·have:=ih h.2 t ht;omega
section
variable {P:Program}{C:Cx}{w0 w w':World}{G:Blk}{st st':St}{a:Act}{S:Stab}{pls:Nat→Pl}{X:Nat→List Nat}
theorem init_inv (hstab:∀ m b,S m b→b<w.heap.size) (hkl:∀ b,S .keep b→S .lend b) (hsz:a.tmps.size=C.n) (hdef:a.defers=[]) (hglb:(∀ b,b<C.V.n→S .lend b)∧C.V.holds w) (hG:∀ b,b<w.heap.size→(∀ m,¬ S m b)→b∈G→True) :
  ∀ (l:List Slot) (i:Nat) (vals:List Value) (x:LD (tys l)) (fp:List Nat),numbered i l=true→ArgsRel S (hp w) (tys l) vals x fp→fp.Nodup→(∀ b∈fp,b<w.heap.size∧(∀ m,¬ S m b)∧b∈G) →
   (∀ j v,vals[j]?=some v→a.tmps.getD (i+j) undef=v)→i+l.length≤C.n→∃ pls X,Inv C w G (mkSt l x junkT) a w S pls X∧∀ id b,b∈X id→b∈fp:=by
 intro l
 induction l with
 | nil =>
  intro i vals x fp _ _ _ _ _ _
  refine ⟨fun _=>default,fun _=>[],⟨⟨rfl,rfl,rfl,Nat.le_refl _,fun _ _ _=>rfl⟩,hstab,hkl,by simp,by simp,by simp,?_,?_,hsz,hdef,hglb,by intro id r h;simp [mkSt,mkR] at h⟩,by simp⟩
  ·intro id r h;simp [mkSt,mkR] at h
  ·intro t;exact trivial
 | cons s l ih =>
  intro i vals x fp hn ha hnd hfp hv hle
  cases vals with
  | nil=>simp [tys,ArgsRel] at ha
  | cons v vals =>
   obtain ⟨ws,f1,f2,rfl,hr,rfl,ha⟩:=ha
   have hn0:=hn
   simp only [numbered,bA,beq_iff_eq] at hn
   obtain ⟨⟨hi,hk⟩,hn⟩:=hn
   have hnd':=List.nodup_append.1 hnd
   obtain ⟨pls,X,hI,hX⟩:=ih (i+1) vals x.2 f2 hn ha hnd'.2.1 (fun b hb=>hfp b (by simp [hb])) (fun j v hj=>by have:=hv (j+1) v (by simpa using hj);rw [show i+1+j=i+(j+1) by omega];exact this) (by simp only [List.length_cons] at hle;omega)
   have hnone:mkR l x.2 s.t=none:=mkR_none l x.2 (fun hm=>by have:=numbered_t hn _ hm;omega)
   have hlt:s.t<C.n:=by simp only [List.length_cons] at hle;omega
   have hval:a.tmps.getD s.t undef=valOf s.τ ws:=by
    have:=hv 0 _ rfl
    rw [hi];simpa using this
   have hfree:Free w w G S X f1:=⟨fun b hb=>⟨(hfp b (by simp [hb])).1,(hfp b (by simp [hb])).2.1,.inr (hfp b (by simp [hb])).2.2⟩,hnd'.1,fun id b hb hb'=>hnd'.2.2 b hb b (hX id b hb') rfl⟩
   cases hsk:s.k with
   | box=>rw [hsk] at hk;cases hk
   | look=>rw [hsk] at hk;cases hk
   | val =>
    rw [hsk] at hk
    have hf:=hr.plain hk
    subst hf
    have e:mkSt (s::l) x junkT=(mkSt l x.2 junkT).put (some s.t) (.a (.v s.τ x.1)):=by
     simp only [mkSt,mkT,mkR,St.put,Slot.tv,Slot.rt,hsk]
     congr 1
     funext t
     split
     ·rename_i e;rw [e,hnone]
     ·rfl
    rw [e]
    exact ⟨pls,X,hI.repl hlt (by rw [hval];exact ⟨ws,rfl,hr⟩),fun id b hb=>by simpa using hX id b hb⟩
   | own io =>
    have hio:io=false:=by
     rw [hsk] at hk;simpa using hk
    subst hio
    obtain ⟨k1,k2⟩:=hI.newVal (d:=s.t) hnone hr hfree
    have e:mkSt (s::l) x junkT=((mkSt l x.2 junkT).root s.t ⟨.val false,s.τ,x.1⟩).put (some s.t) (.a (.ref s.t [])):=by
     simp only [mkSt,mkT,mkR,St.put,St.root,Slot.tv,Slot.rt,hsk]
    rw [e]
    refine ⟨_,_,k1.repl hlt (by rw [hval];exact k2),fun id b hb=>?_⟩
    by_cases e':id=s.t
    ·subst e';simp at hb;simp [hb]
    ·rw [upd_other _ _ e'] at hb;simp [hX id b hb]
theorem back_rel (hI:Inv C w0 G st a w S pls X){T:Nat→Prop} (hT:∀ b,S .keep b→T b):∀ (l:List Slot){x:LD (tys l)},backOK l=true→(∀ s∈l,s.t∈l.map (·.t)) →
  (∀ t,t∈l.map (·.t)→st.tmps t=mkT l x junkT t∧st.roots t=mkR l x t) →
  ∃ rv g,HandsL w a l rv∧ArgsRel (fun _=>T) (hp w) (tys l) rv x g∧g.Nodup∧(∀ b∈g,∃ t,t∈l.map (·.t)∧b∈X t):=by
 intro l
 induction l with
 | nil=>intro x _ _ _;exact ⟨[],[],trivial,rfl,by simp,by simp⟩
 | cons s l ih =>
  intro x hb _ hst
  simp only [backOK,bA,Bool.not_eq_true'] at hb
  obtain ⟨⟨⟨hnl,hk⟩,hdis⟩,hb⟩:=hb
  have hne:∀ t,t∈l.map (·.t)→t≠s.t:=by
   rintro t ht rfl
   rw [List.elem_eq_true_of_mem ht] at hdis
   cases hdis
  obtain ⟨rv,g,h0,h1,h2,h3⟩:=ih (x:=x.2) hb (fun s hs=>List.mem_map_of_mem hs) (fun t ht=>by
   obtain ⟨k1,k2⟩:=hst t (by simp only [List.map_cons,List.mem_cons];exact .inr ht)
   simp only [mkT,mkR,if_neg (hne t ht)] at k1 k2
   exact ⟨k1,k2⟩)
  obtain ⟨k1,k2⟩:=hst s.t (by simp)
  simp only [mkT,mkR,if_true] at k1 k2
  have hv:=hI.tmps s.t
  rw [k1] at hv
  cases hsk:s.k with
  | box =>
   simp only [Slot.tv,hsk] at hv
   simp only [Slot.rt,hsk] at k2
   obtain ⟨r,hr,σ,y,vs,l0,vs',b,off,g1,g2,g3,g4,g5⟩:=hv
   rw [k2] at hr;cases hr
   cases g1
   obtain ⟨rfl,rfl⟩:=g4
   have hrr:=hI.roots s.t _ k2
   cases hpl:pls s.t with
   | val us=>rw [hpl] at hrr;simp [RootRel] at hrr
   | mem B pre post el fr =>
    rw [hpl] at hrr g3
    obtain ⟨us,l',fp,q1,q2,q3⟩:=hrr
    obtain ⟨rfl,rfl⟩:=q1.det g3
    obtain ⟨e1,e2,e3,e4⟩:=g3
    cases e3
    have hval:(((pre++us++post).toArray.toList.drop pre.length).take s.τ.size)=us:=by
     have e2':us.length=s.τ.size:=e2
     simp [← e2']
    have hnd:=hI.nd s.t
    rw [q3] at hnd
    refine ⟨valOf s.τ us::rv,fp++g,⟨?_,h0⟩,⟨us,fp,g,rfl,q2.keep hT hnl,rfl,h1⟩,List.nodup_append.2 ⟨(List.nodup_cons.1 hnd).2,h2,?_⟩,?_⟩
    ·simp only [Hands,hsk]
     refine ⟨_,pre.length,_,el,fr,g5,e1,?_,by rw [hval]⟩
     have e2':us.length=s.τ.size:=e2
     simp;omega
    ·intro b hb b' hb' e
     subst e
     obtain ⟨t,ht,ht'⟩:=h3 b hb'
     exact hI.dis s.t t b (Ne.symm (hne t ht)) (by rw [q3];simp [hb]) ht'
    ·intro b hb
     simp only [List.mem_append] at hb
     rcases hb with hb | hb
     ·exact ⟨s.t,by simp,by rw [q3];simp [hb]⟩
     ·obtain ⟨t,ht,ht'⟩:=h3 b hb
      exact ⟨t,by simp only [List.map_cons,List.mem_cons];exact .inr ht,ht'⟩
  | look=>rw [hsk] at hk;cases hk
  | val =>
   simp only [Slot.tv,hsk] at hv
   obtain ⟨ws,e,hr⟩:=hv
   exact ⟨_::rv,g,⟨by simp [Hands,hsk],h0⟩,⟨ws,[],g,e,hr.keep hT hnl,rfl,h1⟩,h2,fun b hb=>by obtain ⟨t,ht,ht'⟩:=h3 b hb;exact ⟨t,by simp only [List.map_cons,List.mem_cons];exact .inr ht,ht'⟩⟩
  | own =>
   simp only [Slot.tv,hsk] at hv
   simp only [Slot.rt,hsk] at k2
   obtain ⟨r,hr,σ,y,vs,l0,vs',l',g1,g2,g3,g4,g5⟩:=hv
   rw [k2] at hr;cases hr
   cases g1
   obtain ⟨rfl,rfl⟩:=g4
   have hrr:=hI.roots s.t _ k2
   cases hpl:pls s.t with
   | mem=>rw [hpl] at hrr;simp [RootRel] at hrr
   | val us =>
    rw [hpl] at hrr g3
    obtain ⟨rfl,_⟩:=g3
    have hrr:Rep S (hp w) s.τ vs' x.1 (X s.t):=hrr
    refine ⟨_::rv,X s.t++g,⟨by simp [Hands,hsk],h0⟩,⟨vs',X s.t,g,g5,hrr.keep hT hnl,rfl,h1⟩,List.nodup_append.2 ⟨hI.nd s.t,h2,?_⟩,?_⟩
    ·intro b hb b' hb' e
     subst e
     obtain ⟨t,ht,ht'⟩:=h3 b hb'
     exact hI.dis s.t t b (Ne.symm (hne t ht)) hb ht'
    ·intro b hb
     simp only [List.mem_append] at hb
     rcases hb with hb | hb
     ·exact ⟨s.t,by simp,hb⟩
     ·obtain ⟨t,ht,ht'⟩:=h3 b hb
      exact ⟨t,by simp only [List.map_cons,List.mem_cons];exact .inr ht,ht'⟩
end
end Go.Rf
namespace Go.Rf
def resOK (tab:Nat→Option Ty):List ResultVar→List Slot→Bool
 | [],[]=>true
 | .tmp t::rs,s::l=>t == s.t && (match s.k with | .box _=>false | _=>true) && resOK tab rs l
 | .cell t ty::rs,s::l=>t == s.t && (match s.k with | .box io=>!io | _=>false) && likeTy (tab ty) s.τ && resOK tab rs l
 | _,_=>false
theorem run_res1 {P:Program}{tab:Nat→Option Ty} (hT:TabOK P tab){r:ResultVar}{rs:List ResultVar}{s:Slot}{l:List Slot}{a:Act}{w:World}{v:Value} (h:resOK tab (r::rs) (s::l)=true) (hv:Hands w a s v) :
  resOK tab rs l=true∧((match r with
   | .tmp t=>pure (a.tmps.getD t undef)
   | .cell c t=>do loadVar t (← asAddr (a.tmps.getD c undef)):Sem Value)).run P w=.ok v w:=by
 cases r with
 | tmp t =>
  simp only [resOK,bA,beq_iff_eq,bne_iff_ne,ne_eq] at h
  obtain ⟨⟨rfl,hk⟩,h'⟩:=h
  refine ⟨h',?_⟩
  unfold Hands at hv
  split at hv
  ·rename_i e;rw [e] at hk;cases hk
  ·simp [hv]
 | cell c t =>
  simp only [resOK,bA,beq_iff_eq] at h
  obtain ⟨⟨⟨rfl,hk⟩,hl⟩,h'⟩:=h
  refine ⟨h',?_⟩
  have hk':∃ io,s.k=.box io:=by
   cases hh:s.k with
   | box io=>exact ⟨io,rfl⟩
   | val=>rw [hh] at hk;cases hk
   | own=>rw [hh] at hk;cases hk
   | look=>rw [hh] at hk;cases hk
  obtain ⟨io,hk'⟩:=hk'
  simp only [Hands,hk'] at hv
  obtain ⟨b,off,c,el,fr,e1,e2,e3,rfl⟩:=hv
  obtain ⟨σ,h1,h2,h3⟩:=likeTy_spec hl
  have:=run_loadVar_at (hT t σ h1) e2 (off:=off) (by rw [h2];exact e3)
  simp only [e1,asAddr,Sem.run_bind,Sem.run_pure,Result.andThen_ok]
  rw [this,h2,valOf_like h3]
def resF (a:Act):ResultVar→Sem Value:=fun
 | .tmp t=>pure (a.tmps.getD t undef)
 | .cell c t=>do loadVar t (← asAddr (a.tmps.getD c undef))
theorem run_resL {P:Program}{tab:Nat→Option Ty} (hT:TabOK P tab){a:Act}{w:World}:∀ {rs:List ResultVar}{l:List Slot}{rv:List Value},resOK tab rs l=true→HandsL w a l rv→(rs.mapM (resF a)).run P w=.ok rv w:=by
 intro rs
 induction rs with
 | nil =>
  intro l rv h hv
  cases l with
  | nil=>cases rv with
   | nil=>simp
   | cons _ _=>cases hv
  | cons _ _=>simp [resOK] at h
 | cons r rs ih =>
  intro l rv h hv
  cases l with
  | nil=>cases r <;> simp [resOK] at h
  | cons s l =>
   cases rv with
   | nil=>cases hv
   | cons v rv =>
    obtain ⟨h1,h2⟩:=run_res1 (P:=P) (w:=w) hT h hv.1
    have h2:(resF a r).run P w=.ok v w:=by cases r <;> exact h2
    simp only [List.mapM_cons,Sem.run_bind,h2,Result.andThen_ok,ih h1 hv.2,Sem.run_pure]
theorem run_results {P:Program}{tab:Nat→Option Ty} (hT:TabOK P tab){fn:Func}{l:List Slot} (hl:l.length≤4) (hres:resOK tab fn.results.toList l=true){a:Act}{w:World}{rv:List Value} (hv:HandsL w a l rv) :
  (results fn a.tmps).run P w=.ok (retVal rv) w:=by
 have h:=run_resL (P:=P) (w:=w) hT hres hv
 have e:(fn.results.mapM (resF a)).run P w=.ok rv.toArray w:=by
  rw [Array.mapM_eq_mapM_toList]
  simp [h]
 have e2:results fn a.tmps=(do let vs ← fn.results.mapM (resF a);pure (if h:vs.size=1 then vs[0] else .tuple vs)):=rfl
 rw [e2]
 simp only [Sem.run_bind,e,Result.andThen_ok,Sem.run_pure]
 match rv with
 | []=>rfl
 | [v]=>rfl
 | v::u::l=>simp [retVal]
structure FnOK (P:Program) (E:Cz) (A:An) (pl:List Slot) (fid:Nat) (fn:Func) (c:Code):Prop where
 hfn:P.funcs[fid]?=some fn
 hbody:fn.body=some c
 hname:(fn.name == "runtime.NumGoroutine")=false
 hres:resOK E.tab fn.results.toList A.ret=true
 hshort:A.ret.length≤4
 hn:fn.ntmps=E.n
 hpl:numbered 0 pl=true
 hlen:pl.length≤E.n
 hback:backOK A.ret=true
theorem fn_sound {P:Program}{E:Cz} (hE:EnvOK P E) (hm:P.follows .mixedOrders=true){A:An}{N:Nat}{pl:List Slot}{fid:Nat}{fn:Func}{c:Code} (h:FnOK P E A pl fid fn c) :
  Ctr P E.V fid ⟨tys pl,tys A.ret,evalF E A N pl c⟩:=by
 refine ⟨?_,?_⟩
 ·intro args w
  have h1:fn.name ≠ "runtime.NumGoroutine":=by simpa using h.hname
  simp [callFunc,h.hfn,h1,h.hbody,mark]
 ·intro w S args vals fp r hstab hkl hglb ha hnd hfp hF
  refine calls_of_wp h.hfn h.hbody ?_
  have hlen:vals.length=pl.length:=by
   have:∀ l:List Slot,(tys l).length=l.length:=by intro l;induction l with
    | nil=>rfl
    | cons s l ih=>simp [tys,ih]
   rw [ha.length,this]
  have hI:=init_inv (C:=E.toCx) (G:=(Blk.of fun b=>b∈fp)) (a:={ tmps:=vals.toArray++Array.replicate (fn.ntmps-vals.toArray.size) undef,defers:=[] }) hstab hkl
   (by simp [h.hn];have:=h.hlen;omega) rfl hglb (fun _ _ _ _=>trivial) pl 0 vals args fp h.hpl ha hnd (fun b hb=>⟨(hfp b hb).1,(hfp b hb).2,hb⟩)
   (by intro j v hj
       have hlt:j<vals.length:=(List.getElem?_eq_some_iff.1 hj).1
       simp only [Nat.zero_add,Array.getD_eq_getD_getElem?]
       rw [Array.getElem?_append_left (by simpa using hlt)]
       simp [hj]) (by have:=h.hlen;omega)
  obtain ⟨pls,X,hI,_⟩:=hI
  refine wp_mono (evalK_sound hE hm A N c hF hI) ?_
  rintro e' a' w' ⟨e,st',rfl,hK,⟨S',pls',X',hI',hg⟩,_⟩
  have fin:slots E.n st' A.ret=some r→a'.defers=[]∧∃ v,(results fn a'.tmps).run P w'=.ok v w'∧∃ rv T g,Ending.returned v=.returned (retVal rv)∧Frm w w' (Blk.of fun b=>b∈fp)∧ArgsRel (fun _=>T) (hp w') (tys A.ret) rv r g ∧
   (∀ b,T b→b<w'.heap.size∧(S .keep b∨w.heap.size≤b∨b∈fp))∧g.Nodup∧(∀ b∈g,b<w'.heap.size∧¬ T b∧(w.heap.size≤b∨b∈fp)):=by
   intro hs
   obtain ⟨pls2,X2,hI2⟩:=slots_spec hI' hs (f:=junkT) (fun t=>trivial)
   obtain ⟨rv,g,h0,h1,h2,h3⟩:=back_rel hI2 (T:=fun b=>S' .keep b) (fun _ h=>h) A.ret (x:=r) h.hback (fun s hs=>List.mem_map_of_mem hs) (fun t _=>⟨rfl,rfl⟩)
   refine ⟨hI2.defers,_,run_results hE.tab h.hshort h.hres h0,_,fun b=>S' .keep b,g,rfl,hI2.frm,h1,fun b hb=>⟨hI2.stab _ b hb,hg.new b hb⟩,h2,fun b hb=>?_⟩
   obtain ⟨t,_,ht⟩:=h3 b hb
   exact ⟨(hI2.own t b ht).1,(hI2.own t b ht).2.1 _,(hI2.own t b ht).2.2⟩
  cases e with
  | norm=>exact fin hK
  | ret=>exact fin hK
  | exit _=>cases hK
end Go.Rf
namespace Go.Rf
def numberedX:Nat→List Slot→List PK→Bool
 | _,[],[]=>true
 | i,s::l,b::bs=>s.t == i && (match s.k,b with | .val,.no=>s.τ.plain | .own false,.no=>true | .box true,.io false=>true | .own true,.io true=>true | .look,.look=>true | _,_=>false) && numberedX (i+1) l bs
 | _,_,_=>false
def Plc.pl (q:Plc):Pl :=
 match q.hd with
 | none=>.mem q.B q.pre q.post q.el q.fr
 | some v=>.val v.2
def zOf:List Slot→List Plc→Nat→Option Pl
 | [],_,_=>none
 | s::l,qs,t=>match s.k,qs with
  | .box _,q::qs=>if t=s.t then some q.pl else zOf l qs t
  | .own true,q::qs=>if t=s.t then some q.pl else zOf l qs t
  | _,qs=>zOf l qs t
theorem zOf_lt:∀ {l:List Slot}{i:Nat}{ks:List PK}{qs:List Plc},numberedX i l ks=true→∀ {t:Nat}{pl:Pl},zOf l qs t=some pl→i≤t:=by
 intro l
 induction l with
 | nil=>intro i ks qs _ t pl h;simp [zOf] at h
 | cons s l ih =>
  intro i ks qs hn t pl h
  cases ks with
  | nil=>simp [numberedX] at hn
  | cons b bs =>
   simp only [numberedX,bA,beq_iff_eq] at hn
   obtain ⟨⟨h1,_⟩,h2⟩:=hn
   simp only [zOf] at h
   split at h
   ·split at h
    ·omega
    ·have:=ih h2 h;omega
   ·split at h
    ·omega
    ·have:=ih h2 h;omega
   ·have:=ih h2 h;omega
theorem numberedX_t:∀ {l:List Slot}{i:Nat}{ks:List PK},numberedX i l ks=true→∀ t∈l.map (·.t),i≤t:=by
 intro l
 induction l with
 | nil=>intro i ks _ t h;simp at h
 | cons s l ih =>
  intro i ks h t ht
  cases ks with
  | nil=>simp [numberedX] at h
  | cons b bs =>
   simp only [numberedX,bA,beq_iff_eq] at h
   simp only [List.map_cons,List.mem_cons] at ht
   rcases ht with rfl | ht
   ·omega
   ·have:=ih h.2 t ht;omega
section
variable {P:Program}{C:Cx}{w0 w w':World}{G:Blk}{st st':St}{a:Act}{S:Stab}{pls:Nat→Pl}{X:Nat→List Nat}
theorem init_invX {p:Nat→Prop}{z:Nat→Option Pl} (hstab:∀ m b,S m b→b<w.heap.size) (hkl:∀ b,S .keep b→S .lend b) (hsz:a.tmps.size=C.n) (hdef:a.defers=[]) (hglb:(∀ b,b<C.V.n→S .lend b)∧C.V.holds w) :
  ∀ (l:List Slot) (i:Nat) (ks:List PK) (vals:List Value) (qs:List Plc) (x:LD (tys l)) (fp:List Nat),numberedX i l ks=true→ParRel S (hp w) ks (tys l) vals qs x fp→fp.Nodup →
   (∀ b∈fp,b<w.heap.size∧(∀ m,¬ S m b)∧p b)→(∀ j v,vals[j]?=some v→a.tmps.getD (i+j) undef=v)→i+l.length≤C.n→(∀ t pl,zOf l qs t=some pl→z t=some pl) →
   ∃ pls X,Inv C w ⟨p,z⟩ (mkSt l x junkT) a w S pls X∧∀ id b,b∈X id→b∈fp:=by
 intro l
 induction l with
 | nil =>
  intro i ks vals qs x fp _ _ _ _ _ _ _
  refine ⟨fun _=>default,fun _=>[],⟨⟨rfl,rfl,rfl,Nat.le_refl _,fun _ _ _=>rfl⟩,hstab,hkl,by simp,by simp,by simp,?_,?_,hsz,hdef,hglb,?_⟩,by simp⟩
  ·intro id r h;simp [mkSt,mkR] at h
  ·intro t;exact trivial
  ·intro id r h;simp [mkSt,mkR] at h
 | cons s l ih =>
  intro i ks vals qs x fp hn ha hnd hfp hv hle hz
  cases ks with
  | nil=>simp [numberedX] at hn
  | cons b bs =>
   cases vals with
   | nil=>cases b <;> simp [tys,ParRel] at ha
   | cons v vals =>
    have hn0:=hn
    simp only [numberedX,bA,beq_iff_eq] at hn
    obtain ⟨⟨hi,hk⟩,hn⟩:=hn
    have hnone:∀ y:LD (tys l),mkR l y s.t=none:=fun y=>mkR_none l y (fun hm=>by have:=numberedX_t hn _ hm;omega)
    have hlt:s.t<C.n:=by simp only [List.length_cons] at hle;omega
    have hvs:a.tmps.getD s.t undef=v:=by
     have:=hv 0 _ rfl
     rw [hi];simpa using this
    have hvals:∀ j v,vals[j]?=some v→a.tmps.getD (i+1+j) undef=v:=fun j v hj=>by
     have:=hv (j+1) v (by simpa using hj);rw [show i+1+j=i+(j+1) by omega];exact this
    have hle':i+1+l.length≤C.n:=by simp only [List.length_cons] at hle;omega
    cases b with
    | io sb =>
     cases qs with
     | nil=>simp [tys,ParRel] at ha
     | cons q qs =>
      obtain ⟨hqs,rfl,f1,f2,hheld,rfl,ha⟩:=ha
      have hpt:(s.k=.box true∧sb=false)∨(s.k=.own true∧sb=true):=by
       cases hsk:s.k with
       | val=>rw [hsk] at hk;simp at hk
       | look=>rw [hsk] at hk;simp at hk
       | box io=>rw [hsk] at hk;cases io <;> cases sb <;> simp_all
       | own io=>rw [hsk] at hk;cases io <;> cases sb <;> simp_all
      have hz0:zOf (s::l) (q::qs) s.t=some q.pl:=by
       rcases hpt with ⟨e,_⟩ | ⟨e,_⟩ <;> simp [zOf,e]
      have hz':∀ t pl,zOf l qs t=some pl→z t=some pl:=by
       intro t pl h
       refine hz t pl ?_
       have:=zOf_lt hn h
       rcases hpt with ⟨e,_⟩ | ⟨e,_⟩ <;> (simp only [zOf,e];rw [if_neg (by omega)];exact h)
      have hnd':=List.nodup_append.1 hnd
      obtain ⟨pls,X,hI,hX⟩:=ih (i+1) bs vals qs x.2 f2 hn ha hnd'.2.1 (fun b hb=>hfp b (by simp [hb])) hvals hle' hz'
      have hfree:Free w w ⟨p,z⟩ S X f1:=⟨fun b hb=>⟨(hfp b (by simp [hb])).1,(hfp b (by simp [hb])).2.1,.inr (hfp b (by simp [hb])).2.2⟩,hnd'.1,fun id b hb hb'=>hnd'.2.2 b hb b (hX id b hb') rfl⟩
      have hzs:z s.t=some q.pl:=hz _ _ hz0
      have hXX:∀ id b,b∈upd X s.t f1 id→b∈f1++f2:=by
       intro id b hb
       by_cases e':id=s.t
       ·subst e';rw [upd_same] at hb;exact List.mem_append.2 (.inl hb)
       ·rw [upd_other _ _ e'] at hb;exact List.mem_append.2 (.inr (hX id b hb))
      obtain ⟨qB,qpre,qpost,qel,qfr,qhd⟩:=q
      rcases hpt with ⟨hbox,rfl⟩ | ⟨hbox,rfl⟩
      ·cases qhd with
       | some _=>simp at hqs
       | none =>
        obtain ⟨ws,f3,a1,a2,a3,rfl⟩:=hheld
        have hh:Holds (hp w) (.mem qB qpre qpost qel qfr) s.τ.size ws (some (qB,qpre.length)):=⟨a1,a3.length,rfl,a2⟩
        have k1:=hI.newRoot (d:=s.t) (r:=⟨.box true,s.τ,x.1⟩) (pl:=.mem qB qpre qpost qel qfr) (Y:=qB::f3) (hnone _) ⟨ws,_,f3,hh,a3,rfl⟩ hfree.ok hfree.nd (fun j _ b hb=>hfree.dis j b hb) (fun _=>hzs)
        have e:mkSt (s::l) x junkT=(St.put { mkSt l x.2 junkT with roots:=fun i=>if i=s.t then some ⟨.box true,s.τ,x.1⟩ else (mkSt l x.2 junkT).roots i } (some s.t) (.a (.ptr s.t []))):=by
         simp only [mkSt,mkT,mkR,St.put,Slot.tv,Slot.rt,hbox]
        rw [e]
        refine ⟨_,_,k1.repl hlt ?_,hXX⟩
        rw [hvs]
        exact ⟨⟨.box true,s.τ,x.1⟩,by simp,s.τ,x.1,ws,_,ws,qB,qpre.length,rfl,trivial,by rw [upd_same];exact hh,⟨rfl,rfl⟩,rfl⟩
      ·cases qhd with
       | none=>simp at hqs
       | some hv0 =>
        obtain ⟨hr0,hagg⟩:=hheld
        have hr1:RootRel S (hp w) (.val hv0.2) ⟨.val true,s.τ,x.1⟩ f1:=hr0
        have k1:=hI.newRoot (d:=s.t) (r:=⟨.val true,s.τ,x.1⟩) (pl:=.val hv0.2) (Y:=f1) (hnone _) hr1 hfree.ok hfree.nd (fun j _ b hb=>hfree.dis j b hb) (fun _=>hzs)
        have e:mkSt (s::l) x junkT=(St.put { mkSt l x.2 junkT with roots:=fun i=>if i=s.t then some ⟨.val true,s.τ,x.1⟩ else (mkSt l x.2 junkT).roots i } (some s.t) (.a (.ref s.t []))):=by
         simp only [mkSt,mkT,mkR,St.put,Slot.tv,Slot.rt,hbox]
        rw [e]
        refine ⟨_,_,k1.repl hlt ?_,hXX⟩
        rw [hvs]
        refine ⟨⟨.val true,s.τ,x.1⟩,by simp,s.τ,x.1,hv0.2,none,hv0.2,none,rfl,trivial,by rw [upd_same];exact ⟨rfl,rfl⟩,⟨rfl,rfl⟩,?_⟩
        simp [valOf,hagg,Plc.ptr]
    | look =>
     obtain ⟨hlk,ha⟩:=ha
     have hsk:s.k=.look:=by
      cases hsk:s.k with
      | look=>rfl
      | val=>rw [hsk] at hk;simp at hk
      | box io=>rw [hsk] at hk;simp at hk
      | own io=>rw [hsk] at hk;simp at hk
     have hz':∀ t pl,zOf l qs t=some pl→z t=some pl:=fun t pl h=>hz t pl (by simp only [zOf,hsk];exact h)
     obtain ⟨pls,X,hI,hX⟩:=ih (i+1) bs vals qs x.2 fp hn ha hnd hfp hvals hle' hz'
     have e:mkSt (s::l) x junkT=(mkSt l x.2 junkT).put (some s.t) (.a (.sptr s.τ x.1)):=by
      simp only [mkSt,mkT,mkR,St.put,Slot.tv,Slot.rt,hsk]
      congr 1
      funext t
      split
      ·rename_i e;rw [e,hnone]
      ·rfl
     rw [e]
     exact ⟨pls,X,hI.repl hlt (by rw [hvs];exact hlk),hX⟩
    | no =>
     obtain ⟨ws,f1,f2,rfl,hr,rfl,ha⟩:=ha
     have hnb:∀ io,s.k≠.box io:=by
      intro io e
      rw [e] at hk;simp at hk
     have hz':∀ t pl,zOf l qs t=some pl→z t=some pl:=by
      intro t pl h
      refine hz t pl ?_
      cases hsk:s.k with
      | box io=>exact absurd hsk (hnb io)
      | look=>simp only [zOf,hsk];exact h
      | val=>simp only [zOf,hsk];exact h
      | own io =>
       cases io with
       | true=>rw [hsk] at hk;simp at hk
       | false=>simp only [zOf,hsk];exact h
     have hnd':=List.nodup_append.1 hnd
     obtain ⟨pls,X,hI,hX⟩:=ih (i+1) bs vals qs x.2 f2 hn ha hnd'.2.1 (fun b hb=>hfp b (by simp [hb])) hvals hle' hz'
     have hfree:Free w w ⟨p,z⟩ S X f1:=⟨fun b hb=>⟨(hfp b (by simp [hb])).1,(hfp b (by simp [hb])).2.1,.inr (hfp b (by simp [hb])).2.2⟩,hnd'.1,fun id b hb hb'=>hnd'.2.2 b hb b (hX id b hb') rfl⟩
     cases hsk:s.k with
     | box io=>exact absurd hsk (hnb io)
     | look=>rw [hsk] at hk;simp at hk
     | val =>
      rw [hsk] at hk
      simp only at hk
      have hf:=hr.plain hk
      subst hf
      have e:mkSt (s::l) x junkT=(mkSt l x.2 junkT).put (some s.t) (.a (.v s.τ x.1)):=by
       simp only [mkSt,mkT,mkR,St.put,Slot.tv,Slot.rt,hsk]
       congr 1
       funext t
       split
       ·rename_i e;rw [e,hnone]
       ·rfl
      rw [e]
      exact ⟨pls,X,hI.repl hlt (by rw [hvs];exact ⟨ws,rfl,hr⟩),fun id b hb=>by simpa using hX id b hb⟩
     | own io =>
      have hio:io=false:=by
       cases io with
       | true=>rw [hsk] at hk;simp at hk
       | false=>rfl
      subst hio
      obtain ⟨k1,k2⟩:=hI.newVal (d:=s.t) (hnone _) hr hfree
      have e:mkSt (s::l) x junkT=((mkSt l x.2 junkT).root s.t ⟨.val false,s.τ,x.1⟩).put (some s.t) (.a (.ref s.t [])):=by
       simp only [mkSt,mkT,mkR,St.put,St.root,Slot.tv,Slot.rt,hsk]
      rw [e]
      refine ⟨_,_,k1.repl hlt (by rw [hvs];exact k2),fun id b hb=>?_⟩
      by_cases e':id=s.t
      ·subst e';simp at hb;simp [hb]
      ·rw [upd_other _ _ e'] at hb;simp [hX id b hb]
def backX:List Slot→List OutK→List (Nat×Bool)→Bool
 | [],[],[]=>true
 | s::l,.val::ks,ts=>s.τ.noLend && (match s.k with | .val=>s.τ.plain | .own io=>!io | .box io=>!io | .look=>false) && !((l.map (·.t)).elem s.t) && backX l ks ts
 | s::l,.ptr::ks,ts=>s.τ.noLend && (match s.k with | .box io=>!io | _=>false) && !((l.map (·.t)).elem s.t) && backX l ks ts
 | s::l,.io::ks,t::ts=>s.τ.noLend && s.t == t.1 && (match s.k with | .box io=>io | .own io=>io && s.τ.isAgg == t.2 | .val=>false | .look=>false) && !((l.map (·.t)).elem s.t) && backX l ks ts
 | _,_,_=>false
def HandsX (w:World) (a:Act):List Slot→List OutK→List Value→Prop
 | [],[],[]=>True
 | s::l,.val::ks,v::vs=>Hands w a s v∧HandsX w a l ks vs
 | s::l,.ptr::ks,v::vs=>v=a.tmps.getD s.t undef∧HandsX w a l ks vs
 | s::l,.io::ks,vs=>HandsX w a l ks vs
 | _,_,_=>False
def plcOK (z:Nat→Option Pl):List (Nat×Bool)→List Plc→Prop
 | [],[]=>True
 | t::ts,q::qs=>(z t.1=some q.pl∧∀ v,q.hd=some v→v.1=t.2)∧plcOK z ts qs
 | _,_=>False
theorem back_relX (hI:Inv C w0 G st a w S pls X){T:Nat→Prop} (hT:∀ b,S .keep b→T b):∀ (l:List Slot) (ks:List OutK) (ts:List (Nat×Bool)) (qs:List Plc){x:LD (tys l)},backX l ks ts=true→plcOK G.z ts qs →
  (∀ t,t∈l.map (·.t)→st.tmps t=mkT l x junkT t∧st.roots t=mkR l x t) →
  ∃ rv g,HandsX w a l ks rv∧OutRel (fun _=>T) (hp w) ks (tys l) rv qs x g∧g.Nodup∧(∀ b∈g,∃ t,t∈l.map (·.t)∧b∈X t):=by
 intro l
 induction l with
 | nil =>
  intro ks ts qs x hb hq _
  cases ks <;> cases ts <;> simp only [backX,reduceCtorEq] at hb
  cases qs <;> simp only [plcOK] at hq
  exact ⟨[],[],trivial,rfl,by simp,by simp⟩
 | cons s l ih =>
  intro ks ts qs x hb hq hst
  have hcons:∀ {ks' ts' qs'},backX l ks' ts'=true→plcOK G.z ts' qs'→(l.map (·.t)).elem s.t=false→∃ rv g,HandsX w a l ks' rv∧OutRel (fun _=>T) (hp w) ks' (tys l) rv qs' x.2 g∧g.Nodup∧(∀ b∈g,∃ t,t∈l.map (·.t)∧b∈X t∧t≠s.t):=by
   intro ks' ts' qs' hb' hq' hdis
   have hne:∀ t,t∈l.map (·.t)→t≠s.t:=by
    rintro t ht rfl
    rw [List.elem_eq_true_of_mem ht] at hdis
    cases hdis
   obtain ⟨rv,g,h0,h1,h2,h3⟩:=ih ks' ts' qs' (x:=x.2) hb' hq' (fun t ht=>by
    obtain ⟨k1,k2⟩:=hst t (by simp only [List.map_cons,List.mem_cons];exact .inr ht)
    simp only [mkT,mkR,if_neg (hne t ht)] at k1 k2
    exact ⟨k1,k2⟩)
   exact ⟨rv,g,h0,h1,h2,fun b hb=>by obtain ⟨t,ht,ht'⟩:=h3 b hb;exact ⟨t,ht,ht',hne t ht⟩⟩
  obtain ⟨k1,k2⟩:=hst s.t (by simp)
  simp only [mkT,mkR,if_true] at k1 k2
  have hv:=hI.tmps s.t
  rw [k1] at hv
  -- a variable's block and its contents
  have hboxd:∀ {io:Bool},s.k=.box io→s.τ.noLend=true→∃ q:Plc,q.hd=none∧pls s.t=.mem q.B q.pre q.post q.el q.fr∧a.tmps.getD s.t undef=q.ptr∧∃ us fp,hp w q.B=some (.cells (q.pre++us++q.post).toArray q.el q.fr)∧us.length=s.τ.size ∧
    Soft q.fr (q.pre++us++q.post).length∧Rep (fun _=>T) (hp w) s.τ us x.1 fp∧X s.t=q.B::fp:=by
   intro io hsk hnl
   simp only [Slot.tv,hsk] at hv
   simp only [Slot.rt,hsk] at k2
   obtain ⟨r,hr,σ,y,vs,l0,vs',b,off,g1,g2,g3,g4,g5⟩:=hv
   rw [k2] at hr;cases hr
   cases g1
   obtain ⟨rfl,rfl⟩:=g4
   have hrr:=hI.roots s.t _ k2
   cases hpl:pls s.t with
   | val us=>rw [hpl] at hrr;simp [RootRel] at hrr
   | mem B pre post el fr =>
    rw [hpl] at hrr g3
    obtain ⟨us,l',fp,q1,q2,q3⟩:=hrr
    obtain ⟨rfl,rfl⟩:=q1.det g3
    obtain ⟨e1,e2,e3,e4⟩:=g3
    cases e3
    exact ⟨⟨_,pre,post,el,fr,none⟩,rfl,rfl,g5,us,fp,e1,e2,e4,q2.keep hT hnl,q3⟩
  have hxn:=hI.nd s.t
  have hdisj:∀ {g:List Nat},(∀ b∈g,∃ t,t∈l.map (·.t)∧b∈X t∧t≠s.t)→∀ {f:List Nat},f.Nodup→(∀ b∈f,b∈X s.t)→g.Nodup→(f++g).Nodup∧∀ b∈f++g,∃ t,t∈(s::l).map (·.t)∧b∈X t:=by
   intro g hg f hf hfX hgn
   refine ⟨List.nodup_append.2 ⟨hf,hgn,?_⟩,?_⟩
   ·rintro b hb b' hb' rfl
    obtain ⟨t,_,ht,hne⟩:=hg b hb'
    exact hI.dis s.t t b (Ne.symm hne) (hfX b hb) ht
   ·intro b hb
    simp only [List.mem_append] at hb
    rcases hb with hb | hb
    ·exact ⟨s.t,by simp,hfX b hb⟩
    ·obtain ⟨t,ht,ht',_⟩:=hg b hb
     exact ⟨t,by simp only [List.map_cons,List.mem_cons];exact .inr ht,ht'⟩
  cases ks with
  | nil=>simp [backX] at hb
  | cons k ks =>
   cases k with
   | val =>
    simp only [backX,bA,Bool.not_eq_true'] at hb
    obtain ⟨⟨⟨hnl,hk⟩,hdis⟩,hb⟩:=hb
    obtain ⟨rv,g,h0,h1,h2,h3⟩:=hcons hb hq hdis
    cases hsk:s.k with
    | box io =>
     obtain ⟨⟨qB,qpre,qpost,qel,qfr,qhd⟩,m0,m1,m2,us,fp,m3,m4,m5,m6,m7⟩:=hboxd hsk hnl
     simp only at m0 m1 m3 m5 m7
     subst m0
     rw [m7] at hxn
     obtain ⟨d1,d2⟩:=hdisj h3 (List.nodup_cons.1 hxn).2 (fun b hb=>by rw [m7];simp [hb]) h2
     refine ⟨valOf s.τ us::rv,fp++g,⟨?_,h0⟩,⟨us,fp,g,rfl,m6,rfl,h1⟩,d1,d2⟩
     simp only [Hands,hsk]
     refine ⟨qB,qpre.length,_,qel,qfr,m2,m3,by simp;omega,?_⟩
     rw [← m4];simp
    | look=>rw [hsk] at hk;cases hk
    | val =>
     rw [hsk] at hk
     simp only [Slot.tv,hsk] at hv
     obtain ⟨ws,e,hr⟩:=hv
     obtain ⟨d1,d2⟩:=hdisj h3 (f:=[]) (by simp) (by simp) h2
     exact ⟨_::rv,g,⟨by simp [Hands,hsk],h0⟩,⟨ws,[],g,e,hr.keep hT hnl,rfl,h1⟩,h2,fun b hb=>d2 b hb⟩
    | own io =>
     simp only [Slot.tv,hsk] at hv
     simp only [Slot.rt,hsk] at k2
     obtain ⟨r,hr,σ,y,vs,l0,vs',l',g1,g2,g3,g4,g5⟩:=hv
     rw [k2] at hr;cases hr
     cases g1
     obtain ⟨rfl,rfl⟩:=g4
     have hrr:=hI.roots s.t _ k2
     cases hpl:pls s.t with
     | mem=>rw [hpl] at hrr;simp [RootRel] at hrr
     | val us =>
      rw [hpl] at hrr g3
      obtain ⟨rfl,_⟩:=g3
      have hrr:Rep S (hp w) s.τ vs' x.1 (X s.t):=hrr
      obtain ⟨d1,d2⟩:=hdisj h3 (hI.nd s.t) (fun _ h=>h) h2
      exact ⟨_::rv,X s.t++g,⟨by simp [Hands,hsk],h0⟩,⟨vs',X s.t,g,g5,hrr.keep hT hnl,rfl,h1⟩,d1,d2⟩
   | ptr =>
    simp only [backX,bA,Bool.not_eq_true'] at hb
    obtain ⟨⟨⟨hnl,hk⟩,hdis⟩,hb⟩:=hb
    obtain ⟨rv,g,h0,h1,h2,h3⟩:=hcons hb hq hdis
    have hbox:∃ io,s.k=.box io:=by
     cases hsk:s.k with
     | box io=>exact ⟨io,rfl⟩
     | val=>rw [hsk] at hk;cases hk
     | look=>rw [hsk] at hk;cases hk
     | own io=>rw [hsk] at hk;cases hk
    obtain ⟨io,hsk⟩:=hbox
    obtain ⟨⟨qB,qpre,qpost,qel,qfr,qhd⟩,m0,m1,m2,us,fp,m3,m4,m5,m6,m7⟩:=hboxd hsk hnl
    simp only at m0 m1 m3 m5 m7
    subst m0
    rw [m7] at hxn
    obtain ⟨d1,d2⟩:=hdisj h3 hxn (fun b hb=>by rw [m7];exact hb) h2
    exact ⟨_::rv,(qB::fp)++g,⟨rfl,h0⟩,⟨⟨qB,qpre,qpost,qel,qfr,none⟩,qB::fp,g,rfl,m2,⟨us,fp,m3,m5,m6,rfl⟩,rfl,h1⟩,d1,d2⟩
   | io =>
    cases ts with
    | nil=>simp [backX] at hb
    | cons t ts =>
     simp only [backX,bA,Bool.not_eq_true',beq_iff_eq] at hb
     obtain ⟨⟨⟨⟨hnl,hst'⟩,hk⟩,hdis⟩,hb⟩:=hb
     cases qs with
     | nil=>simp [plcOK] at hq
     | cons q qs =>
      obtain ⟨⟨hz,hzg⟩,hq⟩:=hq
      obtain ⟨rv,g,h0,h1,h2,h3⟩:=hcons hb hq hdis
      have hpt:s.k=.box true∨(s.k=.own true∧s.τ.isAgg=t.2):=by
       cases hsk:s.k with
       | box io=>rw [hsk] at hk;simp only at hk;rw [hk];exact .inl rfl
       | val=>rw [hsk] at hk;cases hk
       | look=>rw [hsk] at hk;cases hk
       | own io=>rw [hsk] at hk;simp only [bA,beq_iff_eq] at hk;rw [hk.1];exact .inr ⟨rfl,hk.2⟩
      have fin:∀ {f1:List Nat},HeldAt (fun _=>T) (hp w) s.τ q x.1 f1→f1.Nodup→(∀ b∈f1,b∈X s.t)→∃ rv g,HandsX w a (s::l) (.io::ks) rv∧OutRel (fun _=>T) (hp w) (.io::ks) (tys (s::l)) rv (q::qs) x g∧g.Nodup∧(∀ b∈g,∃ t,t∈(s::l).map (·.t)∧b∈X t):=by
       intro f1 hh hn1 hX1
       obtain ⟨d1,d2⟩:=hdisj h3 hn1 hX1 h2
       have h5:∃ f1' f2,HeldAt (fun _=>T) (hp w) s.τ q x.1 f1'∧f1++g=f1'++f2∧OutRel (fun _=>T) (hp w) ks (tys l) rv qs x.2 f2:=⟨f1,g,hh,rfl,h1⟩
       exact ⟨rv,f1++g,by cases rv <;> exact h0,by cases rv <;> exact h5,d1,d2⟩
      rcases hpt with hbox | ⟨hbox,hagg⟩
      ·obtain ⟨⟨qB,qpre,qpost,qel,qfr,qhd⟩,m0,m1,m2,us,fp,m3,m4,m5,m6,m7⟩:=hboxd hbox hnl
       simp only at m0 m1 m3 m5 m7
       subst m0
       simp only [Slot.rt,hbox] at k2
       have hpin:=hI.pin s.t _ k2 rfl
       rw [hst',hz,← hst',m1] at hpin
       obtain ⟨pB,ppre,ppost,pel,pfr,phd⟩:=q
       cases phd with
       | some _=>simp [Plc.pl] at hpin
       | none =>
        simp only [Plc.pl,sI,Pl.mem.injEq] at hpin
        obtain ⟨rfl,rfl,rfl,rfl,rfl⟩:=hpin
        rw [m7] at hxn
        exact fin ⟨us,fp,m3,m5,m6,rfl⟩ hxn (fun b hb=>by rw [m7];exact hb)
      ·simp only [Slot.tv,hbox] at hv
       simp only [Slot.rt,hbox] at k2
       have hrr:=hI.roots s.t _ k2
       have hpin:=hI.pin s.t _ k2 rfl
       rw [hst',hz,← hst'] at hpin
       cases hpl:pls s.t with
       | mem=>rw [hpl] at hrr;simp [RootRel] at hrr
       | val us =>
        rw [hpl] at hrr hpin
        have hrr:Rep S (hp w) s.τ us x.1 (X s.t):=hrr
        obtain ⟨pB,ppre,ppost,pel,pfr,phd⟩:=q
        cases phd with
        | none=>simp [Plc.pl] at hpin
        | some v =>
         simp only [Plc.pl,sI,Pl.val.injEq] at hpin
         subst hpin
         exact fin ⟨hrr.keep hT hnl,by rw [hagg,hzg v rfl]⟩ hxn (fun b hb=>hb)
end
def resX (tab:Nat→Option Ty):List ResultVar→List Slot→List OutK→Bool
 | [],[],[]=>true
 | .tmp t::rs,s::l,.val::ks=>t == s.t && (match s.k with | .box _=>false | _=>true) && resX tab rs l ks
 | .cell t ty::rs,s::l,.val::ks=>t == s.t && (match s.k with | .box io=>!io | _=>false) && likeTy (tab ty) s.τ && resX tab rs l ks
 | .tmp t::rs,s::l,.ptr::ks=>t == s.t && resX tab rs l ks
 | rs,_::l,.io::ks=>resX tab rs l ks
 | _,_,_=>false
theorem run_resLX {P:Program}{tab:Nat→Option Ty} (hT:TabOK P tab){a:Act}{w:World}:∀ {l:List Slot}{rs:List ResultVar}{ks:List OutK}{rv:List Value},resX tab rs l ks=true→HandsX w a l ks rv→(rs.mapM (resF a)).run P w=.ok rv w:=by
 intro l
 induction l with
 | nil =>
  intro rs ks rv h hv
  cases ks with
  | cons k ks=>cases k <;> cases rv <;> simp [HandsX] at hv
  | nil =>
   cases rs with
   | cons r rs=>cases r <;> simp [resX] at h
   | nil=>cases rv with
    | nil=>simp
    | cons _ _=>simp [HandsX] at hv
 | cons s l ih =>
  intro rs ks rv h hv
  cases ks with
  | nil=>cases rv <;> simp [HandsX] at hv
  | cons k ks =>
   cases k with
   | io =>
    have hv':HandsX w a l ks rv:=by cases rv <;> exact hv
    have h':resX tab rs l ks=true:=by
     cases rs with
     | nil=>exact h
     | cons r rs=>cases r <;> exact h
    exact ih h' hv'
   | val =>
    cases rs with
    | nil=>simp [resX] at h
    | cons r rs =>
     cases rv with
     | nil=>simp [HandsX] at hv
     | cons v rv =>
      have h1:resOK tab [r] [s]=true∧resX tab rs l ks=true:=by
       cases r <;> simp only [resX,resOK,bA,Bool.and_true] at h ⊢
       ·exact h
       ·exact h
      obtain ⟨h1,h2⟩:=h1
      obtain ⟨_,h3⟩:=run_res1 (P:=P) (w:=w) hT h1 hv.1
      have h3:(resF a r).run P w=.ok v w:=by cases r <;> exact h3
      simp only [List.mapM_cons,Sem.run_bind,h3,Result.andThen_ok,ih h2 hv.2,Sem.run_pure]
   | ptr =>
    cases rs with
    | nil=>simp [resX] at h
    | cons r rs =>
     cases rv with
     | nil=>simp [HandsX] at hv
     | cons v rv =>
      cases r with
      | cell _ _=>simp [resX] at h
      | tmp t =>
       simp only [resX,bA,beq_iff_eq] at h
       obtain ⟨rfl,h2⟩:=h
       have h3:(resF a (.tmp s.t)).run P w=.ok v w:=by simp [resF,hv.1]
       simp only [List.mapM_cons,Sem.run_bind,h3,Result.andThen_ok,ih h2 hv.2,Sem.run_pure]
theorem run_resultsX {P:Program}{tab:Nat→Option Ty} (hT:TabOK P tab){fn:Func}{l:List Slot}{ks:List OutK} (hres:resX tab fn.results.toList l ks=true){a:Act}{w:World}{rv:List Value} (hv:HandsX w a l ks rv) :
  (results fn a.tmps).run P w=.ok (retVal rv) w:=by
 have h:=run_resLX (P:=P) (w:=w) hT hres hv
 have e:(fn.results.mapM (resF a)).run P w=.ok rv.toArray w:=by
  rw [Array.mapM_eq_mapM_toList]
  simp [h]
 have e2:results fn a.tmps=(do let vs ← fn.results.mapM (resF a);pure (if h:vs.size=1 then vs[0] else .tuple vs)):=rfl
 rw [e2]
 simp only [Sem.run_bind,e,Result.andThen_ok,Sem.run_pure]
 match rv with
 | []=>rfl
 | [v]=>rfl
 | v::u::l=>simp [retVal]
def ptrTs:List Slot→List (Nat×Bool)
 | []=>[]
 | s::l=>match s.k with
  | .box _=>(s.t,s.τ.isAgg)::ptrTs l
  | .own true=>(s.t,s.τ.isAgg)::ptrTs l
  | _=>ptrTs l
structure FnOKX (P:Program) (E:Cz) (A:An) (pl:List Slot) (io:List PK) (ks:List OutK) (fid:Nat) (fn:Func) (c:Code):Prop where
 hfn:P.funcs[fid]?=some fn
 hbody:fn.body=some c
 hname:(fn.name == "runtime.NumGoroutine")=false
 hres:resX E.tab fn.results.toList A.ret ks=true
 hn:fn.ntmps=E.n
 hpl:numberedX 0 pl io=true
 hlen:pl.length≤E.n
 hback:backX A.ret ks (ptrTs pl)=true
theorem ParRel.length {S:Stab}{H:Heap}:∀ {ks:List PK}{ps:List Ty}{vals:List Value}{qs:List Plc}{x:LD ps}{g:List Nat},ParRel S H ks ps vals qs x g→vals.length=ps.length:=by
 intro ks
 induction ks with
 | nil =>
  intro ps vals qs x g h
  cases ps <;> cases vals <;> cases qs <;> simp_all [ParRel]
 | cons k ks ih =>
  intro ps vals qs x g h
  cases ps with
  | nil=>cases k <;> cases vals <;> cases qs <;> simp [ParRel] at h
  | cons τ ps =>
   cases vals with
   | nil=>cases k <;> cases qs <;> simp [ParRel] at h
   | cons v vals =>
    simp only [List.length_cons,Nat.add_right_cancel_iff]
    cases k with
    | io sb =>
     cases qs with
     | nil=>simp [ParRel] at h
     | cons q qs=>obtain ⟨_,_,_,_,_,_,h⟩:=h;exact ih h
    | no=>obtain ⟨_,_,_,_,_,_,h⟩:=h;exact ih h
    | look=>obtain ⟨_,h⟩:=h;exact ih h
theorem plcOK_zOf {S:Stab}{H:Heap}{z:Nat→Option Pl}:∀ {l:List Slot}{i:Nat}{ks:List PK}{vals:List Value}{qs:List Plc}{x:LD (tys l)}{g:List Nat},numberedX i l ks=true→ParRel S H ks (tys l) vals qs x g →
  (∀ t pl,zOf l qs t=some pl→z t=some pl)→plcOK z (ptrTs l) qs:=by
 intro l
 induction l with
 | nil =>
  intro i ks vals qs x g hn h hz
  cases ks <;> simp [numberedX] at hn
  cases vals <;> cases qs <;> simp [tys,ParRel] at h
  exact trivial
 | cons s l ih =>
  intro i ks vals qs x g hn h hz
  cases ks with
  | nil=>simp [numberedX] at hn
  | cons b bs =>
   simp only [numberedX,bA,beq_iff_eq] at hn
   obtain ⟨⟨hi,hk⟩,hn⟩:=hn
   cases vals with
   | nil=>cases b <;> cases qs <;> simp [tys,ParRel] at h
   | cons v vals =>
    cases b with
    | io sb =>
     cases qs with
     | nil=>simp [tys,ParRel] at h
     | cons q qs =>
      obtain ⟨_,_,f1,f2,hheld,_,h⟩:=h
      have hpt:s.k=.box true∨s.k=.own true:=by
       cases hsk:s.k with
       | val=>rw [hsk] at hk;simp at hk
       | look=>rw [hsk] at hk;simp at hk
       | box io=>rw [hsk] at hk;cases io <;> simp_all
       | own io=>rw [hsk] at hk;cases io <;> simp_all
      have hz0:zOf (s::l) (q::qs) s.t=some q.pl:=by
       rcases hpt with e | e <;> simp [zOf,e]
      have hp0:ptrTs (s::l)=(s.t,s.τ.isAgg)::ptrTs l:=by
       rcases hpt with e | e <;> simp [ptrTs,e]
      rw [hp0]
      refine ⟨⟨hz _ _ hz0,fun v hv=>by obtain ⟨qB,qpre,qpost,qel,qfr,qhd⟩:=q;simp only at hv;subst hv;exact hheld.2.symm⟩,ih hn h (fun t pl ht=>hz t pl ?_)⟩
      have:=zOf_lt hn ht
      rcases hpt with e | e <;> (simp only [zOf,e];rw [if_neg (by omega)];exact ht)
    | look =>
     obtain ⟨_,h⟩:=h
     have hsk:s.k=.look:=by
      cases hsk:s.k with
      | look=>rfl
      | val=>rw [hsk] at hk;simp at hk
      | box io=>rw [hsk] at hk;simp at hk
      | own io=>rw [hsk] at hk;simp at hk
     simp only [ptrTs,hsk];exact ih hn h (fun t pl ht=>hz t pl (by simp only [zOf,hsk];exact ht))
    | no =>
     obtain ⟨ws,f1,f2,_,_,_,h⟩:=h
     cases hsk:s.k with
     | look=>rw [hsk] at hk;simp at hk
     | box io=>rw [hsk] at hk;simp at hk
     | val=>simp only [ptrTs,hsk];exact ih hn h (fun t pl ht=>hz t pl (by simp only [zOf,hsk];exact ht))
     | own io =>
      cases io with
      | true=>rw [hsk] at hk;simp at hk
      | false=>simp only [ptrTs,hsk];exact ih hn h (fun t pl ht=>hz t pl (by simp only [zOf,hsk];exact ht))
theorem fn_soundX {P:Program}{E:Cz} (hE:EnvOK P E) (hm:P.follows .mixedOrders=true){A:An}{N:Nat}{pl:List Slot}{io:List PK}{ks:List OutK}{fid:Nat}{fn:Func}{c:Code} (h:FnOKX P E A pl io ks fid fn c) :
  CtrX P E.V fid ⟨io,tys pl,ks,tys A.ret,evalF E A N pl c⟩:=by
 refine ⟨?_,?_⟩
 ·intro args w
  have h1:fn.name ≠ "runtime.NumGoroutine":=by simpa using h.hname
  simp [callFunc,h.hfn,h1,h.hbody,mark]
 ·intro w S args vals qs fp r hstab hkl hglb ha hnd hfp hF
  refine calls_of_wp h.hfn h.hbody ?_
  have hlen:vals.length=pl.length:=by
   have:∀ l:List Slot,(tys l).length=l.length:=by intro l;induction l with
    | nil=>rfl
    | cons s l ih=>simp [tys,ih]
   rw [ha.length,this]
  have hI:=init_invX (C:=E.toCx) (p:=fun b=>b∈fp) (z:=zOf pl qs) (a:={ tmps:=vals.toArray++Array.replicate (fn.ntmps-vals.toArray.size) undef,defers:=[] }) hstab hkl
   (by simp [h.hn];have:=h.hlen;omega) rfl hglb pl 0 io vals qs args fp h.hpl ha hnd (fun b hb=>⟨(hfp b hb).1,(hfp b hb).2,hb⟩)
   (by intro j v hj
       have hlt:j<vals.length:=(List.getElem?_eq_some_iff.1 hj).1
       simp only [Nat.zero_add,Array.getD_eq_getD_getElem?]
       rw [Array.getElem?_append_left (by simpa using hlt)]
       simp [hj]) (by have:=h.hlen;omega) (fun _ _ h=>h)
  obtain ⟨pls,X,hI,_⟩:=hI
  refine wp_mono (evalK_sound hE hm A N c hF hI) ?_
  rintro e' a' w' ⟨e,st',rfl,hK,⟨S',pls',X',hI',hg⟩,_⟩
  have fin:slots E.n st' A.ret=some r→a'.defers=[]∧∃ v,(results fn a'.tmps).run P w'=.ok v w'∧∃ rv T g,Ending.returned v=.returned (retVal rv)∧Frm w w' (Blk.of fun b=>b∈fp)∧OutRel (fun _=>T) (hp w') ks (tys A.ret) rv qs r g ∧
   (∀ b,T b→b<w'.heap.size∧(S .keep b∨w.heap.size≤b∨b∈fp))∧g.Nodup∧(∀ b∈g,b<w'.heap.size∧¬ T b∧(w.heap.size≤b∨b∈fp)):=by
   intro hs
   obtain ⟨pls2,X2,hI2⟩:=slots_spec hI' hs (f:=junkT) (fun t=>trivial)
   obtain ⟨rv,g,h0,h1,h2,h3⟩:=back_relX hI2 (T:=fun b=>S' .keep b) (fun _ h=>h) A.ret ks (ptrTs pl) qs (x:=r) h.hback (plcOK_zOf h.hpl ha (fun _ _ h=>h)) (fun t _=>⟨rfl,rfl⟩)
   have hf:=hI2.frm
   refine ⟨hI2.defers,_,run_resultsX hE.tab h.hres h0,_,fun b=>S' .keep b,g,rfl,⟨hf.os,hf.tape,hf.output,hf.size,hf.block⟩,h1,fun b hb=>⟨hI2.stab _ b hb,hg.new b hb⟩,h2,fun b hb=>?_⟩
   obtain ⟨t,_,ht⟩:=h3 b hb
   exact ⟨(hI2.own t b ht).1,(hI2.own t b ht).2.1 _,(hI2.own t b ht).2.2⟩
  cases e with
  | norm=>exact fin hK
  | ret=>exact fin hK
  | exit _=>cases hK
end Go.Rf
namespace Go.Rf
def look {α:Type}:List (Nat×α)→Nat→Option α
 | [],_=>none
 | (k,x)::l,t=>bif Nat.beq t k then some x else look l t
theorem look_all {α:Type}{Q:Nat→α→Prop}:∀ (l:List (Nat×α)),(∀ p∈l,Q p.1 p.2)→∀ k x,look l k=some x→Q k x:=by
 intro l
 induction l with
 | nil=>intro _ k x h;cases h
 | cons p l ih =>
  intro h k x hk
  obtain ⟨k',y⟩:=p
  simp only [look] at hk
  cases e:Nat.beq k k' with
  | true =>
   rw [e] at hk
   simp only [cond_true,sI] at hk
   subst hk
   have:=Nat.eq_of_beq_eq_true e
   subst this
   exact h (k,y) (by simp)
  | false =>
   rw [e] at hk
   exact ih (fun p hp=>h p (by simp [hp])) k x hk
theorem rowOK_of {P:Program}{tab:Nat→Option Ty}{t:Nat}{s:Ty} (h:(P.info? t).map (fun i=>(i.size,Nat.ble i.bytes 16384,i.zero))=some (s.size,true,some (valOf s (zeroC s))))
  (hd:(P.underlying t).map (fun d=>descOK tab s (dk d))=some true) (hc:(!s.flat || (!P.stoodInHeld t && !P.eqGuardType P.depth t && (P.fieldsOf t).toList.all (fun f=>f.name != "_")))=true):RowOK P tab t s:=by
 obtain ⟨i,h1,h2⟩:=Option.map_eq_some_iff.1 h
 obtain ⟨d,h3,h4⟩:=Option.map_eq_some_iff.1 hd
 simp only [Prod.mk.injEq] at h2
 refine ⟨⟨i.bytes,Nat.le_of_ble_eq_true h2.2.1,by rw [h1];simp [h2.1,h2.2.2]⟩,⟨dk d,by rw [h3];rfl,h4⟩,fun hf=>?_⟩
 rw [hf] at hc
 simp only [bN,Bool.false_or,bA,Bool.not_eq_true'] at hc
 exact ⟨hc.1.1,hc.1.2,hc.2⟩
end Go.Rf
namespace Go.Rf
def Ty.kept:Ty→Ty
 | .sl .lend e=>.sl .keep e.kept
 | .sl m e=>.sl m e.kept
 | .pair a b=>.pair a.kept b.kept
 | t=>t
def Mode.kept:Mode→Mode
 | .lend=>.keep
 | m=>m
theorem Ty.kept_D:∀ τ:Ty,τ.kept.D=τ.D
 | .int _ | .bool | .str | .nil | .dead | .unit | .clo _ _=>rfl
 | .sl .own e=>congrArg List (Ty.kept_D e)
 | .sl .keep e=>congrArg List (Ty.kept_D e)
 | .sl .lend e=>congrArg List (Ty.kept_D e)
 | .pair a b=>by simp only [Ty.kept,Ty.D];rw [Ty.kept_D a,Ty.kept_D b]
theorem Ty.kept_size:∀ τ:Ty,τ.kept.size=τ.size
 | .int _ | .bool | .str | .nil | .dead | .unit | .clo _ _=>rfl
 | .sl .own e=>rfl
 | .sl .keep e=>rfl
 | .sl .lend e=>rfl
 | .pair a b=>by simp [Ty.kept,Ty.size,Ty.kept_size a,Ty.kept_size b]
theorem Ty.kept_agg:∀ τ:Ty,τ.kept.isAgg=τ.isAgg
 | .int _ | .bool | .str | .nil | .dead | .unit | .clo _ _=>rfl
 | .sl .own e=>rfl
 | .sl .keep e=>rfl
 | .sl .lend e=>rfl
 | .pair a b=>rfl
theorem valOf_kept (τ:Ty) (vs:List Value):valOf τ.kept vs=valOf τ vs:=by simp [valOf,Ty.kept_agg]
theorem Rep.kept {S S':Stab}{H:Heap} (hS:∀ m b,m≠.own→S m b→S' .keep b∧S' .lend b):∀ {τ:Ty}{vs:List Value}{x:τ.D}{fp:List Nat},
  Rep S H τ vs x fp→Rep S' H τ.kept vs ((Ty.kept_D τ).mpr x) fp:=by
 intro τ
 induction τ with
 | int k=>exact fun h=>h
 | bool=>exact fun h=>h
 | str=>exact fun h=>h
 | nil=>exact fun h=>h
 | dead=>exact fun h=>h
 | unit=>exact fun h=>h
 | clo g c _=>exact fun h=>Rep.stabN (fun m b hm hb=>by cases m with | own=>exact absurd rfl hm | keep=>exact (hS _ _ hm hb).1 | lend=>exact (hS _ _ hm hb).2) h
 | pair a b iha ihb =>
  rintro vs x fp ⟨v1,v2,f1,f2,rfl,rfl,h1,h2⟩
  refine ⟨v1,v2,f1,f2,rfl,rfl,?_,?_⟩
  ·rw [show ((Ty.kept_D (.pair a b)).mpr x).1=(Ty.kept_D a).mpr x.1 from cast_fst _ (Ty.kept_D b) _ x];exact iha h1
  ·rw [show ((Ty.kept_D (.pair a b)).mpr x).2=(Ty.kept_D b).mpr x.2 from cast_snd (Ty.kept_D a) _ _ x];exact ihb h2
 | sl o e ih =>
  rintro vs x fp ⟨a,len,cap,rfl,hl,hc,hh⟩
  have key:∀ (k:(Ty.sl o.kept e.kept).D=(Ty.sl o e).D),Rep S' H (.sl o.kept e.kept) [.slice a len cap] (k.mpr x) fp:=by
   intro k
   have e1:(k.mpr x:List e.kept.D)=(x:List e.D).map ((Ty.kept_D e).mpr):=cast_list _ _ x
   have hlen:List.length (k.mpr x:List e.kept.D)=List.length x:=by rw [e1];simp
   refine ⟨a,len,cap,rfl,by rw [hlen];exact hl,hc,?_⟩
   rcases hh with h | ⟨b,off,c,el,fr,f2,rfl,hb,hsz,hr,h⟩
   ·exact .inl h
   ·refine .inr ⟨b,off,c,el,fr,f2,rfl,hb,by rw [Ty.kept_size];exact hsz,?_,?_⟩
    ·have key2:∀ (cs:List Value) (xs:List e.D) (f:List Nat),Rows (Rep S H e) e.size cs xs f→Rows (Rep S' H e.kept) e.size cs (xs.map ((Ty.kept_D e).mpr)) f:=by
      intro cs xs
      induction xs generalizing cs with
      | nil=>intro f h;exact h
      | cons y ys ihy =>
       rintro f ⟨g1,g2,rfl,k1,k2⟩
       exact ⟨g1,g2,rfl,ih k1,ihy _ _ k2⟩
     rw [e1,Ty.kept_size]
     exact key2 _ _ _ hr
    ·rcases h with ⟨h1,h2,h3⟩ | ⟨rfl,h2,h3⟩
     ·refine .inl ⟨by cases o <;> simp_all [Mode.kept],?_,h3⟩
      have:=hS _ _ h1 h2
      cases o
      ·exact absurd rfl h1
      ·exact this.1
      ·exact this.1
     ·exact .inr ⟨rfl,h2,h3⟩
  cases o
  ·exact key _
  ·exact key _
  ·exact key _
def Ty.lone:Ty→Bool
 | .sl m e=>m == .own && e.lone
 | .pair a b=>a.lone && b.lone
 | .clo _ _=>false
 | _=>true
theorem Rep.lone {S S':Stab}{H:Heap}:∀ {τ:Ty}{vs:List Value}{x:τ.D}{fp:List Nat},τ.lone=true→Rep S H τ vs x fp→Rep S' H τ vs x fp:=by
 intro τ
 induction τ with
 | int k=>exact fun _ h=>h
 | bool=>exact fun _ h=>h
 | str=>exact fun _ h=>h
 | nil=>exact fun _ h=>h
 | dead=>exact fun _ h=>h
 | unit=>exact fun _ h=>h
 | clo g c _=>exact fun hn _=>by simp [Ty.lone] at hn
 | pair a b iha ihb =>
  rintro vs x fp hn ⟨v1,v2,f1,f2,rfl,rfl,h1,h2⟩
  simp only [Ty.lone,bA] at hn
  exact ⟨v1,v2,f1,f2,rfl,rfl,iha hn.1 h1,ihb hn.2 h2⟩
 | sl o e ih =>
  rintro vs x fp hn ⟨a,len,cap,rfl,hl,hc,hh⟩
  simp only [Ty.lone,bA,beq_iff_eq] at hn
  refine ⟨a,len,cap,rfl,hl,hc,?_⟩
  rcases hh with h | ⟨b,off,c,el,fr,f2,rfl,hb,hsz,hr,h⟩
  ·exact .inl h
  ·refine .inr ⟨b,off,c,el,fr,f2,rfl,hb,hsz,Rows.mono (fun _ _ _=>ih hn.2) hr,?_⟩
   rcases h with ⟨h1,h2,h3⟩ | h
   ·exact absurd hn.1 h1
   ·exact .inr h
def castL:(ps:List Ty)→LD ps→LD (ps.map Ty.kept)
 | [],_=>()
 | τ::ps,x=>((Ty.kept_D τ).mpr x.1,castL ps x.2)
theorem Ctr.lent {P:Program}{V:Glb}{fid:Nat}{ps rs:List Ty}{F:LD (ps.map Ty.kept)→Option (LD rs)} (hrs:rs.all Ty.lone=true) (h:Ctr P V fid ⟨ps.map Ty.kept,rs,F⟩) :
  Ctr P V fid ⟨ps,rs,fun x=>F (castL ps x)⟩:=by
 refine ⟨h.enters,?_⟩
 intro w S args vals fp r hstab hkl hglb ha hnd hfp hF
 have hpar:∀ (ps:List Ty) (vals:List Value) (x:LD ps) (fp:List Nat),ArgsRel S (hp w) ps vals x fp→ArgsRel (fun _ b=>S .lend b) (hp w) (ps.map Ty.kept) vals (castL ps x) fp:=by
  intro ps
  induction ps with
  | nil=>intro vals x fp h;cases vals <;> exact h
  | cons τ ps ih =>
   intro vals x fp h
   cases vals with
   | nil=>exact h
   | cons v vals =>
    obtain ⟨ws,f1,f2,e,hr,rfl,h⟩:=h
    refine ⟨ws,f1,f2,by rw [valOf_kept];exact e,hr.kept (fun m b hm hb=>?_),rfl,ih _ _ _ h⟩
    cases m
    ·exact absurd rfl hm
    ·exact ⟨hkl _ hb,hkl _ hb⟩
    ·exact ⟨hb,hb⟩
 have hres:∀ (rs:List Ty) (rv:List Value) (x:LD rs) (g:List Nat) (S:Stab) (H:Heap),rs.all Ty.lone=true→ArgsRel S H rs rv x g→ArgsRel (fun _ _=>False) H rs rv x g:=by
  intro rs
  induction rs with
  | nil=>intro rv x g S H _ h;cases rv <;> exact h
  | cons τ rs ih =>
   intro rv x g S H hl h
   cases rv with
   | nil=>exact h
   | cons v rv =>
    simp only [List.all_cons,bA] at hl
    obtain ⟨ws,f1,f2,e,hr,rfl,h⟩:=h
    exact ⟨ws,f1,f2,e,hr.lone hl.1,rfl,ih _ _ _ _ _ hl.2 h⟩
 refine (h.calls w (fun _ b=>S .lend b) (castL ps args) vals fp r (fun _ b hb=>hstab _ b hb) (fun b hb=>hb) ⟨hglb.1,hglb.2⟩ (hpar _ _ _ _ ha) hnd (fun b hb=>⟨(hfp b hb).1,fun m hm=>(hfp b hb).2 _ hm⟩) hF).mono ?_
 rintro e w' ⟨rv,T,g,rfl,h1,h2,h3,h4,h5⟩
 exact ⟨rv,fun _=>False,g,rfl,h1,hres _ _ _ _ _ _ hrs h2,fun b hb=>hb.elim,h4,fun b hb=>⟨(h5 b hb).1,fun h=>h,(h5 b hb).2.2⟩⟩
end Go.Rf
namespace Go.Rf
theorem lk0 {α:Type}{Q:Nat→α→Prop}:∀ k x,look ([]:List (Nat×α)) k=some x→Q k x:=by
 intro k x h;cases h
theorem lk {α:Type}{Q:Nat→α→Prop} (p:Nat×α){l:List (Nat×α)} (h:Q p.1 p.2) (hl:∀ k x,look l k=some x→Q k x):∀ k x,look (p::l) k=some x→Q k x:=by
 intro k x hk
 obtain ⟨k',y⟩:=p
 simp only [look] at hk
 cases e:Nat.beq k k' with
 | true =>
  rw [e] at hk
  simp only [cond_true,sI] at hk
  subst hk
  have:=Nat.eq_of_beq_eq_true e
  subst this
  exact h
 | false =>
  rw [e] at hk
  exact hl k x hk
def fnB (E:Cz) (A:An) (pl:List Slot) (fn:Func):Bool :=
 fn.body.isSome && (!(fn.name == "runtime.NumGoroutine") && (resOK E.tab fn.results.toList A.ret && (Nat.ble A.ret.length 4 && (Nat.beq fn.ntmps E.n && (numbered 0 pl && (Nat.ble pl.length E.n && backOK A.ret))))))
theorem mk_ctr {P:Program}{E:Cz} (hE:EnvOK P E) (hm:P.follows .mixedOrders=true){A:An}{N:Nat}{pl:List Slot}{fid:Nat}{fn:Func} (hfn:P.funcs[fid]?=some fn) (hb:fnB E A pl fn=true)
  {F:LD (tys pl)→Option (LD (tys A.ret))} (hF:F=evalF E A N pl (fn.body.getD .skip)):Ctr P E.V fid ⟨tys pl,tys A.ret,F⟩:=by
 subst hF
 simp only [fnB,bA] at hb
 obtain ⟨h1,h2,h3,h4,h5,h6,h7,h8⟩:=hb
 obtain ⟨c,hc⟩:=Option.isSome_iff_exists.1 h1
 rw [hc]
 exact fn_sound hE hm ⟨hfn,hc,by simpa using h2,h3,Nat.le_of_ble_eq_true h4,Nat.eq_of_beq_eq_true h5,h6,Nat.le_of_ble_eq_true h7,h8⟩
def fnXB (E:Cz) (A:An) (pl:List Slot) (io:List PK) (ks:List OutK) (fn:Func):Bool :=
 fn.body.isSome && (!(fn.name == "runtime.NumGoroutine") && (resX E.tab fn.results.toList A.ret ks && (Nat.beq fn.ntmps E.n && (numberedX 0 pl io && (Nat.ble pl.length E.n && backX A.ret ks (ptrTs pl))))))
theorem mk_ctrX {P:Program}{E:Cz} (hE:EnvOK P E) (hm:P.follows .mixedOrders=true){A:An}{N:Nat}{pl:List Slot}{io:List PK}{ks:List OutK}{fid:Nat}{fn:Func} (hfn:P.funcs[fid]?=some fn) (hb:fnXB E A pl io ks fn=true)
  {F:LD (tys pl)→Option (LD (tys A.ret))} (hF:F=evalF E A N pl (fn.body.getD .skip)):CtrX P E.V fid ⟨io,tys pl,ks,tys A.ret,F⟩:=by
 subst hF
 simp only [fnXB,bA] at hb
 obtain ⟨h1,h2,h3,h5,h6,h7,h8⟩:=hb
 obtain ⟨c,hc⟩:=Option.isSome_iff_exists.1 h1
 rw [hc]
 exact fn_soundX hE hm ⟨hfn,hc,by simpa using h2,h3,Nat.eq_of_beq_eq_true h5,h6,Nat.le_of_ble_eq_true h7,h8⟩
end Go.Rf
namespace Go.Rf
def Ty.lent:Ty→Ty→Bool
 | .int k,.int k'=>k == k'
 | .bool,.bool=>true
 | .str,.str=>true
 | .sl m e,.sl _ e'=>m != .own && Ty.lent e e' && decide (0<e.size)
 | .unit,.unit=>true
 | .pair a b,.pair a' b'=>Ty.lent a a' && Ty.lent b b'
 | _,_=>false
def Lim:(τ:Ty)→τ.D→Prop
 | .int k,n=>(Lit.int k n).wf=true
 | .str,s=>s.size≤maxLen
 | .sl _ e,xs=>List.length xs≤maxLen∧∀ x∈(xs:List e.D),Lim e x
 | .pair a b,x=>Lim a x.1∧Lim b x.2
 | _,_=>True
theorem Ty.lent_size:∀ {σ τ:Ty},Ty.lent σ τ=true→σ.size=τ.size
 | .int _,τ,h=>by cases τ <;> simp [Ty.lent] at h ⊢ <;> rfl
 | .bool,τ,h=>by cases τ <;> simp [Ty.lent] at h ⊢ <;> rfl
 | .str,τ,h=>by cases τ <;> simp [Ty.lent] at h ⊢ <;> rfl
 | .sl _ _,τ,h=>by cases τ <;> simp [Ty.lent] at h ⊢ <;> rfl
 | .nil,τ,h=>by cases τ <;> simp [Ty.lent] at h
 | .dead,τ,h=>by cases τ <;> simp [Ty.lent] at h
 | .clo _ _,τ,h=>by cases τ <;> simp [Ty.lent] at h
 | .unit,τ,h=>by cases τ <;> simp [Ty.lent] at h ⊢ <;> rfl
 | .pair a b,τ,h=>by
  cases τ <;> simp [Ty.lent] at h
  rename_i a' b'
  simp only [Ty.size,Ty.lent_size h.1,Ty.lent_size h.2]
section
variable {H:Type}{enc:TypeId×Value→H}{P:Program}{tab:Nat→Option Ty}{w:World}
theorem cellsOf_size (hT:TabOK P tab){t:Nat}{τ:Ty} (ht:tab t=some τ):P.cellsOf t=τ.size:=by
 obtain ⟨n,_,hi⟩:=(hT t τ ht).info
 unfold Program.cellsOf
 cases e:P.info? t with
 | none=>rw [e] at hi;simp at hi
 | some i=>rw [e] at hi;simp at hi;simp [hi.1]
def LowS (w:World):Stab:=fun _ b=>b<w.heap.size
theorem cells_at {a:Addr}{n:Nat}{cs:List Value} (hn:0<n){o:Nat} (h:w.cells? 0 (a.add o) n=some cs) :
  ∃ c el fr,w.heap[a.block]?=some (.cells c el fr)∧(a.spot=none∨0<o)∧a.off+o+n≤c.size∧cs=(c.toList.drop (a.off+o)).take n:=by
 have hb:(a.add o).block=a.block:=by unfold Addr.add;split <;> rfl
 have ho:(a.add o).off=a.off+o:=by unfold Addr.add;split <;> simp_all
 have hs:(a.add o).spot=none→(a.spot=none∨0<o):=by
  unfold Addr.add
  split
  ·intro h;exact .inl h
  ·intro _;right;omega
 generalize a.add o=a' at h hb ho hs
 obtain ⟨_,hl,hc⟩:=World.cells?_some h
 have h0:=hc 0 hn
 have e0:a'.add 0=a':=by simp [Addr.add]
 rw [e0,List.getElem?_eq_getElem (by omega)] at h0
 unfold World.cell? at h0
 split at h0
 ·rename_i c el fr hblk
  rw [hb] at hblk
  have hsp:a'.spot=none:=by
   cases e:a'.spot with
   | none=>rfl
   | some _=>rw [e] at h0;simp at h0
  have hall:∀ i,i<n→c[a.off+o+i]?=cs[i]?:=by
   intro i hi
   have h1:=hc i hi
   rw [← h1]
   unfold World.cell?
   have e1:(a'.add i).block=a.block:=by rw [← hb];unfold Addr.add;split <;> rfl
   have e2:(a'.add i).off=a.off+o+i:=by rw [← ho];unfold Addr.add;split <;> simp_all
   have e3:(a'.add i).spot=none:=by unfold Addr.add;split <;> simp_all
   rw [e1,hblk]
   simp [e2,e3]
  have hlast:=hall (n-1) (by omega)
  rw [List.getElem?_eq_getElem (show n-1<cs.length by omega)] at hlast
  have hsz:a.off+o+(n-1)<c.size:=by
   rcases Nat.lt_or_ge (a.off+o+(n-1)) c.size with h | h
   ·exact h
   ·rw [Array.getElem?_eq_none h] at hlast;cases hlast
  refine ⟨c,el,fr,hblk,hs hsp,by omega,?_⟩
  apply List.ext_getElem?
  intro i
  rw [List.getElem?_take]
  split
  ·rename_i hi
   rw [← hall i hi,List.getElem?_drop]
   simp
  ·rw [List.getElem?_eq_none (by omega)]
 ·cases h0
theorem open_fields {n:Nat}{S:Stab} (hT:TabOK P tab)
  (ih:∀ (σ τ:Ty) (t:Nat) (cs:List Value) (x:DataW H×List MemPlace),tab t=some τ→Ty.lent σ τ=true→DataW.trod enc P w 0 (fun _=>true) true n t cs=some x→∃ y:σ.D,Rep S (hp w) σ cs y []∧Lim σ y) :
  ∀ (τ σ:Ty) (o:Nat) (fs:List (Nat×Nat)) (cs:List Value),fldsOK tab o τ fs=true→Ty.lent σ τ=true→cs.length=o+τ.size →
   (∀ q∈fs,∃ x,DataW.trod enc P w 0 (fun _=>true) true n q.2 ((cs.drop q.1).take (P.cellsOf q.2))=some x) →
   ∃ y:σ.D,Rep S (hp w) σ (cs.drop o) y []∧Lim σ y:=by
 intro τ
 induction τ with
 | int k=>intro σ o fs cs h;cases fs <;> simp [fldsOK] at h
 | bool=>intro σ o fs cs h;cases fs <;> simp [fldsOK] at h
 | str=>intro σ o fs cs h;cases fs <;> simp [fldsOK] at h
 | sl m e=>intro σ o fs cs h;cases fs <;> simp [fldsOK] at h
 | nil=>intro σ o fs cs h;cases fs <;> simp [fldsOK] at h
 | dead=>intro σ o fs cs h;cases fs <;> simp [fldsOK] at h
 | clo g c _=>intro σ o fs cs h;cases fs <;> simp [fldsOK] at h
 | unit =>
  intro σ o fs cs h hl hlen _
  cases σ <;> simp [Ty.lent] at hl
  refine ⟨(),⟨?_,rfl⟩,trivial⟩
  apply List.drop_of_length_le
  simp [Ty.size] at hlen;omega
 | pair a b iha ihb =>
  intro σ o fs cs h hl hlen hf
  cases σ <;> simp [Ty.lent] at hl
  rename_i a' b'
  cases fs with
  | nil=>simp [fldsOK] at h
  | cons q fs =>
   obtain ⟨off,t⟩:=q
   simp only [fldsOK,bA,beq_iff_eq] at h
   obtain ⟨⟨rfl,ht⟩,hr⟩:=h
   obtain ⟨x,hx⟩:=hf (off,t) (by simp)
   simp only [cellsOf_size hT ht] at hx
   obtain ⟨y1,hy1,hm1⟩:=ih a' a t _ x ht hl.1 hx
   obtain ⟨y2,hy2,hm2⟩:=ihb b' (off+a.size) fs cs hr hl.2 (by rw [hlen];simp [Ty.size];omega) (fun q hq=>hf q (by simp [hq]))
   refine ⟨(y1,y2),⟨_,_,[],[],?_,rfl,hy1,hy2⟩,hm1,hm2⟩
   rw [← List.drop_drop,List.take_append_drop]
theorem open_rows {n:Nat}{S:Stab}{e' e:Ty}{el:Nat} (hs:0<e.size) (hee:e'.size=e.size) (C:List Value) (off:Nat)
  (g:∀ i,∀ (cs:List Value),cs=(C.drop (off+i*e.size)).take e.size→i<n→∃ y:e'.D,Rep S (hp w) e' cs y []∧Lim e' y) :
  ∀ k i,i+k=n→∃ ys:List e'.D,ys.length=k∧Rows (Rep S (hp w) e') e'.size (C.drop (off+i*e.size)) ys []∧∀ y∈ys,Lim e' y:=by
 intro k
 induction k with
 | zero=>intro i _;exact ⟨[],rfl,rfl,by simp⟩
 | succ k ih =>
  intro i hi
  obtain ⟨y,hy,hm⟩:=g i _ rfl (by omega)
  obtain ⟨ys,hl,hr,hms⟩:=ih (i+1) (by omega)
  refine ⟨y::ys,by simp [hl],⟨[],[],rfl,by rw [hee];exact hy,?_⟩,?_⟩
  ·rw [List.drop_drop,hee,show off+i*e.size+e.size=off+(i+1)*e.size by rw [Nat.add_mul];omega]
   rw [hee] at hr
   exact hr
  ·intro z hz
   rcases List.mem_cons.1 hz with rfl | hz
   ·exact hm
   ·exact hms z hz
theorem open_trod (hT:TabOK P tab):∀ (n:Nat) (σ τ:Ty) (t:Nat) (cs:List Value) (x:DataW H×List MemPlace),tab t=some τ→Ty.lent σ τ=true→DataW.trod enc P w 0 (fun _=>true) true n t cs=some x →
  ∃ y:σ.D,Rep (LowS w) (hp w) σ cs y []∧Lim σ y:=by
 intro n
 induction n with
 | zero=>intro σ τ t cs x _ _ h;simp [DataW.trod] at h
 | succ n ih =>
  intro σ τ t cs x ht hl h
  obtain ⟨d,hd,hok⟩:=(hT t τ ht).desc
  cases hu:P.underlying t with
  | none=>rw [hu] at hd;simp at hd
  | some u =>
   rw [hu] at hd
   simp only [Option.map_some,sI] at hd
   subst hd
   cases τ with
   | int k =>
    cases σ <;> simp [Ty.lent] at hl
    subst hl
    cases u <;> simp [dk,descOK] at hok
    subst hok
    obtain ⟨m,rfl,_,hw⟩:=DataW.trod_int hu h
    exact ⟨m,⟨rfl,rfl⟩,hw⟩
   | bool =>
    cases σ <;> simp [Ty.lent] at hl
    cases u <;> simp [dk,descOK] at hok
    obtain ⟨b,rfl,_⟩:=DataW.trod_bool hu h
    exact ⟨b,⟨rfl,rfl⟩,trivial⟩
   | str =>
    cases σ <;> simp [Ty.lent] at hl
    cases u <;> simp [dk,descOK] at hok
    obtain ⟨s,rfl,_,hw⟩:=DataW.trod_string hu h
    exact ⟨s,⟨rfl,rfl⟩,hw⟩
   | nil=>cases σ <;> simp [Ty.lent] at hl
   | dead=>cases σ <;> simp [Ty.lent] at hl
   | clo g c=>cases σ <;> simp [Ty.lent] at hl
   | unit =>
    cases σ <;> simp [Ty.lent] at hl
    cases u <;> simp [dk,descOK] at hok
    rename_i fs
    obtain ⟨xs,m,_,_,hlen,_⟩:=DataW.trod_struct hu h
    rw [cellsOf_size hT ht] at hlen
    exact ⟨(),⟨List.eq_nil_of_length_eq_zero hlen,rfl⟩,trivial⟩
   | pair a b =>
    cases u <;> simp [dk,descOK] at hok
    rename_i fs
    obtain ⟨xs,m,hm,_,hlen,hxl,hf⟩:=DataW.trod_struct hu h
    simp only [Nat.succ.injEq] at hm
    subst hm
    rw [cellsOf_size hT ht] at hlen
    have:=open_fields (S:=LowS w) hT ih (.pair a b) σ 0 _ cs hok hl (by omega) (fun q hq=>?_)
    ·simpa using this
    ·obtain ⟨f,hfm,rfl⟩:=List.mem_map.1 hq
     obtain ⟨i,hi⟩:=List.mem_iff_getElem?.1 hfm
     have hi':fs[i]?=some f:=by simpa using hi
     have hlt:i<fs.size:=by
      rcases Nat.lt_or_ge i fs.size with h | h
      ·exact h
      ·rw [Array.getElem?_eq_none h] at hi';cases hi'
     have:=hf i f hi'
     rw [List.getElem?_eq_getElem (by omega)] at this
     exact ⟨_,this⟩
   | sl m e =>
    cases σ <;> simp [Ty.lent] at hl
    rename_i m' e'
    obtain ⟨⟨hno,hle⟩,hpos⟩:=hl
    cases u <;> simp [dk,descOK] at hok
    rename_i el
    have hsz:=Ty.lent_size hle
    rcases DataW.trod_slice hu h with ⟨rfl,_⟩ | ⟨a,len,cap,elems,rest,m,hm,rfl,_,_,hlc,hcm,hel,helem,hspare,_⟩
    ·exact ⟨[],⟨_,_,_,rfl,rfl,Nat.le_refl _,.inl ⟨rfl,rfl⟩⟩,by simp,by simp⟩
    ·simp only [Nat.succ.injEq] at hm
     subst hm
     obtain ⟨hrl,hrest⟩:=hspare rfl
     rw [cellsOf_size hT hok] at helem hrest
     -- every cell up to the capacity
     have hall:∀ i,i<cap→∃ cs z,w.cells? 0 (a.add (i*e.size)) e.size=some cs∧DataW.trod enc P w 0 (fun _=>true) true n el cs=some z:=by
      intro i hi
      rcases Nat.lt_or_ge i len with h1 | h1
      ·have h2:=helem i h1
       rw [List.getElem?_eq_getElem (by omega)] at h2
       obtain ⟨cs,h3,h4⟩:=Option.bind_eq_some_iff.1 h2
       exact ⟨cs,_,h3,h4⟩
      ·have h2:=hrest (i-len) (by omega)
       rw [List.getElem?_eq_getElem (by omega),show len+(i-len)=i by omega] at h2
       obtain ⟨cs,h3,h4⟩:=Option.bind_eq_some_iff.1 h2
       exact ⟨cs,_,h3,h4⟩
     rcases Nat.eq_zero_or_pos cap with rfl | hcp
     ·have:len=0:=by omega
      subst this
      exact ⟨[],⟨_,_,_,rfl,rfl,Nat.le_refl _,.inl ⟨rfl,rfl⟩⟩,by simp,by simp⟩
     ·obtain ⟨cs0,z0,hc0,_⟩:=hall 0 hcp
      rw [Nat.zero_mul] at hc0
      obtain ⟨c,el',fr,hblk,hsp,_,_⟩:=cells_at (hsz▸hpos) hc0
      have hsp:a.spot=none:=by
       rcases hsp with h | h
       ·exact h
       ·omega
      have hcell:∀ i,i<cap→a.off+i*e.size+e.size≤c.size∧∃ z,DataW.trod enc P w 0 (fun _=>true) true n el ((c.toList.drop (a.off+i*e.size)).take e.size)=some z:=by
       intro i hi
       obtain ⟨cs,z,h1,h2⟩:=hall i hi
       obtain ⟨c',el2,fr2,hblk2,_,hb,rfl⟩:=cells_at (hsz▸hpos) h1
       rw [hblk] at hblk2
       cases hblk2
       exact ⟨hb,z,h2⟩
      obtain ⟨ys,hyl,hyr,hym⟩:=open_rows (n:=len) (S:=LowS w) (w:=w) (e':=e') (e:=e) (el:=el) (hsz▸hpos) hsz c.toList a.off (fun i cs hcs hi=>by
       subst hcs
       obtain ⟨z,hz⟩:=(hcell i (by omega)).2
       exact ih e' e el _ z hok hle hz) len 0 (by omega)
      refine ⟨ys,⟨some a,len,cap,rfl,hyl.symm,hlc,.inr ⟨a.block,a.off,c,el',fr,[],?_,hblk,?_,?_,.inl ⟨hno,?_,rfl,rfl⟩⟩⟩,by rw [hyl];omega,hym⟩
      ·cases a;simp at hsp;simp [hsp]
      ·have:=(hcell (cap-1) (by omega)).1
       rw [hsz]
       have e1:cap*e.size=(cap-1)*e.size+e.size:=by
        rw [← Nat.succ_mul];congr 1;omega
       omega
      ·simpa using hyr
      ·exact (Array.getElem?_eq_some_iff.1 hblk).1
end
end Go.Rf
namespace Go.Rf
open Go.ChangeShapes Go.WideShapes Go.ChangeAt Go.RowKit
def TysOK (tab:Nat→Option Ty):List Nat→List Ty→Bool
 | [],[]=>true
 | t::ts,σ::σs=>(match tab t with | some τ=>Ty.lent σ τ | none=>false) && TysOK tab ts σs
 | _,_=>false
def LimA:(ps:List Ty)→LD ps→Prop
 | [],_=>True
 | τ::ps,x=>Lim τ x.1∧LimA ps x.2
section
variable {H:Type}{enc:TypeId×Value→H}{P:Program}{tab:Nat→Option Ty}{w:World}
theorem valOf_ok (hT:TabOK P tab){σ τ:Ty}{t:Nat}{v:Value}{b:Nat} (ht:tab t=some τ) (hl:Ty.lent σ τ=true) (hv:Value.okWide P w .any b t v):v=valOf σ v.cells.toList:=by
 obtain ⟨d,hd,hok⟩:=(hT t τ ht).desc
 cases hu:P.underlying t with
 | none=>rw [hu] at hd;simp at hd
 | some u =>
  rw [hu] at hd
  simp only [Option.map_some,sI] at hd
  subst hd
  cases τ with
  | int k =>
   cases σ <;> simp [Ty.lent] at hl
   cases u <;> simp [dk,descOK] at hok
   obtain ⟨n,rfl⟩:=okWide_int hu hv
   rfl
  | bool =>
   cases σ <;> simp [Ty.lent] at hl
   cases u <;> simp [dk,descOK] at hok
   obtain ⟨n,rfl⟩:=okWide_bool hu hv
   rfl
  | str =>
   cases σ <;> simp [Ty.lent] at hl
   cases u <;> simp [dk,descOK] at hok
   obtain ⟨n,rfl⟩:=okWide_string hu hv
   rfl
  | nil=>cases σ <;> simp [Ty.lent] at hl
  | dead=>cases σ <;> simp [Ty.lent] at hl
  | clo g c=>cases σ <;> simp [Ty.lent] at hl
  | unit =>
   cases σ <;> simp [Ty.lent] at hl
   cases u <;> simp [dk,descOK] at hok
   obtain ⟨cs,rfl,_⟩:=okWide_struct hu hv
   rfl
  | pair a b =>
   cases σ <;> simp [Ty.lent] at hl
   cases u <;> simp [dk,descOK] at hok
   obtain ⟨cs,rfl,_⟩:=okWide_struct hu hv
   rfl
  | sl m e =>
   cases σ <;> simp [Ty.lent] at hl
   cases u <;> simp [dk,descOK] at hok
   obtain ⟨a,l,c,rfl⟩:=okWide_slice hu hv
   rfl
theorem open_all (hT:TabOK P tab):∀ (ts:List Nat) (σs:List Ty) (vals:List Value) (ds:List (DataW H)) (p:List MemPlace),TysOK tab ts σs=true →
  DataW.TrodAll enc P w 0 (fun _=>true) true ts vals ds p→(∀ (j:Nat) t v,ts[j]?=some t→vals[j]?=some v→∃ b,Value.okWide P w .any b t v) →
  ∃ x:LD σs,ArgsRel (LowS w) (hp w) σs vals x []∧LimA σs x:=by
 intro ts
 induction ts with
 | nil =>
  intro σs vals ds p ho h _
  cases σs <;> simp [TysOK] at ho
  cases vals <;> cases ds <;> simp [DataW.TrodAll] at h
  exact ⟨(),rfl,trivial⟩
 | cons t ts ih =>
  intro σs vals ds p ho h hv
  cases σs with
  | nil=>simp [TysOK] at ho
  | cons σ σs =>
   cases vals with
   | nil=>simp [DataW.TrodAll] at h
   | cons v vals =>
    cases ds with
    | nil=>simp [DataW.TrodAll] at h
    | cons d ds =>
     simp only [DataW.TrodAll] at h
     obtain ⟨p1,q1,⟨fuel,h1⟩,h2,rfl⟩:=h
     simp only [TysOK,bA] at ho
     obtain ⟨ho1,ho2⟩:=ho
     split at ho1
     ·rename_i τ ht
      obtain ⟨y,hy,hm⟩:=open_trod (w:=w) hT fuel σ τ t _ _ ht ho1 h1
      obtain ⟨x,hx,hxm⟩:=ih σs vals ds q1 ho2 h2 (fun j t' v' hj hj'=>hv (j+1) t' v' (by simpa using hj) (by simpa using hj'))
      obtain ⟨b,hvv⟩:=hv 0 t v rfl rfl
      exact ⟨(y,x),⟨_,[],[],valOf_ok hT ht ho1 hvv,hy,rfl,hx⟩,hm,hxm⟩
     ·cases ho1
theorem trodAll_stays (hl:laidOutB P=true){W W':World} (hb:Below W.heap.size W W'):∀ (ts:List TypeId) (vals:List Value) (ds:List (DataW H)) (p:List MemPlace),(∀ t∈ts,P.readableRec t=true∧t<P.types.size) →
  DataW.TrodAll enc P W 0 (fun _=>true) true ts vals ds p→DataW.TrodAll enc P W' 0 (fun b=>decide (b<W.heap.size)) true ts vals ds p:=by
 intro ts
 induction ts with
 | nil=>intro vals ds p _ h;cases vals <;> cases ds <;> simp only [DataW.TrodAll] at h ⊢;exact h
 | cons t ts ih =>
  intro vals ds p hr h
  cases vals with
  | nil=>simp [DataW.TrodAll] at h
  | cons v vals =>
   cases ds with
   | nil=>simp [DataW.TrodAll] at h
   | cons d ds =>
    simp only [DataW.TrodAll] at h ⊢
    obtain ⟨p1,q1,h1,h2,rfl⟩:=h
    refine ⟨p1,q1,Below.trod hl (hr t (by simp)).1 (hr t (by simp)).2 h1 hb ?_,ih vals ds q1 (fun t' ht'=>hr t' (by simp [ht'])) h2,rfl⟩
    obtain ⟨m,hm⟩:=h1
    exact DataW.trod_lt m _ _ _ hm
end
theorem law_calls {P:Program}{V:Glb}{fid:Nat}{ps:List Ty}{F:Nat→LD ps→Option (LD [.bool])} (hc:∀ N,Ctr P V fid ⟨ps,[.bool],F N⟩){w:World}{vals:List Value}{x:LD ps}
  (hF:∃ N,F N x=some (true,())) (hV:∀ b,b<V.n→b<w.heap.size) (hg:V.holds w) (ha:ArgsRel (LowS w) (hp w) ps vals x []) :
  Calls P fid vals.toArray w fun e w'=>e=.returned (.bool true)∧Below w.heap.size w w':=by
 obtain ⟨N,hN⟩:=hF
 refine ((hc N).calls w (LowS w) x vals [] (true,()) (fun _ _ h=>h) (fun _ h=>h) ⟨hV,hg⟩ ha List.nodup_nil (fun b hb=>by cases hb) hN).mono ?_
 rintro e w' ⟨rv,T,g,rfl,hf,hr,_⟩
 constructor
 ·match rv,hr with
  | [v],⟨ws,f1,f2,e1,⟨e2,_⟩,_⟩=>subst e2;rw [e1];rfl
 ·exact ⟨hf.os,hf.tape,hf.output,hf.size,fun k hk=>hf.block k hk (by intro h;cases h)⟩
theorem law_lifted {H:Type}{enc:TypeId×Value→H}{C:Checked}{os:Os}{fid:FuncId}{fn:Func}{s:ChangeSpec}{laid:List (String×DataW Unit)}{tab:Nat→Option Ty}{V:Glb}{ps:List Ty}
  {F:Nat→LD ps→Option (LD [.bool])}{tb:TypeId}
  (hT:TabOK C.prog tab) (hc:∀ N,Ctr C.prog V fid ⟨ps,[.bool],F N⟩) (hF:∀ x,LimA ps x→∃ N,F N x=some (true,()))
  (hG:∀ W:World,laidMet C.prog laid W→W.ShapedOpen C.prog→(∀ b,b<V.n→b<W.heap.size)∧V.holds W)
  (hts:TysOK tab fn.params.toList ps=true) (hlo:laidOutB C.prog=true) (hr:∀ t∈fn.params.toList,C.prog.readableRec t=true∧t<C.prog.types.size)
  (hres:fn.resultTypes.toList=[tb]) (htb:C.prog.underlying tb=some .bool)
  (hs:∀ ds:List (DataW H),ds.length=fn.params.size→s.fn H ds={ results:=[.lit (.bool true)],args:=ds }) (hsv:s.vars=[])
  (own:ownKnob C.prog.godebug=none) (started:os.Started) (noInit:C.prog.inits.idxOf? fid=none) (hfn:C.prog.funcs[fid]?=some fn)
  (witness:∃ (w:World) (tape:Tape) (i:Input),w.os=os∧(w.forCall tape i).Shaped C.prog∧i.vars=[]∧Input.okWide C.prog (w.forCall tape i) .any w.heap.size fid i ∧
   ((s.pre enc C.prog fn [] false (w.forCall tape i).memory i.args∧laidMet C.prog laid (w.forCall tape i).memory)∧sizedMet enc C.prog fn (OpenSpec.ofChange s) false (w.forCall tape i).memory i.args)∧({}:Assume).holds C.prog (lone (Frame.enter C.prog fid i.args .normal) [] (w.forCall tape i))) :
  ReturnsInHanded {} C os fid .any (fun w args=>(s.pre enc C.prog fn [] false w args∧laidMet C.prog laid w)∧sizedMet enc C.prog fn (OpenSpec.ofChange s) false w args) (s.post enc C.prog fn false true false false):=by
 refine returnsInHanded_of_calls own started noInit witness ?_
 intro w tape i _ hsh _ hok hpre _
 obtain ⟨_,_,_,fn',hfn',_,_,_,hsz,hval⟩:=hok
 have e:fn'=fn:=Option.some.inj (hfn'.symm.trans hfn)
 subst e
 obtain ⟨⟨⟨ds,gs,before,hw,_⟩,hx⟩,_⟩:=hpre
 have hw':=DataW.Whole.of_heap (w':=w.forCall tape i) (by rfl) hw
 have hx':laidMet C.prog laid (w.forCall tape i):=hx.of_heap (by rfl)
 obtain ⟨hVn,hVh⟩:=hG _ hx' hsh
 generalize hWW:w.forCall tape i=W at *
 have hW':=hw'
 obtain ⟨p,q,hA,hV,rfl,_,_⟩:=hw'
 rw [hsv] at hV
 obtain ⟨rfl,rfl⟩:=trodVars_none hV
 obtain ⟨x,hax,hlx⟩:=open_all (w:=W) hT fn'.params.toList ps i.args.toList ds p hts hA (fun j t v h1 h2=>⟨_,hval j t v (by simpa using h1) (by simpa using h2)⟩)
 have hlen:ds.length=fn'.params.size:=by
  have key:∀ (ts:List TypeId) (vs:List Value) (ds:List (DataW H)) (p:List MemPlace),DataW.TrodAll enc C.prog W 0 (fun _=>true) true ts vs ds p→ds.length=ts.length:=by
   intro ts
   induction ts with
   | nil=>intro vs ds p h;cases vs <;> cases ds <;> simp [DataW.TrodAll] at h ⊢
   | cons t ts ih =>
    intro vs ds p h
    cases vs <;> cases ds <;> simp only [DataW.TrodAll] at h
    obtain ⟨_,_,_,h2,_⟩:=h
    simp [ih _ _ _ h2]
  simpa using key _ _ _ _ hA
 have hcall:=law_calls hc (hF x hlx) hVn hVh hax
 refine (show Calls C.prog fid i.args W _ by simpa using hcall).mono ?_
 rintro e W' ⟨rfl,hb⟩
 refine ChangeSpec.post_blind ?_
 have hsd:=hs (ds++[]) (by simpa using hlen)
 refine ⟨ds,[],p++[],[],p,[],by rw [hsv];rw [hsv] at hW';exact hW',?_,?_,?_,hb.frame _,fun h=>by cases h⟩
 ·rw [hsd,hres]
  have e1:fn'.resultTypes.size=1:=by
   have:=congrArg List.length hres;simpa using this
  rw [e1]
  exact trodAll_mk1 (shut_bool htb _)
 ·rw [hsd]
  have:=trodAll_stays (enc:=enc) hlo hb fn'.params.toList i.args.toList ds p hr hA
  simpa using this
 ·rw [hsd,hsv]
  rfl
end Go.Rf
