/-
  Maps as they lie in the memory; drawn regions walked by hand; slices.Clone; of whatever program.
-/
import Derived.Test.YtkifpahhppbdkaaGreatDoorYRfD
import Derived.Maps.Keyed
import Derived.DeepKeys4
set_option linter.unusedSimpArgs false
set_option linter.unusedVariables false
set_option autoImplicit false
namespace Go.Rf

section
variable {P : Program} {C : Cx} {w0 w w' : World} {G : Blk} {st st' : St} {a : Act} {S : Stab} {pls : Nat → Pl} {X : Nat → List Nat}

/-- a world in which all that a state speaks of is as it was -/
theorem Inv.other (hI : Inv C w0 G st a w S pls X) (hos : w'.os = w.os) (htape : w'.tape = w.tape) (hout : w'.output = w.output) (hsz : w.heap.size ≤ w'.heap.size)
    (hb : ∀ b, b < w.heap.size → ((∃ m, S m b) ∨ (∃ i, b ∈ X i) ∨ (b < w0.heap.size ∧ b ∉ G)) → hp w' b = hp w b) : Inv C w0 G st a w' S pls X := by
  have hS : ∀ m b, S m b → hp w' b = hp w b := fun m b h => hb b (hI.stab m b h) (.inl ⟨m, h⟩)
  have hX : ∀ id, ∀ b ∈ X id, hp w' b = hp w b := fun id b h => hb b (hI.own id b h).1 (.inr (.inl ⟨id, h⟩))
  refine { kl := hI.kl, size := hI.size, defers := hI.defers, glb := glb_of hS (fun _ _ h => h) hI.glb, pin := hI.pin, nd := hI.nd, dis := hI.dis, frm := ?_, stab := ?_, own := ?_, roots := ?_, tmps := ?_ }
  · refine ⟨hos.trans hI.frm.os, htape.trans hI.frm.tape, hout.trans hI.frm.output, Nat.le_trans hI.frm.size hsz, fun b hb0 hG => ?_⟩
    rw [hb b (Nat.lt_of_lt_of_le hb0 hI.frm.size) (.inr (.inr ⟨hb0, hG⟩))]; exact hI.frm.block b hb0 hG
  · intro m b h; exact Nat.lt_of_lt_of_le (hI.stab m b h) hsz
  · intro id b h; obtain ⟨h1, h2⟩ := hI.own id b h; exact ⟨Nat.lt_of_lt_of_le h1 hsz, h2⟩
  · intro id r hr
    have h := hI.roots id r hr
    obtain ⟨k, τ, x⟩ := r
    cases k <;> cases hpl : pls id <;> rw [hpl] at h <;> simp only [RootRel] at h ⊢
    · obtain ⟨vs, l, fp, h1, h2, h3⟩ := h
      refine ⟨vs, l, fp, h1.heap (fun B o' e => hX id B ?_), h2.heap hS (fun b hb => hX id b (by rw [h3]; simp [hb])), h3⟩
      obtain ⟨_, _, rfl, _⟩ := h1
      simp only [Option.some.injEq, Prod.mk.injEq] at e
      rw [h3]; simp [e.1]
    · exact h.heap hS (hX id)
  · intro t
    exact TRel.heap hI.roots hS (fun _ _ h => h) (fun id _ => ⟨rfl, rfl, hX id⟩) (hI.tmps t)
end

/-! ## Maps, raw -/
section
open Go.Maps Go.ChangeMaps Go.MapKept
variable {P : Program} {w : World} {k t e : TypeId}

theorem map_look (K : Keyed P k) (ht : P.underlying t = some (.map k e)) {z : Value} (hz : (zeroValue e).run P w = .ok z w) {b : Nat} {es : Array MapEntry} {clock : Nat} (hb : w.heap[b]? = some (.map es clock))
    (hall : ∀ x ∈ es.toList, ∃ l, keyOf P k x.key = some l) {key : Value} {kl : Lit} (hkey : keyOf P k key = some kl) :
    ∃ v, (Instr.lookup t (.map (some b)) key false).run P w = .ok v w ∧ (v = z ∨ ∃ x ∈ es.toList, x.key = key ∧ v = x.val) := by
  rcases K.find w hkey es.toList hall with ⟨h1, h2⟩ | ⟨j, e0, h1, h2, h3⟩
  · exact ⟨z, by simp [Instr.lookup, run_underlying ht, MapKept.run_getObj_map hb, K.check w _ hkey, h1, hz, Result.andThen], .inl rfl⟩
  · exact ⟨e0.val, by simp [Instr.lookup, run_underlying ht, MapKept.run_getObj_map hb, K.check w _ hkey, h1, Result.andThen], .inr ⟨e0, List.mem_of_getElem? h2, h3, rfl⟩⟩

theorem map_put (K : Keyed P k) (ht : P.underlying t = some (.map k e)) {b : Nat} {es : Array MapEntry} {clock : Nat} (hb : w.heap[b]? = some (.map es clock))
    (hall : ∀ x ∈ es.toList, ∃ l, keyOf P k x.key = some l) {key val : Value} {kl : Lit} (hkey : keyOf P k key = some kl) :
    ∃ es' clock', (Instr.mapUpdate t (.map (some b)) key val).run P w = .ok () (setBlock w b (.map es' clock')) ∧ ∀ x ∈ es'.toList, x ∈ es.toList ∨ (x.key = key ∧ x.val = val) := by
  rcases K.find w hkey es.toList hall with ⟨h1, h2⟩ | ⟨j, e0, h1, h2, h3⟩
  · refine ⟨es.push ⟨key, val, clock⟩, clock + 1, by simp [Instr.mapUpdate, run_underlying ht, MapKept.run_getObj_map hb, K.check w false hkey, h1, MapKept.run_setObj_map _ hb, Result.andThen, setBlock], ?_⟩
    intro x hx
    simp only [Array.toList_push, List.mem_append, List.mem_singleton] at hx
    rcases hx with hx | rfl
    · exact .inl hx
    · exact .inr ⟨rfl, rfl⟩
  · have hj : es[j]? = some e0 := by simpa using h2
    have hlist : (es.modify j (fun e' => { e' with key := key, val := val })).toList = es.toList.set j { e0 with key := key, val := val } := by rw [Array.toList_modify, modify_eq_set _ _ _ _ h2]
    refine ⟨es.modify j (fun e' => { e' with key := key, val := val }), clock, ?_, ?_⟩
    · simp [Instr.mapUpdate, run_underlying ht, MapKept.run_getObj_map hb, K.check w false hkey, h1, hj, h3, K.stays w hkey, MapKept.run_setObj_map _ hb, Result.andThen, setBlock]
    · intro x hx
      rw [hlist] at hx
      rcases List.mem_or_eq_of_mem_set hx with hx | rfl
      · exact .inl hx
      · exact .inr ⟨rfl, rfl⟩
end
end Go.Rf

namespace Go.Rf

/-! ## Regions by hand -/
def guardV (ops : Array Oper) (st : St) (o : Oper) : Option Bool :=
  match o.guard with
  | none => some true
  | some (g, b) => match (ops[g]?).bind (·.dst) with
    | none => none
    | some dg => match st.tmps dg with
      | .a (.v .bool t) => some (t == b)
      | _ => none

def thinkK (E : Cz) (ops : Array Oper) {R : Type} : List Nat → Array Bool → St → (Array Bool → St → Option R) → Option R
  | [], L, st, K => K L st
  | i :: is, L, st, K => if Region.free .any ops L i = true ∧ (Region.ready .any ops L).contains i = true then
      (match ops[i]? with
      | some o => (match o.dst with
        | some d => if d < E.n then
            (match guardV ops st o with
            | some true => pureK E.toCx st o.op fun tv => thinkK E ops is (L.setIfInBounds i true) (st.put (some d) tv) K
            | some false => thinkK E ops is (L.setIfInBounds i true) (st.put (some d) (.tup [])) K
            | none => none) else none
        | none => none)
      | none => none) else none

section
variable {P : Program} {E : Cz} {w0 w w' : World} {G : Blk} {st st' : St} {a : Act} {S : Stab} {pls : Nat → Pl} {X : Nat → List Nat} {ops : Array Oper}

theorem guardV_wanted {C : Cx} (hI : Inv C w0 G st a w S pls X) {o : Oper} {b : Bool} (h : guardV ops st o = some b) : Region.wanted o (yielded ops a.tmps) = b := by
  unfold guardV at h
  split at h
  · rename_i hg; cases h; simp [Region.wanted, hg]
  · rename_i g b' hg
    split at h
    · cases h
    · rename_i dg hdg
      split at h
      · rename_i t ht
        cases h
        have hv := hI.tmps dg
        rw [ht] at hv
        obtain ⟨vs, hv, ⟨rfl, _⟩⟩ := hv
        rw [wanted_of hg hdg hv]; simp [valOf, Ty.isAgg, isB]
      · cases h

theorem think_sound (hT : TabOK P E.tab) (hs : Region.noSelect ops = true) {Q : Exit → Act → World → Prop} (hpan : ∀ c a w, ¬ Q (.panic c) a w) {J : World → Prop} (hJw : J w) (hJ : ∀ w', J w' → (∀ m b, S m b → hp w' b = hp w b) ∧ ∀ i, ∀ b ∈ X i, hp w' b = hp w b) {R : Type}
    {K : Array Bool → St → Option R} {r : R} : ∀ (is : List Nat) (fuel : Nat) {L : Array Bool} {st : St} {a : Act}, thinkK E ops is L st K = some r → is.length ≤ fuel → Inv E.toCx w0 G st a w S pls X →
      (∀ L' st' a', K L' st' = some r → Inv E.toCx w0 G st' a' w S pls X → (∀ t, t ∉ dsts (is.filterMap (ops[·]?)) → a'.tmps.getD t undef = a.tmps.getD t undef) → wpAnyH P .any ops Q J (fuel - is.length) L' a' w) →
      wpAnyH P .any ops Q J fuel L a w := by
  intro is
  induction is with
  | nil =>
    intro fuel L st a h _ hI hend
    exact hend L st a h hI (fun _ _ => rfl)
  | cons i is ih =>
    intro fuel L st a h hf hI hend
    simp only [thinkK] at h
    split at h
    rotate_left
    · cases h
    rename_i hc
    split at h
    rotate_left
    · cases h
    rename_i o ho
    split at h
    rotate_left
    · cases h
    rename_i d hd
    split at h
    rotate_left
    · cases h
    rename_i hdr
    obtain ⟨f, rfl⟩ : ∃ f, fuel = f + 1 := ⟨fuel - 1, by simp only [List.length_cons] at hf; omega⟩
    have hlen : f + 1 - (i :: is).length = f - is.length := by simp only [List.length_cons]; omega
    have step : ∀ {tv : TV} {v : Value}, thinkK E ops is (L.setIfInBounds i true) (st.put (some d) tv) K = some r → YieldsIf P ops J o v a → TRel S (hp w) pls st.roots v tv → wpAnyH P .any ops Q J (f + 1) L a w := by
      intro tv v h hy hv
      refine wpAnyH_take (v := v) ho hs hc.1 hc.2 (fun c a w hq => absurd hq (hpan _ _ _)) hy hJw ?_
      refine ih f h (by simp only [List.length_cons] at hf; omega) (by rw [hd]; exact hI.put (fun d' e => by cases e; exact hdr) hv) (fun L' st' a' h1 h2 h3 => ?_)
      rw [← hlen]
      refine hend L' st' a' h1 h2 (fun t ht => ?_)
      have hm : ∀ t, t ∉ dsts ((i :: is).filterMap (ops[·]?)) → t ≠ d ∧ t ∉ dsts (is.filterMap (ops[·]?)) := by
        intro t ht
        simp only [List.filterMap_cons, ho, dsts, hd, List.mem_cons, not_or] at ht
        exact ht
      rw [h3 t (hm t ht).2, hd, act_put (fun e => (hm t ht).1 (by cases e; rfl))]
    split at h
    · rename_i hg
      rw [pureK_bind] at h
      obtain ⟨tv, h1, h2⟩ := Option.bind_eq_some_iff.1 h
      obtain ⟨v, hrun, hv⟩ := pure_run hT hI h1
      refine step h2 (.inl ⟨guardV_wanted hI hg, fun w' hw' => hrun w' ⟨(hJ w' hw').1, fun id _ => (hJ w' hw').2 id⟩⟩) hv
    · rename_i hg
      exact step h (.inr ⟨guardV_wanted hI hg, rfl⟩) ⟨[], rfl, trivial⟩
    · cases h

/-- one whose value is known otherwise -/
theorem think_hand (hs : Region.noSelect ops = true) {Q : Exit → Act → World → Prop} (hpan : ∀ c a w, ¬ Q (.panic c) a w) {J : World → Prop} (hJw : J w) {i d : Nat} {o : Oper} {v : Value} {f : Nat} {L : Array Bool} (ho : ops[i]? = some o) (hd : o.dst = some d)
    (hc : (Region.free .any ops L i && (Region.ready .any ops L).contains i) = true) (hw : Region.wanted o (yielded ops a.tmps) = true) (hrun : ∀ w', J w' → (execOp a.eval o).run P w' = .ok (.value v) w')
    (h : wpAnyH P .any ops Q J f (L.setIfInBounds i true) (a.put (some d) v) w) : wpAnyH P .any ops Q J (f + 1) L a w := by
  rw [Bool.and_eq_true] at hc
  refine wpAnyH_take (v := v) ho hs hc.1 hc.2 (fun c a w hq => absurd hq (hpan _ _ _)) (.inl ⟨hw, hrun⟩) hJw ?_
  rw [hd]; exact h

/-- one that must come up now -/
theorem only_hand {Q : Exit → Act → World → Prop} {J : World → Prop} {i : Nat} {o : Oper} {f : Nat} {L : Array Bool} (ho : ops[i]? = some o) (hr : Region.ready .any ops L = [i]) (hw : Region.wanted o (yielded ops a.tmps) = true)
    (h : o.wp P a w (fun a' w' => J w' ∧ wpAnyH P .any ops Q J f (L.setIfInBounds i true) a' w') Q) : wpAnyH P .any ops Q J (f + 1) L a w := by
  refine wpAnyH_all hr (by simp) (fun j hj => ?_)
  simp only [List.mem_singleton] at hj
  subst hj
  unfold wpOp
  simp only [ho, hw, if_true]
  exact .inl h

theorem only_skip {Q : Exit → Act → World → Prop} {J : World → Prop} (hJw : J w) {i : Nat} {o : Oper} {f : Nat} {L : Array Bool} (ho : ops[i]? = some o) (hr : Region.ready .any ops L = [i]) (hw : Region.wanted o (yielded ops a.tmps) = false)
    (h : wpAnyH P .any ops Q J f (L.setIfInBounds i true) (a.put o.dst undef) w) : wpAnyH P .any ops Q J (f + 1) L a w := by
  refine wpAnyH_all hr (by simp) (fun j hj => ?_)
  simp only [List.mem_singleton] at hj
  subst hj
  unfold wpOp
  simp only [ho, hw, Bool.false_eq_true, if_false]
  exact ⟨hJw, h⟩

theorem region_hand (hm : P.follows .mixedOrders = true) {Q : Exit → Act → World → Prop} {J : World → Prop} {id : Nat} (h : wpAnyH P .any ops Q J ops.size (Array.replicate ops.size false) a w.drew) : (Code.region id ops true).wp P Q a w :=
  wp_region_any hm (wpAny_of_held _ _ _ _ h)

end
end Go.Rf

namespace Go.Rf

/-! ## parts of code -/
def cl : Code → Code
  | .seq a _ => a
  | c => c
def cr : Code → Code
  | .seq _ b => b
  | c => c
def ct : Code → Code
  | .cond _ a _ => a
  | c => c
def ce : Code → Code
  | .cond _ _ b => b
  | c => c
def cb : Code → Code
  | .block _ c => c
  | .loop c => c
  | c => c
def opsOf : Code → Array Oper
  | .region _ ops _ => ops
  | _ => #[]

/-! ## slices.Clone -/
theorem nil_eqn {P : Program} {t el : TypeId} (hu : P.underlying t = some (.slice el)) (p : Option Addr) (l c : Nat) (w : World) (n : Nat) : (Op.equalIn (n + 1) t (.slice p l c) (.slice none 0 0)).run P w = .ok p.isNone w := by
  simp only [Op.equalIn, Sem.run_bind, run_underlying hu, Result.andThen_ok]
  cases p <;> simp
theorem nil_eq {P : Program} {t el : TypeId} (hu : P.underlying t = some (.slice el)) (p : Option Addr) (l c : Nat) (w : World) : (binOp .eql t (.slice p l c) (.slice none 0 0)).run P w = .ok (.bool p.isNone) w := by
  have h : (Op.equal t (.slice p l c) (.slice none 0 0)).run P w = .ok p.isNone w := nil_eqn hu p l c w 9999
  simp [binOp, h]

def kN (e : Ex) (st : St) : Option St := match e with
  | .norm => some st
  | _ => none
def kR (n : Nat) (sl : List Slot) (e : Ex) (st : St) : Option (LD (tys sl)) := match e with
  | .ret => slots n st sl
  | _ => none

abbrev clSl (e : Ty) : List Slot := [⟨0, .val, .sl .lend e⟩]
abbrev clR (e : Ty) : List Slot := [⟨2, .own false, .sl .own e⟩]
def stA (e : Ty) (xs : List e.D) : St := mkSt (clSl e) (xs, ()) junkT
def stB (e : Ty) (xs : List e.D) : St := (stA e xs).put (some 2) (.a (.v .nil ()))
def stC (e : Ty) (xs : List e.D) : St := (stB e xs).put (some 3) (.a (.v (.sl .lend e) xs))

theorem wpL_v {P : Program} {ops : Array Oper} {a : Act} {w w' : World} {Q : Exit → Act → World → Prop} {o : Oper} {l : List Oper} {K : Act → World → Prop} {v : Value} (hg : o.guard = none) (hr : (execOp a.eval o).run P w = .ok (.value v) w') (h : wpL P ops (fun _ => True) Q l K (a.put o.dst v) w') :
    wpL P ops (fun _ => True) Q (o :: l) K a w := by
  simp only [wpL]
  rw [if_pos (by simp [Region.wanted, hg])]
  simp only [Oper.wp, hr, Oper.upon_value]
  exact ⟨trivial, h⟩
theorem wpL_s {P : Program} {ops : Array Oper} {a : Act} {w w' : World} {Q : Exit → Act → World → Prop} {o : Oper} {l : List Oper} {K : Act → World → Prop} (hg : o.guard = none) (hr : (execOp a.eval o).run P w = .ok .skip w') (h : wpL P ops (fun _ => True) Q l K (a.put o.dst undef) w') :
    wpL P ops (fun _ => True) Q (o :: l) K a w := by
  simp only [wpL]
  rw [if_pos (by simp [Region.wanted, hg])]
  simp only [Oper.wp, hr, Oper.upon_skip]
  exact ⟨trivial, h⟩
theorem put_get {a : Act} {d : Nat} {v : Value} (h : d < a.tmps.size) : (a.put (some d) v).tmps.getD d undef = v := by
  simp [Act.put, Array.getD_eq_getD_getElem?, Array.getElem?_setIfInBounds, h]
theorem put_ev {a : Act} {d : Nat} {v : Value} (h : d < a.tmps.size) : (a.put (some d) v).eval (.tmp d) = v := put_get h
theorem put_ne {a : Act} {d t : Nat} {v : Value} (h : d ≠ t) : (a.put (some d) v).eval (.tmp t) = a.eval (.tmp t) := act_put (by intro e; cases e; exact h rfl)
theorem put_sz {a : Act} {d : Option Nat} {v : Value} : (a.put d v).tmps.size = a.tmps.size := by cases d <;> simp [Act.put]

/-- what comes of a copy -/
structure Cloned (V : Glb) (S S' : Stab) (w w' : World) : Prop where
  frm : Frm w w' (Blk.of fun _ => False)
  more : ∀ m b, S m b → S' m b
  stab : ∀ m b, S' m b → b < w'.heap.size
  kl : ∀ b, S' .keep b → S' .lend b
  glb : (∀ b, b < V.n → S' .lend b) ∧ V.holds w'
  new : ∀ m b, S' m b → (∃ m', S m' b) ∨ w.heap.size ≤ b
  newk : ∀ b, S' .keep b → S .keep b ∨ w.heap.size ≤ b

theorem clone_raw {P : Program} {E : Cz} (hE : EnvOK P E) (hm : P.follows .mixedOrders = true) {A : An} {N : Nat} {fid : Nat} {fn : Func} {c : Code} {a0 a1 a2 a3 : Array Oper} {i0 i1 i2 i3 : Nat} {t el ty1 ty2 : TypeId} {p1 p2 : String} {g1 g2 : Array Edge}
    (hfn : P.funcs[fid]? = some fn) (hbody : fn.body = some c) (hn : fn.ntmps = 8) (h8 : E.n = 8) (hres : fn.results = #[.tmp 2])
    (hc : c = .seq (.region i0 a0 false) (.seq (.seq (.region i1 a1 false) (.cond (.tmp 4) (.seq (.region i2 a2 false) .ret) .skip)) (.seq (.region i3 a3 false) .ret)))
    (l1 : a1.toList = [⟨some 3, .move (.tmp 0), ty1, p1, g1, none⟩, ⟨some 4, .binOp .eql t (.tmp 3) (.const (.slice none 0 0)) t, ty2, p2, g2, none⟩]) (hu : P.underlying t = some (.slice el)) {e : Ty}
    (h0 : ∀ xs, evalK E A N (.region i0 a0 false) (stA e xs) kN = some (stB e xs))
    (h2 : ∀ xs, evalK E A N (.seq (.region i2 a2 false) .ret) (stC e xs) (kR E.n (clR e)) = some ([], ()))
    (h3 : ∀ xs : List e.D, xs.length ≤ 4294967296 → evalK E A N (.seq (.region i3 a3 false) .ret) (stC e xs) (kR E.n (clR e)) = some (xs, ()))
    {w : World} {S : Stab} {v : Value} {xs : List e.D} (hstab : ∀ m b, S m b → b < w.heap.size) (hkl : ∀ b, S .keep b → S .lend b) (hglb : (∀ b, b < E.V.n → S .lend b) ∧ E.V.holds w) (hr : Rep S (hp w) (.sl .lend e) [v] xs []) (hlen : xs.length ≤ 4294967296) :
    Calls P fid #[v] w fun en w' => ∃ S' u g, en = .returned u ∧ Cloned E.V S S' w w' ∧ Rep S' (hp w') (.sl .own e) [u] xs g ∧ g.Nodup ∧ ∀ b ∈ g, b < w'.heap.size ∧ w.heap.size ≤ b ∧ ∀ m, ¬ S' m b := by
  refine calls_of_wp hfn hbody ?_
  rw [hn]
  obtain ⟨pls0, X0, hI0, hX0⟩ := init_inv (C := E.toCx) (G := (Blk.of fun _ => False)) (a := { tmps := #[v] ++ Array.replicate (8 - #[v].size) undef, defers := [] }) hstab hkl
      (by simp [h8]) rfl hglb (fun _ _ _ _ => trivial) (clSl e) 0 [v] (xs, ()) [] (by rfl) ⟨[v], [], [], rfl, hr, rfl, rfl⟩ (by simp) (by simp)
      (by intro j u hj
          cases j with
          | zero => cases hj; rfl
          | succ j => simp at hj) (by show 0 + 1 ≤ E.n; omega)
  have hv0 : (⟨#[v] ++ Array.replicate (8 - #[v].size) undef, []⟩ : Act).eval (.tmp 0) = v := rfl
  generalize (⟨#[v] ++ Array.replicate (8 - #[v].size) undef, []⟩ : Act) = act at hI0 hv0 ⊢
  have hI0 : Inv E.toCx w (Blk.of fun _ => False) (stA e xs) act w S pls0 X0 := hI0
  have hfin : ∀ (a' : Act) (w' : World) (e' : Ex) (st' : St) (S' : Stab) (pls' : Nat → Pl) (X' : Nat → List Nat), kR E.n (clR e) e' st' = some (xs, ()) → Inv E.toCx w (Blk.of fun _ => False) st' a' w' S' pls' X' → Grows w (Blk.of fun _ => False) S S' w w' →
      bodyPost P fn (fun en w' => ∃ S' u g, en = .returned u ∧ Cloned E.V S S' w w' ∧ Rep S' (hp w') (.sl .own e) [u] xs g ∧ g.Nodup ∧ ∀ b ∈ g, b < w'.heap.size ∧ w.heap.size ≤ b ∧ ∀ m, ¬ S' m b) (Ex.to e') a' w' := by
    intro a' w' e' st' S' pls' X' hk hI hg
    cases e' with
    | norm => cases hk
    | exit i => cases hk
    | ret =>
      obtain ⟨pls2, X2, hI2⟩ := slots_spec hI hk (f := junkT) (fun t => trivial)
      have hv := hI2.tmps 2
      obtain ⟨r, hr, σ, y, vs, l0, vs', l', g1, g2, g3, g4, g5⟩ := hv
      cases hr
      cases g1
      obtain ⟨rfl, rfl⟩ := g4
      have hrr := hI2.roots 2 _ rfl
      cases hpl : pls2 2 with
      | mem => rw [hpl] at hrr; simp [RootRel] at hrr
      | val us =>
        rw [hpl] at hrr g3
        obtain ⟨rfl, rfl⟩ := g3
        have hrr : Rep S' (hp w') (.sl .own e) vs' xs (X2 2) := hrr
        obtain ⟨p, l, cp, rfl, _⟩ := id hrr
        have g5 : a'.tmps.getD 2 undef = .slice p l cp := g5
        refine ⟨hI2.defers, .slice p l cp, ?_, S', _, X2 2, rfl, ⟨hI2.frm, hg.more, hI2.stab, hI2.kl, hI2.glb, fun m b hb => ?_, fun b hb => ?_⟩, hrr, hI2.nd 2, fun b hb => ?_⟩
        · rw [Array.getD_eq_getD_getElem?] at g5
          simp [results, hres, g5]
        · rcases hg.any m b hb with h | h | h
          · exact .inl h
          · exact .inr h
          · cases h
        · rcases hg.new b hb with h | h | h
          · exact .inl h
          · exact .inr h
          · cases h
        · obtain ⟨k1, k2, k3⟩ := hI2.own 2 b hb
          refine ⟨k1, ?_, k2⟩
          rcases k3 with k3 | k3
          · exact k3
          · cases k3
  rw [hc]
  refine wp_seq (wp_mono (evalK_sound hE hm A N _ (h0 xs) hI0) ?_)
  rintro e' aB wB ⟨eB, sB, rfl, kB, ⟨SB, plsB, XB, hIB, hgB⟩, hfB⟩
  cases eB with
  | exit i => cases kB
  | ret => cases kB
  | norm =>
  simp only [kN, Option.some.injEq] at kB
  subst kB
  obtain ⟨vsB, eB, hrB⟩ : TRel SB (hp wB) plsB _ (aB.tmps.getD 0 undef) (.a (.v (.sl .lend e) xs)) := hIB.tmps 0
  obtain ⟨p, l, cp, rfl, hl, hlc, hrest⟩ := id hrB
  have eB : aB.eval (.tmp 0) = .slice p l cp := eB
  have hsz : aB.tmps.size = 8 := by rw [hIB.size]; exact h8
  have hIC : Inv E.toCx w (Blk.of fun _ => False) (stC e xs) ((aB.put (some 3) (.slice p l cp)).put (some 4) (.bool p.isNone)) wB SB plsB XB := by
    have := hIB.put (dst := some 3) (v := .slice p l cp) (tv := .a (.v (.sl .lend e) xs)) (fun d' e => by cases e; omega) ⟨_, rfl, hrB⟩
    have k := this.put (dst := some 4) (v := .bool p.isNone) (tv := .a .junk) (fun d' e => by cases e; omega) trivial
    have e4 : (stC e xs).put (some 4) (.a .junk) = stC e xs := by
      simp only [St.put]
      have : (fun t => if t = 4 then (.a .junk : TV) else (stC e xs).tmps t) = (stC e xs).tmps := by
        funext t
        split
        · rename_i h; subst h; rfl
        · rfl
      rw [this]
    rw [← e4]; exact k
  refine wp_seq (wp_seq (wpL_region (J := fun _ => True) ?_))
  rw [l1]
  refine wpL_v (v := .slice p l cp) (w' := wB) rfl (by simp [execOp, eB]) ?_
  refine wpL_v (v := .bool p.isNone) (w' := wB) rfl ?_ ?_
  · have e3 : (aB.put (some 3) (.slice p l cp)).eval (.tmp 3) = .slice p l cp := put_ev (by omega)
    have ec : (aB.put (some 3) (.slice p l cp)).eval (.const (.slice none 0 0)) = .slice none 0 0 := rfl
    simp only [execOp, e3, ec]
    have := nil_eq hu p l cp wB
    simp [eqGuard, this]
  · show Exit.then _ _ .normal _ _
    refine wp_cond (t := p.isNone) (put_ev (by rw [put_sz]; omega)) ?_
    cases p with
    | none =>
      have hx : xs = [] := by
        rcases hrest with ⟨h0, _⟩ | ⟨b, off, cc, ee, fr, f2, h, _⟩
        · have : xs.length = 0 := by omega
          exact List.length_eq_zero_iff.1 this
        · cases h
      subst hx
      simp only [Option.isNone_none, if_true]
      refine wp_mono (evalK_sound hE hm A N _ (h2 []) hIC) ?_
      rintro e' a' w' ⟨eC, sC, rfl, kC, ⟨SC, plsC, XC, hIC', hgC⟩, hfC⟩
      have := hfin a' w' eC sC SC plsC XC kC hIC' (hgB.trans hgC)
      cases eC with
      | norm => cases kC
      | exit i => cases kC
      | ret => exact this
    | some ad =>
      simp only [Option.isNone_some, Bool.false_eq_true, if_false]
      refine wp_skip ?_
      show Code.wp _ _ _ _ _
      refine wp_mono (evalK_sound hE hm A N _ (h3 xs hlen) hIC) ?_
      rintro e' a' w' ⟨eC, sC, rfl, kC, ⟨SC, plsC, XC, hIC', hgC⟩, hfC⟩
      have := hfin a' w' eC sC SC plsC XC kC hIC' (hgB.trans hgC)
      cases eC with
      | norm => cases kC
      | exit i => cases kC
      | ret => exact this
end Go.Rf
