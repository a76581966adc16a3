/-
  Maps as they lie in the memory, and drawn regions walked by hand; of whatever program.
-/
import Derived.Test.YtkifpahhppbdkaaDoorARfD
import Derived.Maps.Keyed
import Derived.DeepKeys4
set_option linter.unusedSimpArgs false
set_option linter.unusedVariables false
set_option autoImplicit false
namespace Go.Rf

section
variable {P : Program} {C : Cx} {w0 w w' : World} {G : Blk} {st st' : St} {a : Act} {S : Stab} {pls : Nat → Pl} {X : Nat → List Nat}

/-- a world in which all that a state speaks of is as it was -/
theorem Inv.other (hI : Inv C w0 G st a w S pls X) (hos : w'.os = w.os) (htape : w'.tape = w.tape) (hout : w'.output = w.output) (hsz : w.heap.size ≤ w'.heap.size)
    (hb : ∀ b, b < w.heap.size → ((∃ m, S m b) ∨ (∃ i, b ∈ X i) ∨ (b < w0.heap.size ∧ b ∉ G)) → hp w' b = hp w b) : Inv C w0 G st a w' S pls X := by
  have hS : ∀ m b, S m b → hp w' b = hp w b := fun m b h => hb b (hI.stab m b h) (.inl ⟨m, h⟩)
  have hX : ∀ id, ∀ b ∈ X id, hp w' b = hp w b := fun id b h => hb b (hI.own id b h).1 (.inr (.inl ⟨id, h⟩))
  refine { kl := hI.kl, size := hI.size, defers := hI.defers, glb := glb_of hS (fun _ _ h => h) hI.glb, pin := hI.pin, nd := hI.nd, dis := hI.dis, frm := ?_, stab := ?_, own := ?_, roots := ?_, tmps := ?_ }
  · refine ⟨hos.trans hI.frm.os, htape.trans hI.frm.tape, hout.trans hI.frm.output, Nat.le_trans hI.frm.size hsz, fun b hb0 hG => ?_⟩
    rw [hb b (Nat.lt_of_lt_of_le hb0 hI.frm.size) (.inr (.inr ⟨hb0, hG⟩))]; exact hI.frm.block b hb0 hG
  · intro m b h; exact Nat.lt_of_lt_of_le (hI.stab m b h) hsz
  · intro id b h; obtain ⟨h1, h2⟩ := hI.own id b h; exact ⟨Nat.lt_of_lt_of_le h1 hsz, h2⟩
  · intro id r hr
    have h := hI.roots id r hr
    obtain ⟨k, τ, x⟩ := r
    cases k <;> cases hpl : pls id <;> rw [hpl] at h <;> simp only [RootRel] at h ⊢
    · obtain ⟨vs, l, fp, h1, h2, h3⟩ := h
      refine ⟨vs, l, fp, h1.heap (fun B o' e => hX id B ?_), h2.heap hS (fun b hb => hX id b (by rw [h3]; simp [hb])), h3⟩
      obtain ⟨_, _, rfl, _⟩ := h1
      simp only [Option.some.injEq, Prod.mk.injEq] at e
      rw [h3]; simp [e.1]
    · exact h.heap hS (hX id)
  · intro t
    exact TRel.heap hI.roots hS (fun _ _ h => h) (fun id _ => ⟨rfl, rfl, hX id⟩) (hI.tmps t)
end

/-! ## Maps, raw -/
section
open Go.Maps Go.ChangeMaps Go.MapKept
variable {P : Program} {w : World} {k t e : TypeId}

theorem map_look (K : Keyed P k) (ht : P.underlying t = some (.map k e)) {z : Value} (hz : (zeroValue e).run P w = .ok z w) {b : Nat} {es : Array MapEntry} {clock : Nat} (hb : w.heap[b]? = some (.map es clock))
    (hall : ∀ x ∈ es.toList, ∃ l, keyOf P k x.key = some l) {key : Value} {kl : Lit} (hkey : keyOf P k key = some kl) :
    ∃ v, (Instr.lookup t (.map (some b)) key false).run P w = .ok v w ∧ (v = z ∨ ∃ x ∈ es.toList, x.key = key ∧ v = x.val) := by
  rcases K.find w hkey es.toList hall with ⟨h1, h2⟩ | ⟨j, e0, h1, h2, h3⟩
  · exact ⟨z, by simp [Instr.lookup, run_underlying ht, MapKept.run_getObj_map hb, K.check w _ hkey, h1, hz, Result.andThen], .inl rfl⟩
  · exact ⟨e0.val, by simp [Instr.lookup, run_underlying ht, MapKept.run_getObj_map hb, K.check w _ hkey, h1, Result.andThen], .inr ⟨e0, List.mem_of_getElem? h2, h3, rfl⟩⟩

theorem map_put (K : Keyed P k) (ht : P.underlying t = some (.map k e)) {b : Nat} {es : Array MapEntry} {clock : Nat} (hb : w.heap[b]? = some (.map es clock))
    (hall : ∀ x ∈ es.toList, ∃ l, keyOf P k x.key = some l) {key val : Value} {kl : Lit} (hkey : keyOf P k key = some kl) :
    ∃ es' clock', (Instr.mapUpdate t (.map (some b)) key val).run P w = .ok () (setBlock w b (.map es' clock')) ∧ ∀ x ∈ es'.toList, x ∈ es.toList ∨ (x.key = key ∧ x.val = val) := by
  rcases K.find w hkey es.toList hall with ⟨h1, h2⟩ | ⟨j, e0, h1, h2, h3⟩
  · refine ⟨es.push ⟨key, val, clock⟩, clock + 1, by simp [Instr.mapUpdate, run_underlying ht, MapKept.run_getObj_map hb, K.check w false hkey, h1, MapKept.run_setObj_map _ hb, Result.andThen, setBlock], ?_⟩
    intro x hx
    simp only [Array.toList_push, List.mem_append, List.mem_singleton] at hx
    rcases hx with hx | rfl
    · exact .inl hx
    · exact .inr ⟨rfl, rfl⟩
  · have hj : es[j]? = some e0 := by simpa using h2
    have hlist : (es.modify j (fun e' => { e' with key := key, val := val })).toList = es.toList.set j { e0 with key := key, val := val } := by rw [Array.toList_modify, modify_eq_set _ _ _ _ h2]
    refine ⟨es.modify j (fun e' => { e' with key := key, val := val }), clock, ?_, ?_⟩
    · simp [Instr.mapUpdate, run_underlying ht, MapKept.run_getObj_map hb, K.check w false hkey, h1, hj, h3, K.stays w hkey, MapKept.run_setObj_map _ hb, Result.andThen, setBlock]
    · intro x hx
      rw [hlist] at hx
      rcases List.mem_or_eq_of_mem_set hx with hx | rfl
      · exact .inl hx
      · exact .inr ⟨rfl, rfl⟩
end
end Go.Rf

namespace Go.Rf

/-! ## Regions by hand -/
def guardV (ops : Array Oper) (st : St) (o : Oper) : Option Bool :=
  match o.guard with
  | none => some true
  | some (g, b) => match (ops[g]?).bind (·.dst) with
    | none => none
    | some dg => match st.tmps dg with
      | .a (.v .bool t) => some (t == b)
      | _ => none

def thinkK (E : Cz) (ops : Array Oper) {R : Type} : List Nat → Array Bool → St → (Array Bool → St → Option R) → Option R
  | [], L, st, K => K L st
  | i :: is, L, st, K => if Region.free .any ops L i = true ∧ (Region.ready .any ops L).contains i = true then
      (match ops[i]? with
      | some o => (match o.dst with
        | some d => if d < E.n then
            (match guardV ops st o with
            | some true => pureK E.toCx st o.op fun tv => thinkK E ops is (L.setIfInBounds i true) (st.put (some d) tv) K
            | some false => thinkK E ops is (L.setIfInBounds i true) (st.put (some d) (.tup [])) K
            | none => none) else none
        | none => none)
      | none => none) else none

section
variable {P : Program} {E : Cz} {w0 w w' : World} {G : Blk} {st st' : St} {a : Act} {S : Stab} {pls : Nat → Pl} {X : Nat → List Nat} {ops : Array Oper}

theorem guardV_wanted {C : Cx} (hI : Inv C w0 G st a w S pls X) {o : Oper} {b : Bool} (h : guardV ops st o = some b) : Region.wanted o (yielded ops a.tmps) = b := by
  unfold guardV at h
  split at h
  · rename_i hg; cases h; simp [Region.wanted, hg]
  · rename_i g b' hg
    split at h
    · cases h
    · rename_i dg hdg
      split at h
      · rename_i t ht
        cases h
        have hv := hI.tmps dg
        rw [ht] at hv
        obtain ⟨vs, hv, ⟨rfl, _⟩⟩ := hv
        rw [wanted_of hg hdg hv]; simp [valOf, Ty.isAgg, isB]
      · cases h

theorem think_sound (hT : TabOK P E.tab) (hs : Region.noSelect ops = true) {Q : Exit → Act → World → Prop} (hpan : ∀ c a w, ¬ Q (.panic c) a w) {J : World → Prop} (hJw : J w) (hJ : ∀ w', J w' → (∀ m b, S m b → hp w' b = hp w b) ∧ ∀ i, ∀ b ∈ X i, hp w' b = hp w b) {R : Type}
    {K : Array Bool → St → Option R} {r : R} : ∀ (is : List Nat) (fuel : Nat) {L : Array Bool} {st : St} {a : Act}, thinkK E ops is L st K = some r → is.length ≤ fuel → Inv E.toCx w0 G st a w S pls X →
      (∀ L' st' a', K L' st' = some r → Inv E.toCx w0 G st' a' w S pls X → (∀ t, t ∉ dsts (is.filterMap (ops[·]?)) → a'.tmps.getD t undef = a.tmps.getD t undef) → wpAnyH P .any ops Q J (fuel - is.length) L' a' w) →
      wpAnyH P .any ops Q J fuel L a w := by
  intro is
  induction is with
  | nil =>
    intro fuel L st a h _ hI hend
    exact hend L st a h hI (fun _ _ => rfl)
  | cons i is ih =>
    intro fuel L st a h hf hI hend
    simp only [thinkK] at h
    split at h
    rotate_left
    · cases h
    rename_i hc
    split at h
    rotate_left
    · cases h
    rename_i o ho
    split at h
    rotate_left
    · cases h
    rename_i d hd
    split at h
    rotate_left
    · cases h
    rename_i hdr
    obtain ⟨f, rfl⟩ : ∃ f, fuel = f + 1 := ⟨fuel - 1, by simp only [List.length_cons] at hf; omega⟩
    have hlen : f + 1 - (i :: is).length = f - is.length := by simp only [List.length_cons]; omega
    have step : ∀ {tv : TV} {v : Value}, thinkK E ops is (L.setIfInBounds i true) (st.put (some d) tv) K = some r → YieldsIf P ops J o v a → TRel S (hp w) pls st.roots v tv → wpAnyH P .any ops Q J (f + 1) L a w := by
      intro tv v h hy hv
      refine wpAnyH_take (v := v) ho hs hc.1 hc.2 (fun c a w hq => absurd hq (hpan _ _ _)) hy hJw ?_
      refine ih f h (by simp only [List.length_cons] at hf; omega) (by rw [hd]; exact hI.put (fun d' e => by cases e; exact hdr) hv) (fun L' st' a' h1 h2 h3 => ?_)
      rw [← hlen]
      refine hend L' st' a' h1 h2 (fun t ht => ?_)
      have hm : ∀ t, t ∉ dsts ((i :: is).filterMap (ops[·]?)) → t ≠ d ∧ t ∉ dsts (is.filterMap (ops[·]?)) := by
        intro t ht
        simp only [List.filterMap_cons, ho, dsts, hd, List.mem_cons, not_or] at ht
        exact ht
      rw [h3 t (hm t ht).2, hd, act_put (fun e => (hm t ht).1 (by cases e; rfl))]
    split at h
    · rename_i hg
      rw [pureK_bind] at h
      obtain ⟨tv, h1, h2⟩ := Option.bind_eq_some_iff.1 h
      obtain ⟨v, hrun, hv⟩ := pure_run hT hI h1
      refine step h2 (.inl ⟨guardV_wanted hI hg, fun w' hw' => hrun w' ⟨(hJ w' hw').1, fun id _ => (hJ w' hw').2 id⟩⟩) hv
    · rename_i hg
      exact step h (.inr ⟨guardV_wanted hI hg, rfl⟩) ⟨[], rfl, trivial⟩
    · cases h

/-- one whose value is known otherwise -/
theorem think_hand (hs : Region.noSelect ops = true) {Q : Exit → Act → World → Prop} (hpan : ∀ c a w, ¬ Q (.panic c) a w) {J : World → Prop} (hJw : J w) {i d : Nat} {o : Oper} {v : Value} {f : Nat} {L : Array Bool} (ho : ops[i]? = some o) (hd : o.dst = some d)
    (hc : (Region.free .any ops L i && (Region.ready .any ops L).contains i) = true) (hw : Region.wanted o (yielded ops a.tmps) = true) (hrun : ∀ w', J w' → (execOp a.eval o).run P w' = .ok (.value v) w')
    (h : wpAnyH P .any ops Q J f (L.setIfInBounds i true) (a.put (some d) v) w) : wpAnyH P .any ops Q J (f + 1) L a w := by
  rw [Bool.and_eq_true] at hc
  refine wpAnyH_take (v := v) ho hs hc.1 hc.2 (fun c a w hq => absurd hq (hpan _ _ _)) (.inl ⟨hw, hrun⟩) hJw ?_
  rw [hd]; exact h

/-- one that must come up now -/
theorem only_hand {Q : Exit → Act → World → Prop} {J : World → Prop} {i : Nat} {o : Oper} {f : Nat} {L : Array Bool} (ho : ops[i]? = some o) (hr : Region.ready .any ops L = [i]) (hw : Region.wanted o (yielded ops a.tmps) = true)
    (h : o.wp P a w (fun a' w' => J w' ∧ wpAnyH P .any ops Q J f (L.setIfInBounds i true) a' w') Q) : wpAnyH P .any ops Q J (f + 1) L a w := by
  refine wpAnyH_all hr (by simp) (fun j hj => ?_)
  simp only [List.mem_singleton] at hj
  subst hj
  unfold wpOp
  simp only [ho, hw, if_true]
  exact .inl h

theorem only_skip {Q : Exit → Act → World → Prop} {J : World → Prop} (hJw : J w) {i : Nat} {o : Oper} {f : Nat} {L : Array Bool} (ho : ops[i]? = some o) (hr : Region.ready .any ops L = [i]) (hw : Region.wanted o (yielded ops a.tmps) = false)
    (h : wpAnyH P .any ops Q J f (L.setIfInBounds i true) (a.put o.dst undef) w) : wpAnyH P .any ops Q J (f + 1) L a w := by
  refine wpAnyH_all hr (by simp) (fun j hj => ?_)
  simp only [List.mem_singleton] at hj
  subst hj
  unfold wpOp
  simp only [ho, hw, Bool.false_eq_true, if_false]
  exact ⟨hJw, h⟩

theorem region_hand (hm : P.follows .mixedOrders = true) {Q : Exit → Act → World → Prop} {J : World → Prop} {id : Nat} (h : wpAnyH P .any ops Q J ops.size (Array.replicate ops.size false) a w.drew) : (Code.region id ops true).wp P Q a w :=
  wp_region_any hm (wpAny_of_held _ _ _ _ h)

end
end Go.Rf
