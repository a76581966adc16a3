/-
  What is drawn stays small; a pair weighs one more than its parts.
-/
import Derived.Test.YtkifpahhppbdkaaGreatDoorYLaw
set_option linter.unusedSimpArgs false
set_option linter.unusedVariables false
set_option autoImplicit false
namespace Go.Rf

/-! ## What is drawn -/
abbrev RT := List Int × Int × Int × Unit
def JR (r : RT) : Prop := 0 ≤ r.2.1 ∧ r.1.length ≤ lim

theorem and255 (a : BitVec (IntKind.bits .i64)) : 0 ≤ IntKind.wrap .i64 ((a &&& BitVec.ofInt (IntKind.bits .i64) 255).toNat : Int) ∧ IntKind.wrap .i64 ((a &&& BitVec.ofInt (IntKind.bits .i64) 255).toNat : Int) ≤ 255 := by
  have h : (a &&& BitVec.ofInt (IntKind.bits .i64) 255).toNat ≤ 255 := by
    rw [BitVec.toNat_and]
    exact Nat.le_trans Nat.and_le_right (by decide)
  rw [wrap_id (by omega) (by omega)]
  omega

theorem p_byte (N : Nat) (r : RT) (h : JR r) : ∃ b r', s_l1Byte N (r, ()) = some (b, r', ()) ∧ JR r' ∧ 0 ≤ b ∧ b ≤ 255 := by
  obtain ⟨d, p, sd, u⟩ := r
  obtain ⟨h1, h2⟩ := h
  simp only at h1 h2
  have hlim : lim = 9223372036854775807 := rfl
  unfold s_l1Byte
  rw [if_neg (by decide), if_neg (by decide)]
  dsimp only
  by_cases hp : p < (d.length : Int)
  · rw [if_pos (decide_eq_true hp), if_pos (by simp [inB]; omega)]
    refine ⟨_, _, rfl, ⟨?_, h2⟩, and255 _⟩
    show 0 ≤ IntKind.wrap .i64 (p + 1)
    rw [wrap_id (by omega) (by omega)]
    omega
  · rw [if_neg (by simpa using hp)]
    exact ⟨_, _, rfl, ⟨h1, h2⟩, and255 _⟩

theorem tmod_lt {a n : Int} (ha : 0 ≤ a) (hn : 0 < n) : 0 ≤ Int.tmod a n ∧ Int.tmod a n < n := ⟨Int.tmod_nonneg n ha, Int.tmod_lt_of_pos a hn⟩

theorem p_below (N : Nat) (r : RT) (n : Int) (h : JR r) : ∃ b r', s_l1Below N (r, n, ()) = some (b, r', ()) ∧ JR r' ∧ 0 ≤ b ∧ (0 < n → b < n) ∧ (n ≤ 0 → b = 0) := by
  unfold s_l1Below
  dsimp only
  by_cases h0 : n ≤ 0
  · rw [if_pos (decide_eq_true h0)]
    exact ⟨_, _, rfl, h, by omega, by omega, fun _ => rfl⟩
  · rw [if_neg (by simpa using h0)]
    by_cases h1 : n ≤ 256
    · rw [if_pos (decide_eq_true h1)]
      obtain ⟨b, r1, e, j, k1, k2⟩ := p_byte N r h
      rw [e]; dsimp only [Option.bind_some]
      rw [if_neg (by omega)]
      have := tmod_lt k1 (show 0 < n by omega)
      exact ⟨_, _, rfl, j, this.1, fun _ => this.2, by omega⟩
    · rw [if_neg (by simpa using h1)]
      obtain ⟨b, r1, e, j, k1, k2⟩ := p_byte N r h
      rw [e]; dsimp only [Option.bind_some]
      obtain ⟨c, r2, e, j, c1, c2⟩ := p_byte N r1 j
      rw [e]; dsimp only [Option.bind_some]
      obtain ⟨d, r3, e, j, d1, d2⟩ := p_byte N r2 j
      rw [e]; dsimp only [Option.bind_some]
      obtain ⟨f, r4, e, j, f1, f2⟩ := p_byte N r3 j
      rw [e]; dsimp only [Option.bind_some]
      rw [if_neg (by omega)]
      rw [wrap_id (n := b * 16777216) (by omega) (by omega), wrap_id (n := c * 65536) (by omega) (by omega), wrap_id (n := d * 256) (by omega) (by omega),
        wrap_id (n := b * 16777216 + c * 65536) (by omega) (by omega), wrap_id (n := b * 16777216 + c * 65536 + d * 256) (by omega) (by omega), wrap_id (n := b * 16777216 + c * 65536 + d * 256 + f) (by omega) (by omega)]
      have := tmod_lt (a := b * 16777216 + c * 65536 + d * 256 + f) (by omega) (show 0 < n by omega)
      exact ⟨_, _, rfl, j, this.1, fun _ => this.2, by omega⟩

theorem p_once (N : Nat) (r : RT) (n : Int) (h : JR r) : ∃ b r', s_l1Once N (r, n, ()) = some (b, r', ()) ∧ JR r' := by
  unfold s_l1Once
  dsimp only
  obtain ⟨b, r1, e, j, _⟩ := p_below N r n h
  rw [e]
  exact ⟨_, _, rfl, j⟩

theorem p_pickInt (N : Nat) (r : RT) (l : List Int) (h : JR r) (hl : 0 < l.length) : ∃ b r', s_l1PickInt N (r, l, ()) = some (b, r', ()) ∧ JR r' ∧ b ∈ l := by
  unfold s_l1PickInt
  dsimp only
  obtain ⟨b, r1, e, j, k1, k2, _⟩ := p_below N r (l.length : Int) h
  rw [e]; dsimp only [Option.bind_some]
  have := k2 (by omega)
  rw [if_pos (by simp [inB]; omega)]
  exact ⟨_, _, rfl, j, mem_getD (by omega)⟩

theorem p_pick (N : Nat) (r : RT) (l : List ByteArray) (h : JR r) (hl : 0 < l.length) : ∃ b r', s_l1Pick N (r, l, ()) = some (b, r', ()) ∧ JR r' ∧ b ∈ l := by
  unfold s_l1Pick
  dsimp only
  obtain ⟨b, r1, e, j, k1, k2, _⟩ := p_below N r (l.length : Int) h
  rw [e]; dsimp only [Option.bind_some]
  have := k2 (by omega)
  rw [if_pos (by simp [inB]; omega)]
  exact ⟨_, _, rfl, j, mem_getD (by omega)⟩

def smV (v : VT) : Prop := v.2.2.1.size ≤ 50
def smC (c : CT) : Prop := c.2.1.size ≤ 50 ∧ c.2.2.2.2.1.length ≤ 50 ∧ (∀ s ∈ c.2.2.2.2.1, s.size ≤ 50) ∧ c.2.2.2.2.2.1.length ≤ 50 ∧ ∀ v ∈ c.2.2.2.2.2.1, smV v

theorem p_tail (N : Nat) (r : RT) (h : JR r) : ∃ v r', ((s_l1Below N (r, 5, ())).bind fun r13 =>
((if (decide (r13.1 = 0)) = true then
  some (r13.2.1, (0, (0, (ByteArray.empty, ()))), decide (r13.1 = 0), ()) else
  some (r13.2.1, (0, (0, (ByteArray.empty, ()))), decide (r13.1 = 1), ())) : Option ((List (Int) × Int × Int × Unit) × (Int × Int × ByteArray × Unit) × Bool × Unit)).bind fun j14 =>
(if j14.2.2.1 = true then
(s_l1PickInt N (j14.1, [0, 1, 7, (-3), 1000000, 40], ())).bind fun r15 =>
  some ((1, (r15.1, (ByteArray.empty, ()))), r15.2.1, ()) else
(if (decide (r13.1 = 2)) = true then
(s_l1Below N (j14.1, 2, ())).bind fun r16 =>
  some ((2, (r16.1, (ByteArray.empty, ()))), r16.2.1, ()) else
(if (decide (r13.1 = 3)) = true then
  some ((3, (0, (ByteArray.empty, ()))), j14.1, ()) else
(s_l1Pick N (j14.1, [ByteArray.mk #[97], ByteArray.mk #[120], ByteArray.mk #[105, 102]], ())).bind fun r17 =>
  some ((4, (0, (r17.1, ()))), r17.2.1, ())))) : Option (VT × RT × Unit)) = some (v, r', ()) ∧ JR r' ∧ smV v := by
  obtain ⟨b, r1, e, j, k1, k2, _⟩ := p_below N r 5 h
  rw [e]; dsimp only [Option.bind_some]
  have e2 : (if decide (b = 0) = true then some (r1, ((0 : Int), ((0 : Int), (ByteArray.empty, ()))), decide (b = 0), ()) else some (r1, ((0 : Int), ((0 : Int), (ByteArray.empty, ()))), decide (b = 1), ())) = some (r1, ((0 : Int), ((0 : Int), (ByteArray.empty, ()))), (decide (b = 0) || decide (b = 1)), ()) := by
    by_cases hb : b = 0 <;> simp [hb]
  rw [e2]; dsimp only [Option.bind_some]
  split
  · obtain ⟨c, r2, e, j, _⟩ := p_pickInt N r1 [0, 1, 7, (-3), 1000000, 40] j (by decide)
    rw [e]
    exact ⟨_, _, rfl, j, (by decide : ByteArray.empty.size ≤ 50)⟩
  · split
    · obtain ⟨c, r2, e, j, _⟩ := p_below N r1 2 j
      rw [e]
      exact ⟨_, _, rfl, j, (by decide : ByteArray.empty.size ≤ 50)⟩
    · split
      · exact ⟨_, _, rfl, j, (by decide : ByteArray.empty.size ≤ 50)⟩
      · obtain ⟨c, r2, e, j, hc⟩ := p_pick N r1 [ByteArray.mk #[97], ByteArray.mk #[120], ByteArray.mk #[105, 102]] j (by decide)
        rw [e]
        refine ⟨_, _, rfl, j, ?_⟩
        show c.size ≤ 50
        simp only [List.mem_cons, List.not_mem_nil, or_false] at hc
        rcases hc with rfl | rfl | rfl <;> decide

theorem p_val (N : Nat) (r : RT) (hp : List CT) (h : JR r) : ∃ v r', s_l6Val N (r, hp, ()) = some (v, r', ()) ∧ JR r' ∧ smV v := by
  unfold s_l6Val
  dsimp only
  by_cases hl : (hp.length : Int) > 0
  · rw [if_pos (decide_eq_true hl)]
    obtain ⟨b, r1, e, j⟩ := p_once N r 2 h
    rw [e]; dsimp only [Option.bind_some]
    by_cases hb : b = true
    · rw [if_pos hb]
      obtain ⟨c, r2, e, j, k1, k2, _⟩ := p_below N r1 (hp.length : Int) j
      rw [e]; dsimp only [Option.bind_some]
      have := k2 hl
      rw [if_pos (by simp [inB]; omega)]
      by_cases h1 : (hp.getD c.toNat ((0 : Int), ByteArray.empty, (0 : Int), (0 : Int), ([] : List ByteArray), ([] : List VT), ())).1 = 1
      · rw [if_pos (decide_eq_true h1)]
        exact ⟨_, _, rfl, j, (by decide : ByteArray.empty.size ≤ 50)⟩
      rw [if_neg (by simpa using h1)]
      by_cases h1 : (hp.getD c.toNat ((0 : Int), ByteArray.empty, (0 : Int), (0 : Int), ([] : List ByteArray), ([] : List VT), ())).1 = 2
      · rw [if_pos (decide_eq_true h1)]
        exact ⟨_, _, rfl, j, (by decide : ByteArray.empty.size ≤ 50)⟩
      rw [if_neg (by simpa using h1)]
      by_cases h1 : (hp.getD c.toNat ((0 : Int), ByteArray.empty, (0 : Int), (0 : Int), ([] : List ByteArray), ([] : List VT), ())).1 = 3
      · rw [if_pos (decide_eq_true h1)]
        exact ⟨_, _, rfl, j, (by decide : ByteArray.empty.size ≤ 50)⟩
      rw [if_neg (by simpa using h1)]
      exact p_tail N r2 j
    · rw [if_neg hb]
      exact p_tail N r1 j
  · rw [if_neg (by simpa using hl)]
    exact p_tail N r h

theorem p_anyVal (N : Nat) (r : RT) (hp : List CT) (h : JR r) : ∃ v r', s_l6AnyVal N (r, hp, ()) = some (v, r', ()) ∧ JR r' ∧ smV v := by
  unfold s_l6AnyVal
  dsimp only
  obtain ⟨v, r1, e, j, hv⟩ := p_val N r hp h
  rw [e]; dsimp only [Option.bind_some]
  obtain ⟨b, r2, e, j⟩ := p_once N r1 10 j
  rw [e]; dsimp only [Option.bind_some]
  split
  · obtain ⟨c, r3, e, j, _⟩ := p_below N r2 3 j
    rw [e]; dsimp only [Option.bind_some]
    split
    · obtain ⟨d, r4, e, j, _⟩ := p_below N r3 10 j
      rw [e]
      exact ⟨_, _, rfl, j, hv⟩
    · split
      · obtain ⟨d, r4, e, j, _⟩ := p_pickInt N r3 [(-1), 2, 9, 1000001] j (by decide)
        rw [e]
        exact ⟨_, _, rfl, j, hv⟩
      · exact ⟨_, _, rfl, j, (by decide : (ByteArray.mk #[113]).size ≤ 50)⟩
  · exact ⟨_, _, rfl, j, hv⟩
end Go.Rf

namespace Go.Rf

theorem p_new (N : Nat) (d : List Int) (hd : d.length ≤ lim) (hN : 4001 < N) : ∃ r, s_l1New N (d, ()) = some (r, ()) ∧ JR r := by
  have hlim : lim = 9223372036854775807 := rfl
  unfold s_l1New
  dsimp only
  obtain ⟨r, hr, hq⟩ := iter_inv (J := fun s : Int × Int × Unit => 0 ≤ s.2.1 ∧ s.2.1 ≤ 4000) (m := fun s => (4000 - s.2.1).toNat) (Q := fun o : (Int × Unit) ⊕ (RT × Unit) => match o with | .inl _ => True | .inr z => False)
    (f := fun s1 : Int × Int × Unit => (((if (decide (s1.2.1 < (List.length d : Int))) = true then
  some (decide (s1.2.1 < 4000)) else some false)).bind fun b2 =>
(if b2 = true then
(if inB s1.2.1 (List.length d) then
  some (Step.more (IntKind.wrap .i64 (((BitVec.ofInt (IntKind.bits .i64) (IntKind.wrap .i64 ((IntKind.wrap .i64 ((IntKind.wrap .i64 (s1.1 * 131)) + (IntKind.wrap .i64 (List.getD d (Int.toNat s1.2.1) 0)))) + 7)) &&& BitVec.ofInt (IntKind.bits .i64) 1073741823).toNat : Int)), IntKind.wrap .i64 (s1.2.1 + 1), ())) else none) else
  some (Step.done (s1.1, ())) : Option (Step (Int × Int × Unit) (Int × Unit) (RT × Unit))))) (h := by
      rintro ⟨sd, i, u⟩ ⟨h1, h2⟩
      simp only at h1 h2
      dsimp only
      by_cases hi : i < (d.length : Int)
      · rw [if_pos (decide_eq_true hi)]
        dsimp only [Option.bind_some]
        by_cases h4 : i < 4000
        · rw [if_pos (decide_eq_true h4), if_pos (by simp [inB]; omega)]
          refine ⟨_, rfl, ?_⟩
          dsimp only
          rw [wrap_id (n := i + 1) (by omega) (by omega)]
          omega
        · rw [if_neg (by simpa using h4)]
          exact ⟨_, rfl, trivial⟩
      · rw [if_neg (by simpa using hi)]
        exact ⟨_, rfl, trivial⟩) (N := N) (x := (IntKind.wrap .i64 (10101 + (List.length d : Int)), 0, ())) ⟨Int.le_refl 0, (by decide : (0 : Int) ≤ 4000)⟩ (by simp; omega)
  rw [hr]
  dsimp only [Option.bind_some]
  cases r with
  | inl y => exact ⟨_, rfl, ⟨Int.le_refl 0, hd⟩⟩
  | inr z => exact hq.elim

theorem p_size (N : Nat) (d : List Int) (n : Int) (hd : d.length ≤ lim) (hn : 0 ≤ n) : ∃ k, s_l1Size N (d, n, ()) = some (k, ()) ∧ k ≤ n := by
  unfold s_l1Size
  dsimp only
  split
  · exact ⟨_, rfl, Int.le_refl _⟩
  · rename_i h
    exact ⟨_, rfl, by simpa using h⟩

theorem smC_new {k : Int} {a : ByteArray} {i j : Int} {ns : List ByteArray} {vs : List VT} (h1 : a.size ≤ 50) (h2 : ns.length ≤ 50) (h3 : ∀ s ∈ ns, s.size ≤ 50) (h4 : vs.length ≤ 50) (h5 : ∀ v ∈ vs, smV v) : smC (k, a, i, j, ns, vs, ()) := ⟨h1, h2, h3, h4, h5⟩

theorem smH_app {h : List CT} {c : CT} (hh : ∀ c ∈ h, smC c) (hc : smC c) : ∀ x ∈ h ++ [c], smC x := by
  intro x hx
  rcases List.mem_append.1 hx with h' | h'
  · exact hh x h'
  · rw [List.mem_singleton] at h'; subst h'; exact hc

theorem smH_set {h : List CT} {c : CT} {i : Nat} (hh : ∀ c ∈ h, smC c) (hc : smC c) : ∀ x ∈ h.set i c, smC x := by
  intro x hx
  rcases List.mem_or_eq_of_mem_set hx with h' | h'
  · exact hh x h'
  · subst h'; exact hc
end Go.Rf

namespace Go.Rf

/-! ## It yields, and what it yields is so -/
def Ok {α : Type} (o : Option α) (R : α → Prop) : Prop := ∃ y, o = some y ∧ R y

theorem Ok.some {α : Type} {x : α} {R : α → Prop} (h : R x) : Ok (some x) R := ⟨x, rfl, h⟩
theorem Ok.mono {α : Type} {o : Option α} {R R' : α → Prop} (h : Ok o R) (hR : ∀ x, R x → R' x) : Ok o R' := by
  obtain ⟨y, e, hy⟩ := h; exact ⟨y, e, hR y hy⟩
theorem Ok.bind {α β : Type} {o : Option α} {K : α → Option β} {R : β → Prop} {P : α → Prop} (h : Ok o P) (hK : ∀ y, P y → Ok (K y) R) : Ok (o.bind K) R := by
  obtain ⟨y, rfl, hy⟩ := h; exact hK y hy
theorem Ok.ite {α : Type} {c : Prop} {i : Decidable c} {a b : Option α} {R : α → Prop} (h1 : c → Ok a R) (h2 : ¬ c → Ok b R) : Ok (if c then a else b) R := by
  by_cases h : c
  · rw [if_pos h]; exact h1 h
  · rw [if_neg h]; exact h2 h
theorem Ok.pos {α : Type} {c : Prop} {i : Decidable c} {a b : Option α} {R : α → Prop} (hc : c) (h1 : Ok a R) : Ok (if c then a else b) R := by
  rw [if_pos hc]; exact h1
theorem Ok.iter {A B C D : Type} {f : A → Option (Step A B C)} {K : B ⊕ C → Option D} {R : D → Prop} (J : A → Prop) (m : A → Nat) (Q : B ⊕ C → Prop) {N : Nat} {x : A}
    (h : ∀ x, J x → Ok (f x) fun s => match s with
      | .more y => J y ∧ m y < m x
      | .done b => Q (.inl b)
      | .ret c => Q (.inr c)) (hx : J x) (hm : m x < N) (hK : ∀ r, Q r → Ok (K r) R) : Ok ((Rf.iter f N x).bind K) R := by
  obtain ⟨r, e, hq⟩ := iter_inv J m Q h hx hm
  rw [e]; exact hK r hq

theorem ok_below (N : Nat) (r : RT) (n : Int) (h : JR r) : Ok (s_l1Below N (r, n, ())) fun y => JR y.2.1 ∧ 0 ≤ y.1 ∧ (0 < n → y.1 < n) ∧ (n ≤ 0 → y.1 = 0) := by
  obtain ⟨b, r', e, h⟩ := p_below N r n h
  exact ⟨_, e, h⟩
theorem ok_once (N : Nat) (r : RT) (n : Int) (h : JR r) : Ok (s_l1Once N (r, n, ())) fun y => JR y.2.1 := by
  obtain ⟨b, r', e, h⟩ := p_once N r n h
  exact ⟨_, e, h⟩
theorem ok_val (N : Nat) (r : RT) (hp : List CT) (h : JR r) : Ok (s_l6Val N (r, hp, ())) fun y => JR y.2.1 ∧ smV y.1 := by
  obtain ⟨b, r', e, h⟩ := p_val N r hp h
  exact ⟨_, e, h⟩
theorem ok_anyVal (N : Nat) (r : RT) (hp : List CT) (h : JR r) : Ok (s_l6AnyVal N (r, hp, ())) fun y => JR y.2.1 ∧ smV y.1 := by
  obtain ⟨b, r', e, h⟩ := p_anyVal N r hp h
  exact ⟨_, e, h⟩
theorem ok_pickInt (N : Nat) (r : RT) (l : List Int) (h : JR r) (hl : 0 < l.length) : Ok (s_l1PickInt N (r, l, ())) fun y => JR y.2.1 ∧ y.1 ∈ l := by
  obtain ⟨b, r', e, h⟩ := p_pickInt N r l h hl
  exact ⟨_, e, h⟩
theorem ok_pick (N : Nat) (r : RT) (l : List ByteArray) (h : JR r) (hl : 0 < l.length) : Ok (s_l1Pick N (r, l, ())) fun y => JR y.2.1 ∧ y.1 ∈ l := by
  obtain ⟨b, r', e, h⟩ := p_pick N r l h hl
  exact ⟨_, e, h⟩

def smH (h : List CT) : Prop := ∀ c ∈ h, smC c

theorem smC_at {h : List CT} (hh : smH h) (i : Nat) : smC (h.getD i ((0 : Int), ByteArray.empty, (0 : Int), (0 : Int), ([] : List ByteArray), ([] : List VT), ())) := by
  by_cases hi : i < h.length
  · exact hh _ (mem_getD hi)
  · rw [List.getD_eq_getElem?_getD, List.getElem?_eq_none (by omega)]
    exact ⟨(by decide : ByteArray.empty.size ≤ 50), by decide, by simp, by decide, by simp⟩

theorem ok_heap (N : Nat) (r : RT) (n : Int) (h : JR r) (hn : n ≤ 30) (hN : 1000 < N) : Ok (s_l6Heap N (r, n, ())) fun y => JR y.2.1 ∧ y.1.length ≤ 30 ∧ ∀ c ∈ y.1, c.2.1.size < big ∧ c.2.2.2.2.1.length < big ∧ (∀ s ∈ c.2.2.2.2.1, s.size < big) ∧ c.2.2.2.2.2.1.length < big ∧ ∀ v ∈ c.2.2.2.2.2.1, smV v := by
  have hbig : big = 1048577 := rfl
  unfold s_l6Heap
  dsimp only
  refine Ok.bind (ok_below N r n h) ?_
  rintro ⟨b, r1, u⟩ ⟨j1, b1, b2, b3⟩
  simp only at j1 b1 b2 b3
  refine Ok.iter (J := fun s => JR s.1 ∧ 0 ≤ s.2.2.1 ∧ (s.2.1.length : Int) + s.2.2.1 ≤ 30 ∧ smH s.2.1) (m := fun s => s.2.2.1.toNat) (Q := fun o => match o with | .inl s => JR s.1 ∧ s.2.1.length ≤ 30 ∧ smH s.2.1 | .inr _ => False) ?_ ⟨j1, b1, ?_, by simp [smH]⟩ ?_ ?_
  · rintro ⟨r, hp, k, u⟩ ⟨g1, g2, g3, g4⟩
    simp only at g1 g2 g3 g4
    dsimp only
    refine Ok.ite (fun hc => ?_) (fun hc => ?_)
    · have hk : 0 < k := by simpa using hc
      refine Ok.bind (ok_below N r 4 g1) ?_
      rintro ⟨c, r2, u⟩ ⟨j, _⟩
      simp only at j
      dsimp only
      refine Ok.bind (P := fun y => JR y.1 ∧ y.2.1.length = hp.length + 1 ∧ smH y.2.1) ?_ ?_
      · refine Ok.ite (fun hc => ?_) (fun hc => ?_)
        · refine Ok.bind (ok_val N r2 hp j) ?_
          rintro ⟨v, r3, u⟩ ⟨j, hv⟩
          refine Ok.pos (by simp; omega) (Ok.some ⟨j, by simp, smH_app g4 (smC_new (by decide) (by simp) (by simp) (by simp) (by simpa using hv))⟩)
        · refine Ok.bind (P := fun y => JR y.1 ∧ y.2.1.length = hp.length + 1 ∧ smH y.2.1) ?_ (fun y hy => Ok.some hy)
          refine Ok.ite (fun hc => ?_) (fun hc => ?_)
          · refine Ok.bind (ok_val N r2 hp j) ?_
            rintro ⟨v, r3, u⟩ ⟨j, hv⟩
            refine Ok.pos (by simp; omega) (Ok.some ⟨j, by simp, smH_app g4 (smC_new (by decide) (by simp) (by simp; decide) (by simp) (by simpa using hv))⟩)
          · refine Ok.bind (ok_val N r2 hp j) ?_
            rintro ⟨v, r3, u⟩ ⟨j, hv⟩
            refine Ok.bind (ok_val N r3 hp j) ?_
            rintro ⟨v2, r4, u⟩ ⟨j, hv2⟩
            simp only at hv hv2
            refine Ok.pos (by simp; omega) (Ok.some ⟨j, by simp, smH_app g4 (smC_new (by decide) (by simp) (by simp) (by simp) (by simp [hv, hv2]))⟩)
      · rintro ⟨r3, hp3, u⟩ ⟨k1, k2, k3⟩
        simp only at k1 k2 k3
        refine Ok.some ⟨⟨k1, ?_, ?_, k3⟩, ?_⟩
        all_goals (dsimp only; rw [wrap_id (n := k - 1) (by omega) (by omega)]; omega)
    · refine Ok.some ⟨g1, ?_, g4⟩
      simp at hc; dsimp only; omega
  · dsimp only [List.length_nil]
    by_cases h0 : 0 < n
    · have := b2 h0; omega
    · have := b3 (by omega); omega
  · dsimp only
    by_cases h0 : 0 < n
    · have := b2 h0; omega
    · have := b3 (by omega); omega
  · rintro (⟨r2, hp, u⟩ | z) hq
    rotate_left
    · exact hq.elim
    obtain ⟨j, hl, hh⟩ := hq
    simp only at j hl hh
    have W : ∀ c, smC c → c.2.1.size < big ∧ c.2.2.2.2.1.length < big ∧ (∀ s ∈ c.2.2.2.2.1, s.size < big) ∧ c.2.2.2.2.2.1.length < big ∧ ∀ v ∈ c.2.2.2.2.2.1, smV v := by
      rintro c ⟨a1, a2, a3, a4, a5⟩
      exact ⟨by omega, by omega, fun s hs => by have := a3 s hs; omega, by omega, a5⟩
    dsimp only
    refine Ok.ite (fun hc => ?_) (fun hc => ?_)
    · have h0 : 0 < hp.length := by simpa using hc
      refine Ok.bind (ok_once N r2 10 j) ?_
      rintro ⟨b, r3, u⟩ j
      simp only at j
      dsimp only
      refine Ok.bind (P := fun y => JR y.1 ∧ y.2.1.length = hp.length ∧ ∀ c ∈ y.2.1, c.2.1.size < big ∧ c.2.2.2.2.1.length < big ∧ (∀ s ∈ c.2.2.2.2.1, s.size < big) ∧ c.2.2.2.2.2.1.length < big ∧ ∀ v ∈ c.2.2.2.2.2.1, smV v) ?_ ?_
      · have J := j
        refine Ok.ite (fun hc => ?_) (fun hc => Ok.some ⟨j, rfl, fun c hc => W c (hh c hc)⟩)
        refine Ok.bind (ok_below N r3 (hp.length : Int) j) ?_
        rintro ⟨k, r4, u⟩ ⟨j, k1, k2, _⟩
        have k2 := k2 (by omega)
        simp only at j k1 k2
        dsimp only
        have hin : inB k hp.length := by simp [inB]; omega
        obtain ⟨a1, a2, a3, a4, a5⟩ := smC_at hh k.toNat
        refine Ok.bind (ok_below N r4 4 j) ?_
        rintro ⟨c, r5, u⟩ ⟨j, _⟩
        simp only at j
        dsimp only
        have setW : ∀ c' : CT, (c'.2.1.size < big ∧ c'.2.2.2.2.1.length < big ∧ (∀ s ∈ c'.2.2.2.2.1, s.size < big) ∧ c'.2.2.2.2.2.1.length < big ∧ ∀ v ∈ c'.2.2.2.2.2.1, smV v) → ∀ c ∈ hp.set k.toNat c', c.2.1.size < big ∧ c.2.2.2.2.1.length < big ∧ (∀ s ∈ c.2.2.2.2.1, s.size < big) ∧ c.2.2.2.2.2.1.length < big ∧ ∀ v ∈ c.2.2.2.2.2.1, smV v := by
          intro c' hc' c hc
          rcases List.mem_or_eq_of_mem_set hc with h' | h'
          · exact W c (hh c h')
          · subst h'; exact hc'
        refine Ok.bind (P := fun y => JR y.1 ∧ y.2.1.length = hp.length ∧ ∀ c ∈ y.2.1, c.2.1.size < big ∧ c.2.2.2.2.1.length < big ∧ (∀ s ∈ c.2.2.2.2.1, s.size < big) ∧ c.2.2.2.2.2.1.length < big ∧ ∀ v ∈ c.2.2.2.2.2.1, smV v) ?_ (fun y hy => Ok.some hy)
        refine Ok.ite (fun hc => ?_) (fun hc => ?_)
        · refine Ok.bind (ok_below N r5 5 j) ?_
          rintro ⟨d, r6, u⟩ ⟨j, _⟩
          exact Ok.pos hin (Ok.some ⟨j, by simp, setW _ (W _ ⟨a1, a2, a3, a4, a5⟩)⟩)
        refine Ok.bind (P := fun y => JR y.1 ∧ y.2.1.length = hp.length ∧ ∀ c ∈ y.2.1, c.2.1.size < big ∧ c.2.2.2.2.1.length < big ∧ (∀ s ∈ c.2.2.2.2.1, s.size < big) ∧ c.2.2.2.2.2.1.length < big ∧ ∀ v ∈ c.2.2.2.2.2.1, smV v) ?_ (fun y hy => Ok.some hy)
        refine Ok.ite (fun hc => ?_) (fun hc => ?_)
        · refine Ok.pos hin ?_
          refine Ok.bind (ok_anyVal N r5 hp j) ?_
          rintro ⟨v, r6, u⟩ ⟨j, hv⟩
          simp only at j hv
          refine Ok.pos hin (Ok.pos (by simp) (Ok.pos (by rw [List.length_singleton]; exact Nat.le_trans (Nat.add_le_add_right a4 1) (by decide)) (Ok.some ⟨j, by simp, setW _ ⟨by dsimp only; omega, by dsimp only; omega, fun s hs => by have := a3 s hs; omega, by dsimp only; rw [List.length_append, List.length_singleton]; exact Nat.lt_of_le_of_lt (Nat.add_le_add_right a4 1) (by decide), ?_⟩⟩)))
          intro v' hv'
          rcases List.mem_append.1 hv' with h' | h'
          · exact a5 v' h'
          · rw [List.mem_singleton] at h'; subst h'; exact hv
        refine Ok.bind (P := fun y => JR y.1 ∧ y.2.1.length = hp.length ∧ ∀ c ∈ y.2.1, c.2.1.size < big ∧ c.2.2.2.2.1.length < big ∧ (∀ s ∈ c.2.2.2.2.1, s.size < big) ∧ c.2.2.2.2.2.1.length < big ∧ ∀ v ∈ c.2.2.2.2.2.1, smV v) ?_ (fun y hy => Ok.some hy)
        refine Ok.ite (fun hc => ?_) (fun hc => ?_)
        · refine Ok.bind (ok_pickInt N r5 _ j (by decide)) ?_
          rintro ⟨d, r6, u⟩ ⟨j, _⟩
          exact Ok.pos hin (Ok.some ⟨j, by simp, setW _ (W _ ⟨a1, a2, a3, a4, a5⟩)⟩)
        · refine Ok.bind (ok_pick N r5 _ j (by decide)) ?_
          rintro ⟨d, r6, u⟩ ⟨j, hd⟩
          simp only [List.mem_cons, List.not_mem_nil, or_false] at hd
          refine Ok.pos hin (Ok.some ⟨j, by simp, setW _ (W _ ⟨?_, a2, a3, a4, a5⟩)⟩)
          dsimp only
          rcases hd with rfl | rfl <;> decide
      · rintro ⟨r4, hp4, u⟩ ⟨j, e, hw⟩
        exact Ok.some ⟨j, by simp only at e; dsimp only; omega, hw⟩
    · exact Ok.some ⟨j, hl, fun c hc => W c (hh c hc)⟩
end Go.Rf

namespace Go.Rf

def mdC (c : CT) : Prop := c.2.1.size < big ∧ c.2.2.2.2.1.length < big ∧ (∀ s ∈ c.2.2.2.2.1, s.size < big) ∧ c.2.2.2.2.2.1.length < big ∧ ∀ v ∈ c.2.2.2.2.2.1, smV v

theorem ok_DrawWeight (N : Nat) (d : List Int) (hd : d.length ≤ lim) (hN : 5000 < N) : Ok (s_DrawWeight N (d, ())) fun y => SzH y.1 ∧ SzV y.2.1 := by
  have hbig : big = 1048577 := rfl
  have hV : ∀ {v : VT}, smV v → SzV v := fun {v} h => by unfold smV at h; unfold SzV; omega
  unfold s_DrawWeight
  dsimp only
  refine Ok.bind (P := fun y => JR y.1) (by obtain ⟨r, e, j⟩ := p_new N d hd (by omega); exact ⟨_, e, j⟩) ?_
  rintro ⟨r, u⟩ j
  simp only at j
  dsimp only
  refine Ok.bind (P := fun y => y.1 ≤ 30) (by obtain ⟨k, e, h⟩ := p_size N d 30 hd (by decide); exact ⟨_, e, h⟩) ?_
  rintro ⟨n, u⟩ hn
  simp only at hn
  dsimp only
  refine Ok.bind (ok_heap N r n j hn (by omega)) ?_
  rintro ⟨hp, r2, u⟩ ⟨j, hl, hh⟩
  simp only at j hl hh
  have hH : SzH hp := ⟨by omega, fun c hc => ⟨(hh c hc).1, (hh c hc).2.1, (hh c hc).2.2.1, (hh c hc).2.2.2.1, fun v hv => hV ((hh c hc).2.2.2.2 v hv)⟩⟩
  dsimp only
  refine Ok.bind (ok_once N r2 6 j) ?_
  rintro ⟨b, r3, u⟩ j
  simp only at j
  dsimp only
  refine Ok.ite (fun hc => ?_) (fun hc => ?_)
  · refine Ok.bind (ok_below N r3 10 j) ?_
    rintro ⟨k, r4, u⟩ ⟨_, k1, k2, _⟩
    have k2 := k2 (by decide)
    simp only at k1 k2
    dsimp only
    refine Ok.iter (J := fun s => 0 ≤ s.2.2.1 ∧ (s.2.1.length : Int) + s.2.2.1 ≤ 30 ∧ smH s.2.1) (m := fun s => s.2.2.1.toNat) (Q := fun o => match o with | .inl s => s.2.1.length ≤ 30 ∧ smH s.2.1 | .inr _ => False) ?_ ?_ ?_ ?_
    · rintro ⟨v, hp, k, u⟩ ⟨g2, g3, g4⟩
      simp only at g2 g3 g4
      dsimp only
      refine Ok.ite (fun hc => ?_) (fun hc => ?_)
      · have hk : 0 < k := by simpa using hc
        refine Ok.pos (by rw [List.length_singleton]; omega) (Ok.some ⟨⟨?_, ?_, smH_app g4 (smC_new (by decide) (by simp) (by simp) (by simp) ?_)⟩, ?_⟩)
        · dsimp only; rw [wrap_id (n := k - 1) (by omega) (by omega)]; omega
        · dsimp only; rw [wrap_id (n := k - 1) (by omega) (by omega), List.length_append, List.length_singleton]; omega
        · intro v hv
          simp only [List.mem_cons, List.not_mem_nil, or_false] at hv
          rcases hv with rfl | rfl <;> exact (by decide : ByteArray.empty.size ≤ 50)
        · dsimp only; rw [wrap_id (n := k - 1) (by omega) (by omega)]; omega
      · refine Ok.some ⟨?_, g4⟩
        simp at hc; dsimp only; omega
    · refine ⟨?_, ?_, ?_⟩
      · dsimp only; rw [wrap_id (n := 12 + k) (by omega) (by omega)]; omega
      · dsimp only; rw [wrap_id (n := 12 + k) (by omega) (by omega), List.length_singleton]; omega
      · intro c hc
        rw [List.mem_singleton] at hc
        subst hc
        refine smC_new (by decide) (by simp) (by simp) (by simp) ?_
        intro v hv
        simp only [List.mem_cons, List.not_mem_nil, or_false] at hv
        rcases hv with rfl | rfl <;> exact (by decide : ByteArray.empty.size ≤ 50)
    · dsimp only; rw [wrap_id (n := 12 + k) (by omega) (by omega)]; omega
    · rintro (⟨v, hp, u⟩ | z) hq
      rotate_left
      · exact hq.elim
      obtain ⟨hl, hh⟩ := hq
      simp only at hl hh
      refine Ok.some ⟨⟨by dsimp only; omega, fun c hc => ?_⟩, (by decide : ByteArray.empty.size < big)⟩
      obtain ⟨a1, a2, a3, a4, a5⟩ := hh c hc
      exact ⟨by omega, by omega, fun s hs => by have := a3 s hs; omega, by omega, fun v hv => hV (a5 v hv)⟩
  · refine Ok.bind (ok_anyVal N r3 hp j) ?_
    rintro ⟨v, r4, u⟩ ⟨_, hv⟩
    exact Ok.some ⟨hH, hV hv⟩

/-! ## What a pair weighs -/
theorem stepW_other {h : List CT} {w : List Int} {i j : Nat} (hij : i ≠ j) : (stepW h w i).getD j 0 = w.getD j 0 := by
  have hs : ∀ (w : List Int) (a : Int), (w.set i a).getD j 0 = w.getD j 0 := fun w a => by
    rw [List.getD_eq_getElem?_getD, List.getElem?_set_ne hij, ← List.getD_eq_getElem?_getD]
  have hf : ∀ (vs : List VT) (w : List Int), (vs.foldl (addW i) w).getD j 0 = w.getD j 0 := by
    intro vs
    induction vs with
    | nil => intro w; rfl
    | cons v vs ih =>
      intro w
      rw [List.foldl_cons, ih]
      unfold addW
      split
      · exact hs _ _
      · rfl
  unfold stepW
  split
  · rw [hf, hs]
  · rfl

theorem wts_stay {h : List CT} {j : Nat} : ∀ {k : Nat}, j < k → (wts h k).getD j 0 = (wts h (j + 1)).getD j 0 := by
  intro k
  induction k with
  | zero => intro hk; omega
  | succ k ih =>
    intro hk
    by_cases e : k = j
    · subst e; rfl
    · rw [wts_succ, stepW_other e, ih (by omega)]

theorem weight_5 {h : List CT} {v : VT} (ho : heapOk h = true) (hv : valueOk h v = true) (h5 : v.1 = 5) : weight h v = (wts h h.length).getD v.2.1.toNat 0 := by
  unfold weight; simp [ho, hv, h5]
theorem weight_not {h : List CT} {v : VT} (h5 : ¬ v.1 = 5) : weight h v = 0 := by
  unfold weight; simp [h5]

theorem weight_range (h : List CT) (v : VT) : 0 ≤ weight h v ∧ weight h v ≤ 100000 := by
  unfold weight
  split
  · exact (goodW_wts h h.length).2 _
  · omega

theorem pair_weight {h : List CT} {v : VT} (ho : heapOk h = true) (hv : valueOk h v = true) (h5 : v.1 = 5) :
    0 ≤ v.2.1 ∧ v.2.1.toNat < h.length ∧ (h.getD v.2.1.toNat ((0 : Int), ByteArray.empty, (0 : Int), (0 : Int), ([] : List ByteArray), ([] : List VT), ())).2.2.2.2.2.1.length = 2 ∧ weight h v = leastW (1 + weight h ((h.getD v.2.1.toNat ((0 : Int), ByteArray.empty, (0 : Int), (0 : Int), ([] : List ByteArray), ([] : List VT), ())).2.2.2.2.2.1.getD 0 ((0 : Int), (0 : Int), ByteArray.empty, ())) + weight h ((h.getD v.2.1.toNat ((0 : Int), ByteArray.empty, (0 : Int), (0 : Int), ([] : List ByteArray), ([] : List VT), ())).2.2.2.2.2.1.getD 1 ((0 : Int), (0 : Int), ByteArray.empty, ()))) := by
  have hat : 0 ≤ v.2.1 ∧ v.2.1 < h.length ∧ (h.getD v.2.1.toNat ((0 : Int), ByteArray.empty, (0 : Int), (0 : Int), ([] : List ByteArray), ([] : List VT), ())).1 = 1 := by
    have h3 := hv
    unfold valueOk at h3
    rw [h5] at h3
    simp [atC, inI] at h3
    refine ⟨h3.2.1.1, by omega, ?_⟩
    simpa using h3.2.2
  obtain ⟨h1, h2, h3⟩ := hat
  have hlt : v.2.1.toNat < h.length := by omega
  obtain ⟨hp, _⟩ := pair_parts ho hlt h3
  refine ⟨h1, hlt, hp, ?_⟩
  have hc := ho
  unfold heapOk at hc
  rw [Bool.and_eq_true, List.all_eq_true] at hc
  have hc := hc.2 _ (List.mem_range.2 hlt)
  unfold cellOk at hc
  rw [Bool.and_eq_true, Bool.and_eq_true] at hc
  obtain ⟨⟨_, hval⟩, hbel⟩ := hc
  rw [weight_5 ho hv h5, wts_stay hlt, wts_succ]
  generalize hk : v.2.1.toNat = k at *
  unfold stepW
  rw [if_pos h3]
  generalize (h.getD k ((0 : Int), ByteArray.empty, (0 : Int), (0 : Int), ([] : List ByteArray), ([] : List VT), ())).2.2.2.2.2.1 = vs at *
  match vs, hp with
  | [p, q], _ =>
    have part : ∀ x ∈ [p, q], x.1 = 5 → 0 ≤ x.2.1 ∧ x.2.1.toNat < k ∧ weight h x = (wts h k).getD x.2.1.toNat 0 := by
      intro x hx hx5
      have e1 := List.all_eq_true.1 hval x hx
      have hbel' : [p, q].all (belowV k) = true := by
        rcases (Bool.or_eq_true _ _).mp hbel with h' | h'
        · rw [decide_eq_true_eq, h3] at h'; cases h'
        · exact h'
      have e2 := List.all_eq_true.1 hbel' x hx
      have e3 : 0 ≤ x.2.1 := by
        have h3 := e1
        unfold valueOk at h3
        rw [hx5] at h3
        simp [atC, inI] at h3
        exact h3.2.1.1
      have e4 : x.2.1.toNat < k := by
        unfold belowV refV at e2
        rw [hx5] at e2
        simp at e2
        omega
      refine ⟨e3, e4, ?_⟩
      rw [weight_5 ho e1 hx5, wts_stay (show x.2.1.toNat < h.length by omega), wts_stay e4]
    have hgw := goodW_wts h k
    have hset : ∀ (w : List Int) (a : Int), k < w.length → (w.set k a).getD k 0 = a := fun w a hw => by
      rw [List.getD_eq_getElem?_getD, List.getElem?_set_self hw]; rfl
    have hne : ∀ (w : List Int) (a : Int) (j : Nat), j < k → (w.set k a).getD j 0 = w.getD j 0 := fun w a j hj => by
      rw [List.getD_eq_getElem?_getD, List.getElem?_set_ne (by omega), ← List.getD_eq_getElem?_getD]
    have step : ∀ (w : List Int) (x : VT) (a : Int), x ∈ [p, q] → w.length = h.length → (∀ j, j < k → w.getD j 0 = (wts h k).getD j 0) → w.getD k 0 = a → 0 ≤ a → a ≤ 100000 →
        (addW k w x).length = h.length ∧ (∀ j, j < k → (addW k w x).getD j 0 = (wts h k).getD j 0) ∧ (addW k w x).getD k 0 = leastW (a + weight h x) := by
      intro w x a hx hw hj ha a0 a1
      unfold addW
      split
      · rename_i hx5
        obtain ⟨p1, p2, p3⟩ := part x hx hx5
        refine ⟨by simp [hw], fun j hj' => by rw [hne _ _ _ hj', hj j hj'], ?_⟩
        rw [hset _ _ (by omega), ha, hj _ p2, p3]
      · rename_i hx5
        refine ⟨hw, hj, ?_⟩
        rw [ha, weight_not hx5]
        unfold leastW
        split <;> omega
    simp only [List.foldl_cons, List.foldl_nil]
    obtain ⟨s1, s2, s3⟩ := step ((wts h k).set k 1) p 1 (by simp) (by simp [hgw.1]) (fun j hj => hne _ _ _ hj) (hset _ _ (by rw [hgw.1]; exact hlt)) (by decide) (by decide)
    have r1 := weight_range h p
    have r2 := weight_range h q
    obtain ⟨_, _, s6⟩ := step _ q _ (by simp) s1 s2 s3 (by unfold leastW; split <;> omega) (by unfold leastW; split <;> omega)
    rw [s6]
    show leastW (leastW (1 + weight h p) + weight h q) = leastW (1 + weight h p + weight h q)
    unfold leastW
    (repeat' split) <;> omega

/-- THE LAW, WITH NO PROGRAM IN SIGHT -/
theorem l_FnWeight_true (N : Nat) (x : List Int × Unit) (hx : x.1.length ≤ lim) (hN : big < N) : l_FnWeight N x = some (true, ()) := by
  obtain ⟨d, u⟩ := x
  simp only at hx
  have hb : big = 1048577 := rfl
  suffices h : Ok (l_FnWeight N (d, ())) (fun y => y = (true, ())) by
    obtain ⟨y, e, rfl⟩ := h; exact e
  unfold l_FnWeight l_big
  dsimp only [Option.bind_some]
  refine Ok.ite (fun hc => Ok.some rfl) (fun hc => ?_)
  refine Ok.bind (ok_DrawWeight N d hx (by omega)) ?_
  rintro ⟨h, v, u⟩ ⟨hh, hv⟩
  simp only at hh hv
  have hW := fun v hv => e_i_Weight N (h, v, ()) hh hv (by omega)
  dsimp only
  rw [hW v hv]
  dsimp only [Option.bind_some]
  rw [e_s_Weight N (h, v, ()) hh hv (by omega)]
  dsimp only [Option.bind_some]
  rw [if_neg (by simp), e_s_HeapOk N _ hh (by omega)]
  dsimp only [Option.bind_some]
  rw [e_s_ValueOk N (h, v, ()) hv (by omega)]
  dsimp only [Option.bind_some]
  have e1 : (if (!heapOk h) = true then some true else some (!valueOk h v)) = some (!(heapOk h && valueOk h v)) := by
    cases heapOk h <;> simp
  rw [e1]
  dsimp only [Option.bind_some]
  have e2 : (if (!(heapOk h && valueOk h v)) = true then some true else some (!decide (v.1 = 5))) = some (!(heapOk h && valueOk h v && decide (v.1 = 5))) := by
    cases heapOk h && valueOk h v <;> simp
  rw [e2]
  dsimp only [Option.bind_some]
  refine Ok.ite (fun hc => ?_) (fun hc => ?_)
  · refine Ok.some ?_
    have : weight h v = 0 := by
      unfold weight
      rw [if_neg (by revert hc; cases heapOk h <;> cases valueOk h v <;> cases decide (v.1 = 5) <;> simp)]
    simp [this]
  · have hc' : heapOk h = true ∧ valueOk h v = true ∧ v.1 = 5 := by
      simpa [and_assoc] using hc
    obtain ⟨ho, hvo, h5⟩ := hc'
    obtain ⟨w1, w2, w3, w4⟩ := pair_weight ho hvo h5
    have hin : inB v.2.1 h.length := by simp [inB]; omega
    have hvs := (hh.2 _ (mem_getD (d := ((0 : Int), ByteArray.empty, (0 : Int), (0 : Int), ([] : List ByteArray), ([] : List VT), ())) w2)).2.2.2.2
    rw [if_pos hin, if_pos (by rw [w3]; simp [inB]), hW ((h.getD v.2.1.toNat ((0 : Int), ByteArray.empty, (0 : Int), (0 : Int), ([] : List ByteArray), ([] : List VT), ())).2.2.2.2.2.1.getD (Int.toNat 0) ((0 : Int), (0 : Int), ByteArray.empty, ())) (hvs _ (mem_getD (by rw [w3]; decide)))]
    dsimp only [Option.bind_some]
    rw [if_pos hin, if_pos (by rw [w3]; simp [inB]), hW ((h.getD v.2.1.toNat ((0 : Int), ByteArray.empty, (0 : Int), (0 : Int), ([] : List ByteArray), ([] : List VT), ())).2.2.2.2.2.1.getD (Int.toNat 1) ((0 : Int), (0 : Int), ByteArray.empty, ())) (hvs _ (mem_getD (by rw [w3]; decide)))]
    dsimp only [Option.bind_some]
    have r1 := weight_range h ((h.getD v.2.1.toNat ((0 : Int), ByteArray.empty, (0 : Int), (0 : Int), ([] : List ByteArray), ([] : List VT), ())).2.2.2.2.2.1.getD 0 ((0 : Int), (0 : Int), ByteArray.empty, ()))
    have r2 := weight_range h ((h.getD v.2.1.toNat ((0 : Int), ByteArray.empty, (0 : Int), (0 : Int), ([] : List ByteArray), ([] : List VT), ())).2.2.2.2.2.1.getD 1 ((0 : Int), (0 : Int), ByteArray.empty, ()))
    rw [w4]
    show Ok (((if decide (IntKind.wrap .i64 (IntKind.wrap .i64 (1 + weight h ((h.getD v.2.1.toNat ((0 : Int), ByteArray.empty, (0 : Int), (0 : Int), ([] : List ByteArray), ([] : List VT), ())).2.2.2.2.2.1.getD 0 ((0 : Int), (0 : Int), ByteArray.empty, ()))) + weight h ((h.getD v.2.1.toNat ((0 : Int), ByteArray.empty, (0 : Int), (0 : Int), ([] : List ByteArray), ([] : List VT), ())).2.2.2.2.2.1.getD 1 ((0 : Int), (0 : Int), ByteArray.empty, ()))) > 100000) = true then some ((100000 : Int), ()) else some (IntKind.wrap .i64 (IntKind.wrap .i64 (1 + weight h ((h.getD v.2.1.toNat ((0 : Int), ByteArray.empty, (0 : Int), (0 : Int), ([] : List ByteArray), ([] : List VT), ())).2.2.2.2.2.1.getD 0 ((0 : Int), (0 : Int), ByteArray.empty, ()))) + weight h ((h.getD v.2.1.toNat ((0 : Int), ByteArray.empty, (0 : Int), (0 : Int), ([] : List ByteArray), ([] : List VT), ())).2.2.2.2.2.1.getD 1 ((0 : Int), (0 : Int), ByteArray.empty, ()))), ())) : Option (Int × Unit)).bind fun j => some (decide (leastW (1 + weight h ((h.getD v.2.1.toNat ((0 : Int), ByteArray.empty, (0 : Int), (0 : Int), ([] : List ByteArray), ([] : List VT), ())).2.2.2.2.2.1.getD 0 ((0 : Int), (0 : Int), ByteArray.empty, ())) + weight h ((h.getD v.2.1.toNat ((0 : Int), ByteArray.empty, (0 : Int), (0 : Int), ([] : List ByteArray), ([] : List VT), ())).2.2.2.2.2.1.getD 1 ((0 : Int), (0 : Int), ByteArray.empty, ()))) = j.1), ())) _
    generalize weight h ((h.getD v.2.1.toNat ((0 : Int), ByteArray.empty, (0 : Int), (0 : Int), ([] : List ByteArray), ([] : List VT), ())).2.2.2.2.2.1.getD 0 ((0 : Int), (0 : Int), ByteArray.empty, ())) = a at *
    generalize weight h ((h.getD v.2.1.toNat ((0 : Int), ByteArray.empty, (0 : Int), (0 : Int), ([] : List ByteArray), ([] : List VT), ())).2.2.2.2.2.1.getD 1 ((0 : Int), (0 : Int), ByteArray.empty, ())) = b at *
    rw [wrap_id (n := 1 + a) (by omega) (by omega), wrap_id (n := 1 + a + b) (by omega) (by omega)]
    unfold leastW
    by_cases hg : 1 + a + b > 100000
    · rw [if_pos (decide_eq_true hg), if_pos hg]
      exact Ok.some (by simp)
    · rw [if_neg (by simpa using hg), if_neg hg]
      exact Ok.some (by simp)
end Go.Rf
