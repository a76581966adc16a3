/-
  Values that are alike: both plain comparisons tell the same.
-/
import Derived.Test.YtkifpahhppbdkaaGreatDoorYDraw
import Derived.Test.YtkifpahhppbdkaaGreatDoorYNat
set_option linter.unusedSimpArgs false
set_option linter.unusedVariables false
set_option autoImplicit false
namespace Go.Rf

/-! ## Values that are alike -/
theorem ok_len {h : List CT} (ho : heapOk h = true) : h.length ≤ 300 := by
  unfold heapOk at ho
  rw [Bool.and_eq_true, decide_eq_true_eq] at ho
  exact ho.1

theorem pair_kids {h : List CT} {v : VT} (ho : heapOk h = true) (hv : valueOk h v = true) (h5 : v.1 = 5) :
    (0 ≤ v.2.1 ∧ v.2.1 < (h.length : Int)) ∧ (valsI h v.2.1).length = 2 ∧ ∀ x ∈ valsI h v.2.1, valueOk h x = true ∧ (x.1 = 5 → 0 ≤ x.2.1 ∧ x.2.1 < v.2.1) := by
  have hat : 0 ≤ v.2.1 ∧ v.2.1 < h.length ∧ (h.getD v.2.1.toNat ((0 : Int), ByteArray.empty, (0 : Int), (0 : Int), ([] : List ByteArray), ([] : List VT), ())).1 = 1 := by
    have h3 := hv
    unfold valueOk at h3
    rw [h5] at h3
    simp [atC, inI] at h3
    refine ⟨h3.2.1.1, by omega, ?_⟩
    simpa using h3.2.2
  obtain ⟨h1, h2, h3⟩ := hat
  have hlt : v.2.1.toNat < h.length := by omega
  obtain ⟨hp, _⟩ := pair_parts ho hlt h3
  refine ⟨⟨h1, h2⟩, hp, fun x hx => ?_⟩
  have hc := ho
  unfold heapOk at hc
  rw [Bool.and_eq_true, List.all_eq_true] at hc
  have hc := hc.2 _ (List.mem_range.2 hlt)
  unfold cellOk at hc
  rw [Bool.and_eq_true, Bool.and_eq_true] at hc
  obtain ⟨⟨_, hval⟩, hbel⟩ := hc
  have e1 := List.all_eq_true.1 hval x hx
  refine ⟨e1, fun hx5 => ?_⟩
  have hbel' : (h.getD v.2.1.toNat ((0 : Int), ByteArray.empty, (0 : Int), (0 : Int), ([] : List ByteArray), ([] : List VT), ())).2.2.2.2.2.1.all (belowV (v.2.1.toNat : Int)) = true := by
    rcases (Bool.or_eq_true _ _).mp hbel with h' | h'
    · rw [decide_eq_true_eq, h3] at h'; cases h'
    · exact h'
  have e2 := List.all_eq_true.1 hbel' x hx
  have e3 : 0 ≤ x.2.1 := by
    have h3 := e1
    unfold valueOk at h3
    rw [hx5] at h3
    simp [atC, inI] at h3
    exact h3.2.1.1
  refine ⟨e3, ?_⟩
  unfold belowV refV at e2
  rw [hx5] at e2
  simp at e2
  omega

def rank (v : VT) : Nat := if v.1 = 5 then v.2.1.toNat + 1 else 0

theorem rank_le {h : List CT} {v : VT} (ho : heapOk h = true) (hv : valueOk h v = true) : rank v ≤ 300 := by
  unfold rank
  split
  · rename_i h5
    obtain ⟨⟨h1, h2⟩, _⟩ := pair_kids ho hv h5
    have : h.length ≤ 300 := by
      unfold heapOk at ho
      rw [Bool.and_eq_true, decide_eq_true_eq] at ho
      exact ho.1
    omega
  · omega

theorem rank_kid {v x : VT} (h5 : v.1 = 5) (hx : x.1 = 5 → 0 ≤ x.2.1 ∧ x.2.1 < v.2.1) : rank x < rank v := by
  unfold rank
  rw [if_pos h5]
  split
  · rename_i hx5
    have := hx hx5
    omega
  · omega

theorem getD_mem2 {α : Type} {l : List α} {d : α} {i : Nat} (hl : l.length = 2) (hi : i < 2) : l.getD i d ∈ l := mem_getD (by omega)

theorem alike_some {h g : List CT} (ho : heapOk h = true) (hg : heapOk g = true) : ∀ (n : Nat) (a b : VT), valueOk h a = true → valueOk g b = true → rank a < n → ∃ r, alike h g n a b = some r := by
  intro n
  induction n with
  | zero => intro a b _ _ h; omega
  | succ n ih =>
    intro a b ha hb hn
    simp only [alike]
    split
    · rename_i e1
      split
      · exact ⟨_, rfl⟩
      · split
        · rename_i h5
          obtain ⟨k1, k2, k3⟩ := pair_kids ho ha h5
          obtain ⟨l1, l2, l3⟩ := pair_kids hg hb (e1 ▸ h5)
          rw [if_pos ⟨k1, l1, by omega, by omega, ok_len ho, ok_len hg⟩]
          have m0 := k3 _ (getD_mem2 (d := ((0 : Int), (0 : Int), ByteArray.empty, ())) k2 (i := 0) (by omega))
          have m1 := k3 _ (getD_mem2 (d := ((0 : Int), (0 : Int), ByteArray.empty, ())) k2 (i := 1) (by omega))
          have n0 := l3 _ (getD_mem2 (d := ((0 : Int), (0 : Int), ByteArray.empty, ())) l2 (i := 0) (by omega))
          have n1 := l3 _ (getD_mem2 (d := ((0 : Int), (0 : Int), ByteArray.empty, ())) l2 (i := 1) (by omega))
          have r0 := rank_kid h5 m0.2
          have r1 := rank_kid h5 m1.2
          obtain ⟨q0, hq0⟩ := ih _ _ m0.1 n0.1 (by omega)
          obtain ⟨q1, hq1⟩ := ih _ _ m1.1 n1.1 (by omega)
          rw [hq0]
          simp only [Option.bind_some]
          split
          · exact ⟨_, hq1⟩
          · exact ⟨_, rfl⟩
        · exact ⟨_, rfl⟩
    · exact ⟨_, rfl⟩

def like (h g : List CT) (a b : VT) : Bool := (alike h g 400 a b).getD false

section
variable {h g : List CT} {a b : VT}

theorem alike_like (ho : heapOk h = true) (hg : heapOk g = true) (ha : valueOk h a = true) (hb : valueOk g b = true) {n : Nat} (hn : rank a < n) : alike h g n a b = some (like h g a b) := by
  obtain ⟨r, hr⟩ := alike_some ho hg n a b ha hb hn
  obtain ⟨q, hq⟩ := alike_some ho hg 400 a b ha hb (by have := rank_le ho ha; omega)
  have h1 := alike_mono hr (max n 400) (by omega)
  have h2 := alike_mono hq (max n 400) (by omega)
  rw [h1] at h2
  cases h2
  unfold like
  rw [hq, hr]; rfl

theorem like_pair (ho : heapOk h = true) (hg : heapOk g = true) (ha : valueOk h a = true) (hb : valueOk g b = true) (a5 : a.1 = 5) (b5 : b.1 = 5) :
    like h g a b = (like h g ((valsI h a.2.1).getD 0 ((0 : Int), (0 : Int), ByteArray.empty, ())) ((valsI g b.2.1).getD 0 ((0 : Int), (0 : Int), ByteArray.empty, ())) && like h g ((valsI h a.2.1).getD 1 ((0 : Int), (0 : Int), ByteArray.empty, ())) ((valsI g b.2.1).getD 1 ((0 : Int), (0 : Int), ByteArray.empty, ()))) := by
  obtain ⟨k1, k2, k3⟩ := pair_kids ho ha a5
  obtain ⟨l1, l2, l3⟩ := pair_kids hg hb b5
  have m0 := k3 _ (getD_mem2 (d := ((0 : Int), (0 : Int), ByteArray.empty, ())) k2 (i := 0) (by omega))
  have m1 := k3 _ (getD_mem2 (d := ((0 : Int), (0 : Int), ByteArray.empty, ())) k2 (i := 1) (by omega))
  have n0 := l3 _ (getD_mem2 (d := ((0 : Int), (0 : Int), ByteArray.empty, ())) l2 (i := 0) (by omega))
  have n1 := l3 _ (getD_mem2 (d := ((0 : Int), (0 : Int), ByteArray.empty, ())) l2 (i := 1) (by omega))
  have r0 := rank_kid a5 m0.2
  have r1 := rank_kid a5 m1.2
  have h1 := alike_like ho hg ha hb (n := rank a + 1) (by omega)
  simp only [alike] at h1
  rw [if_pos (a5.trans b5.symm), if_neg (by omega), if_pos a5, if_pos ⟨k1, l1, by omega, by omega, ok_len ho, ok_len hg⟩, alike_like ho hg m0.1 n0.1 r0] at h1
  simp only [Option.bind_some] at h1
  split at h1
  · rename_i e
    rw [alike_like ho hg m1.1 n1.1 r1] at h1
    rw [e, Bool.true_and]
    exact (Option.some.inj h1).symm
  · rename_i e
    have : like h g ((valsI h a.2.1).getD 0 ((0 : Int), (0 : Int), ByteArray.empty, ())) ((valsI g b.2.1).getD 0 ((0 : Int), (0 : Int), ByteArray.empty, ())) = false := by simpa using e
    rw [this, Bool.false_and]
    exact (Option.some.inj h1).symm

theorem note_of (ha : valueOk h a = true) (hk : a.1 = 6 ∨ a.1 = 7) : a.2.2.1 = ByteArray.mk #[] := by
  unfold valueOk at ha
  rcases hk with e | e <;> rw [e] at ha <;> simp [noteE] at ha <;> exact ha.1

theorem like_leaf (ha : valueOk h a = true) (hb : valueOk g b = true) (a5 : ¬ a.1 = 5) : like h g a b = (decide (a = b) && (!refV a || decide (h.length = g.length))) := by
  show (alike h g (399 + 1) a b).getD false = _
  generalize 399 = n
  simp only [alike]
  by_cases e : a.1 = b.1
  · rw [if_pos e]
    by_cases hr : a.1 = 6 ∨ a.1 = 7
    · rw [if_pos hr]
      have n1 := note_of ha hr
      have n2 := note_of hb (e ▸ hr)
      have : (a = b) ↔ (a.2.1 = b.2.1) := by
        obtain ⟨a1, a2, a3, u⟩ := a
        obtain ⟨b1, b2, b3, u'⟩ := b
        simp only at e n1 n2 ⊢
        subst e n1 n2
        simp
      have hrf : refV a = true := by
        unfold refV
        rcases hr with e | e <;> rw [e] <;> decide
      simp [this, hrf]
    · rw [if_neg hr, if_neg a5]
      have hrf : refV a = false := by
        unfold refV
        simp only [Bool.and_eq_false_iff, decide_eq_false_iff_not]
        omega
      simp [hrf]
  · rw [if_neg e]
    have : ¬ a = b := fun h => e (by rw [h])
    simp [this]

theorem like_kind (e : ¬ a.1 = b.1) : like h g a b = false := by
  show (alike h g (399 + 1) a b).getD false = _
  generalize 399 = n
  simp only [alike]
  rw [if_neg e]; rfl

end

/-- by induction on what a value hangs on -/
theorem kids_ind {h : List CT} (ho : heapOk h = true) {M : VT → Prop} (leaf : ∀ v, valueOk h v = true → ¬ v.1 = 5 → M v)
    (pair : ∀ v, valueOk h v = true → v.1 = 5 → M ((valsI h v.2.1).getD 0 ((0 : Int), (0 : Int), ByteArray.empty, ())) → M ((valsI h v.2.1).getD 1 ((0 : Int), (0 : Int), ByteArray.empty, ())) → M v) : ∀ v, valueOk h v = true → M v := by
  have key : ∀ (n : Nat) (v : VT), rank v < n → valueOk h v = true → M v := by
    intro n
    induction n with
    | zero => intro v hv; omega
    | succ n ih =>
      intro v hn hv
      by_cases h5 : v.1 = 5
      · obtain ⟨k1, k2, k3⟩ := pair_kids ho hv h5
        have m0 := k3 _ (getD_mem2 (d := ((0 : Int), (0 : Int), ByteArray.empty, ())) k2 (i := 0) (by omega))
        have m1 := k3 _ (getD_mem2 (d := ((0 : Int), (0 : Int), ByteArray.empty, ())) k2 (i := 1) (by omega))
        have r0 := rank_kid h5 m0.2
        have r1 := rank_kid h5 m1.2
        exact pair v hv h5 (ih _ (by omega) m0.1) (ih _ (by omega) m1.1)
      · exact leaf v hv h5
  exact fun v hv => key (rank v + 1) v (by omega) hv

theorem like_refl {h : List CT} (ho : heapOk h = true) : ∀ v, valueOk h v = true → like h h v v = true := by
  refine kids_ind ho (fun v hv h5 => ?_) (fun v hv h5 i0 i1 => ?_)
  · rw [like_leaf hv hv h5]; simp
  · rw [like_pair ho ho hv hv h5 h5, i0, i1]; rfl

theorem like_symm {h g : List CT} (ho : heapOk h = true) (hg : heapOk g = true) : ∀ a, valueOk h a = true → ∀ b, valueOk g b = true → like h g a b = like g h b a := by
  refine kids_ind ho (fun a ha h5 b hb => ?_) (fun a ha h5 i0 i1 b hb => ?_)
  · by_cases e : a.1 = b.1
    · rw [like_leaf ha hb h5, like_leaf hb ha (e ▸ h5)]
      have e1 : refV a = refV b := by unfold refV; rw [e]
      rw [e1]
      congr 1
      · simp [eq_comm]
      · simp [eq_comm]
    · rw [like_kind e, like_kind (fun h => e h.symm)]
  · by_cases e : a.1 = b.1
    · obtain ⟨l1, l2, l3⟩ := pair_kids hg hb (e ▸ h5)
      have n0 := l3 _ (getD_mem2 (d := ((0 : Int), (0 : Int), ByteArray.empty, ())) l2 (i := 0) (by omega))
      have n1 := l3 _ (getD_mem2 (d := ((0 : Int), (0 : Int), ByteArray.empty, ())) l2 (i := 1) (by omega))
      rw [like_pair ho hg ha hb h5 (e ▸ h5), like_pair hg ho hb ha (e ▸ h5) h5, i0 _ n0.1, i1 _ n1.1]
    · rw [like_kind e, like_kind (fun h => e h.symm)]

theorem like_weight {h g : List CT} (ho : heapOk h = true) (hg : heapOk g = true) : ∀ a, valueOk h a = true → ∀ b, valueOk g b = true → like h g a b = true → weight h a = weight g b := by
  refine kids_ind ho (fun a ha h5 b hb hl => ?_) (fun a ha h5 i0 i1 b hb hl => ?_)
  · have e : a.1 = b.1 := by
      apply Classical.byContradiction
      intro e; rw [like_kind e] at hl; cases hl
    rw [weight_not h5, weight_not (e ▸ h5)]
  · have e : a.1 = b.1 := by
      apply Classical.byContradiction
      intro e; rw [like_kind e] at hl; cases hl
    obtain ⟨l1, l2, l3⟩ := pair_kids hg hb (e ▸ h5)
    have n0 := l3 _ (getD_mem2 (d := ((0 : Int), (0 : Int), ByteArray.empty, ())) l2 (i := 0) (by omega))
    have n1 := l3 _ (getD_mem2 (d := ((0 : Int), (0 : Int), ByteArray.empty, ())) l2 (i := 1) (by omega))
    rw [like_pair ho hg ha hb h5 (e ▸ h5), Bool.and_eq_true] at hl
    obtain ⟨_, _, _, w1⟩ := pair_weight ho ha h5
    obtain ⟨_, _, _, w2⟩ := pair_weight hg hb (e ▸ h5)
    rw [w1, w2]
    have e0 := i0 _ n0.1 hl.1
    have e1 := i1 _ n1.1 hl.2
    unfold valsI at e0 e1
    rw [e0, e1]

end Go.Rf

namespace Go.Rf

theorem eqV_bool (x y : VT) : (decide (x.1 = y.1) && (decide (x.2.1 = y.2.1) && (decide (x.2.2.1 = y.2.2.1) && true))) = decide (x = y) := by
  obtain ⟨a1, a2, a3, ⟨⟩⟩ := x
  obtain ⟨b1, b2, b3, ⟨⟩⟩ := y
  by_cases h1 : a1 = b1 <;> by_cases h2 : a2 = b2 <;> by_cases h3 : a3 = b3 <;> simp [h1, h2, h3]

def pv (i : Nat) : VT := ((5 : Int), (i : Int), ByteArray.mk #[], ())

theorem pv_of {h : List CT} {v : VT} (hv : valueOk h v = true) (h5 : v.1 = 5) : v = pv v.2.1.toNat ∧ 0 ≤ v.2.1 ∧ v.2.1 < (h.length : Int) ∧ (h.getD v.2.1.toNat ((0 : Int), ByteArray.empty, (0 : Int), (0 : Int), ([] : List ByteArray), ([] : List VT), ())).1 = 1 := by
  obtain ⟨v1, v2, v3, ⟨⟩⟩ := v
  simp only at h5
  subst h5
  unfold valueOk at hv
  simp [noteE, atC, inI] at hv
  obtain ⟨e, ⟨h1, h2⟩, h3⟩ := hv
  refine ⟨?_, h1, by show v2 < (h.length : Int); omega, h3⟩
  simp only [pv, e]
  rw [Int.toNat_of_nonneg h1]

theorem pv_ok {h : List CT} {i : Nat} (hi : i < h.length) (hk : (h.getD i ((0 : Int), ByteArray.empty, (0 : Int), (0 : Int), ([] : List ByteArray), ([] : List VT), ())).1 = 1) : valueOk h (pv i) = true := by
  unfold valueOk pv
  have : (i : Int) ≤ (h.length : Int) - 1 := by omega
  simp only [noteE, atC, inI]
  have hk' : (h.getD i ((0 : Int), ByteArray.empty, (0 : Int), (0 : Int), ([] : List ByteArray), ([] : List VT), ())).1 = 1 := hk
  simp [this]
  simpa using hk

section
variable {h g : List CT}

/-- the slow way -/
theorem p_l30Same (ho : heapOk h = true) (hg : heapOk g = true) : ∀ (m : Nat) (a b : VT) (N : Nat), rank a ≤ m → 1000 + m ≤ N → valueOk h a = true → valueOk g b = true → Ok (s_l30Same N (h, a, g, b, ())) fun y => y = (like h g a b, ()) := by
  intro m
  induction m using Nat.strongRecOn with
  | _ m ih =>
    intro a b N hm hN ha hb
    obtain ⟨N, rfl⟩ : ∃ k, N = k + 1 := ⟨N - 1, by omega⟩
    unfold s_l30Same
    dsimp only
    refine Ok.iter (fun s => valueOk h s.1 = true ∧ valueOk g s.2.1 = true ∧ rank s.1 ≤ m ∧ like h g s.1 s.2.1 = like h g a b) (fun s => rank s.1)
      (fun r => match r with
        | .inl y => valueOk h y.1 = true ∧ valueOk g y.2.1 = true ∧ like h g y.1 y.2.1 = like h g a b ∧ ¬ (y.1.1 = 5 ∧ y.2.1.1 = 5)
        | .inr z => z.1 = like h g a b) ?_ ⟨ha, hb, hm, rfl⟩ (by show rank a < N; have := rank_le ho ha; omega) ?_
    · rintro ⟨x, y, ⟨⟩⟩ ⟨hx, hy, hr, hl⟩
      simp only at hx hy hr hl
      dsimp only
      by_cases x5 : x.1 = 5
      · by_cases y5 : y.1 = 5
        · obtain ⟨k1, k2, k3⟩ := pair_kids ho hx x5
          obtain ⟨l1, l2, l3⟩ := pair_kids hg hy y5
          have m0 := k3 _ (getD_mem2 (d := ((0 : Int), (0 : Int), ByteArray.empty, ())) k2 (i := 0) (by omega))
          have m1 := k3 _ (getD_mem2 (d := ((0 : Int), (0 : Int), ByteArray.empty, ())) k2 (i := 1) (by omega))
          have n0 := l3 _ (getD_mem2 (d := ((0 : Int), (0 : Int), ByteArray.empty, ())) l2 (i := 0) (by omega))
          have n1 := l3 _ (getD_mem2 (d := ((0 : Int), (0 : Int), ByteArray.empty, ())) l2 (i := 1) (by omega))
          have r0 := rank_kid x5 m0.2
          have r1 := rank_kid x5 m1.2
          have hlp := like_pair ho hg hx hy x5 y5
          have hi0 : inB 0 (valsI h x.2.1).length := ⟨by omega, by omega⟩
          have hi1 : inB 1 (valsI h x.2.1).length := ⟨by omega, by omega⟩
          have hj0 : inB 0 (valsI g y.2.1).length := ⟨by omega, by omega⟩
          have hj1 : inB 1 (valsI g y.2.1).length := ⟨by omega, by omega⟩
          rw [if_pos (decide_eq_true x5)]
          simp only [Option.bind_some]
          rw [if_pos (decide_eq_true y5)]
          refine Ok.pos k1 (Ok.pos hi0 (Ok.pos l1 (Ok.pos hj0 ?_)))
          refine Ok.bind (ih (m - 1) (by omega) ((valsI h x.2.1).getD 0 ((0 : Int), (0 : Int), ByteArray.empty, ())) ((valsI g y.2.1).getD 0 ((0 : Int), (0 : Int), ByteArray.empty, ())) N (by omega) (by omega) m0.1 n0.1) ?_
          rintro _ rfl
          refine Ok.ite (fun hf => ?_) (fun hf => ?_)
          · refine Ok.some ?_
            have hf : like h g ((valsI h x.2.1).getD 0 ((0 : Int), (0 : Int), ByteArray.empty, ())) ((valsI g y.2.1).getD 0 ((0 : Int), (0 : Int), ByteArray.empty, ())) = false := by simpa using hf
            rw [hf, Bool.false_and] at hlp
            show false = like h g a b
            rw [← hl, hlp]
          · have hf : like h g ((valsI h x.2.1).getD 0 ((0 : Int), (0 : Int), ByteArray.empty, ())) ((valsI g y.2.1).getD 0 ((0 : Int), (0 : Int), ByteArray.empty, ())) = true := by simpa using hf
            rw [hf, Bool.true_and] at hlp
            refine Ok.pos k1 (Ok.pos hi1 (Ok.pos l1 (Ok.pos hj1 (Ok.some ?_))))
            exact ⟨⟨m1.1, n1.1, by show rank ((valsI h x.2.1).getD 1 ((0 : Int), (0 : Int), ByteArray.empty, ())) ≤ m; omega, by rw [← hl, hlp]; rfl⟩, r1⟩
        · rw [if_pos (decide_eq_true x5)]
          simp only [Option.bind_some]
          rw [if_neg (by simpa using y5)]
          exact Ok.some ⟨hx, hy, hl, fun h => y5 h.2⟩
      · rw [if_neg (by simpa using x5)]
        simp only [Option.bind_some]
        exact Ok.some ⟨hx, hy, hl, fun h => x5 h.1⟩
    · rintro (⟨x, y, ⟨⟩⟩ | ⟨z, ⟨⟩⟩) hq
      · obtain ⟨hx, hy, hl, hn⟩ := hq
        simp only at hx hy hl hn
        dsimp only
        by_cases x5 : x.1 = 5
        · have y5 : ¬ y.1 = 5 := fun h => hn ⟨x5, h⟩
          rw [if_pos (decide_eq_true x5)]
          simp only [Option.bind_some, if_true]
          refine Ok.some ?_
          rw [← hl, like_kind (fun e => y5 (e ▸ x5))]
        · rw [if_neg (by simpa using x5)]
          simp only [Option.bind_some]
          by_cases y5 : y.1 = 5
          · rw [if_pos (decide_eq_true y5)]
            refine Ok.some ?_
            rw [← hl, like_kind (fun e => x5 (e.trans y5))]
          · rw [if_neg (by simpa using y5), eqV_bool, e_s_l6Points, ← hl, like_leaf hx hy x5]
            by_cases e : x = y
            · subst e
              cases refV x <;> simp [Ok, Int.ofNat_inj]
            · simp [Ok, e]
      · simp only at hq
        subst hq
        exact Ok.some rfl
end

/-- what the program's own comparison tells -/
def sameV (h : List CT) (a : VT) (g : List CT) (b : VT) : Bool := heapOk h && heapOk g && valueOk h a && valueOk g b && like h g a b

theorem e_i_SameVal (N : Nat) (h g : List CT) (a b : VT) (hh : SzH h) (hg : SzH g) (ha : SzV a) (hb : SzV b) (hN : big ≤ N) : i_SameVal N (h, a, g, b, ()) = some (sameV h a g b, ()) := by
  unfold i_SameVal sameV
  dsimp only
  have hbig : big = 1048577 := rfl
  rw [e_i_HeapOk N (h, ()) hh hN]
  dsimp only [Option.bind_some]
  cases o1 : heapOk h with
  | false => simp
  | true =>
    rw [if_neg (by simp), e_i_HeapOk N (g, ()) hg hN]
    dsimp only [Option.bind_some]
    cases o2 : heapOk g with
    | false => simp
    | true =>
      rw [if_neg (by simp), e_i_ValueOk N (h, a, ()) ha hh.1 hN]
      dsimp only [Option.bind_some]
      cases o3 : valueOk h a with
      | false => simp
      | true =>
        rw [if_neg (by simp), e_i_ValueOk N (g, b, ()) hb hg.1 hN]
        dsimp only [Option.bind_some]
        cases o4 : valueOk g b with
        | false => simp
        | true =>
          rw [if_neg (by simp), alike_like o1 o2 o3 o4 (by have := rank_le o1 o3; omega)]
          simp
end Go.Rf

namespace Go.Rf

section
variable {h g : List CT}

/-- the table, filled up to a place -/
structure Tb (h g : List CT) (i k : Nat) (t : List Bool) : Prop where
  len : t.length = h.length * g.length
  at_ : ∀ i' k', i' < h.length → k' < g.length → (i' < i ∨ i' = i ∧ k' < k) → (h.getD i' ((0 : Int), ByteArray.empty, (0 : Int), (0 : Int), ([] : List ByteArray), ([] : List VT), ())).1 = 1 → (g.getD k' ((0 : Int), ByteArray.empty, (0 : Int), (0 : Int), ([] : List ByteArray), ([] : List VT), ())).1 = 1 → t.getD (i' * g.length + k') false = like h g (pv i') (pv k')

theorem idx_inj {G i k i' k' : Nat} (hk : k < G) (hk' : k' < G) (e : i * G + k = i' * G + k') : i = i' ∧ k = k' := by
  have e1 : (i * G + k) / G = i := by
    rw [Nat.mul_comm, Nat.mul_add_div (by omega)]; simp [Nat.div_eq_of_lt hk]
  have e2 : (i' * G + k') / G = i' := by
    rw [Nat.mul_comm, Nat.mul_add_div (by omega)]; simp [Nat.div_eq_of_lt hk']
  have : i = i' := by rw [← e1, e, e2]
  subst this
  exact ⟨rfl, by omega⟩

theorem idx_lt {H G i k : Nat} (hi : i < H) (hk : k < G) : i * G + k < H * G := by
  have : (i + 1) * G ≤ H * G := Nat.mul_le_mul_right _ hi
  rw [Nat.add_mul] at this
  omega

theorem Tb.skip {i k : Nat} {t : List Bool} (ht : Tb h g i k t) (hn : ¬ ((h.getD i ((0 : Int), ByteArray.empty, (0 : Int), (0 : Int), ([] : List ByteArray), ([] : List VT), ())).1 = 1 ∧ (g.getD k ((0 : Int), ByteArray.empty, (0 : Int), (0 : Int), ([] : List ByteArray), ([] : List VT), ())).1 = 1)) : Tb h g i (k + 1) t := by
  refine ⟨ht.len, fun i' k' h1 h2 h3 h4 h5 => ht.at_ i' k' h1 h2 ?_ h4 h5⟩
  rcases h3 with h3 | ⟨rfl, h3⟩
  · exact .inl h3
  · rcases Nat.lt_succ_iff_lt_or_eq.1 h3 with h | rfl
    · exact .inr ⟨rfl, h⟩
    · exact absurd ⟨h4, h5⟩ hn

theorem Tb.set {i k : Nat} {t : List Bool} (ht : Tb h g i k t) (hi : i < h.length) (hk : k < g.length) {r : Bool} (hr : r = like h g (pv i) (pv k)) : Tb h g i (k + 1) (t.set (i * g.length + k) r) := by
  refine ⟨by simp [ht.len], fun i' k' h1 h2 h3 h4 h5 => ?_⟩
  by_cases e : i' = i ∧ k' = k
  · obtain ⟨rfl, rfl⟩ := e
    rw [List.getD_eq_getElem?_getD, List.getElem?_set_self (by rw [ht.len]; exact idx_lt h1 h2)]
    exact hr
  · rw [List.getD_eq_getElem?_getD, List.getElem?_set_ne (fun e' => e ((idx_inj hk h2 e').imp Eq.symm Eq.symm)), ← List.getD_eq_getElem?_getD]
    refine ht.at_ i' k' h1 h2 ?_ h4 h5
    rcases h3 with h3 | ⟨rfl, h3⟩
    · exact .inl h3
    · exact .inr ⟨rfl, by have : k' ≠ k := fun h => e ⟨rfl, h⟩; omega⟩

theorem Tb.next {i : Nat} {t : List Bool} (ht : Tb h g i g.length t) : Tb h g (i + 1) 0 t := by
  refine ⟨ht.len, fun i' k' h1 h2 h3 h4 h5 => ht.at_ i' k' h1 h2 ?_ h4 h5⟩
  rcases h3 with h3 | ⟨rfl, h3⟩
  · rcases Nat.lt_succ_iff_lt_or_eq.1 h3 with h | rfl
    · exact .inl h
    · exact .inr ⟨rfl, h2⟩
  · omega

theorem getD_rep0 {n i : Nat} : (List.replicate n false).getD i false = false := by
  rw [List.getD_eq_getElem?_getD, List.getElem?_replicate]
  split <;> rfl

/-- .. is what a place in it is wanted as -/
theorem wrap_idx {H G i k : Nat} (hH : H ≤ 300) (hG : G ≤ 300) (hi : i < H) (hk : k < G) : IntKind.wrap .i64 (IntKind.wrap .i64 ((i : Int) * (G : Int)) + (k : Int)) = ((i * G + k : Nat) : Int) := by
  have h1 : i * G ≤ 300 * 300 := Nat.mul_le_mul (by omega) hG
  have e1 : (i : Int) * (G : Int) = ((i * G : Nat) : Int) := by simp
  have w1 : IntKind.wrap .i64 ((i * G : Nat) : Int) = ((i * G : Nat) : Int) := wrap_id (by omega) (by omega)
  rw [e1, w1, wrap_id (by omega) (by omega)]
  simp

theorem kinds_b (p q : Int) : ((if (!decide (p = 1)) = true then some true else some (!decide (q = 1))) : Option Bool) = some (!(decide (p = 1) && decide (q = 1))) := by
  by_cases h1 : p = 1 <;> by_cases h2 : q = 1 <;> simp [h1, h2]
theorem kinds_y {p q : Int} (h : (!(decide (p = 1) && decide (q = 1))) = true) : ¬ (p = 1 ∧ q = 1) := by
  rintro ⟨h1, h2⟩; simp [h1, h2] at h
theorem kinds_n {p q : Int} (h : ¬ (!(decide (p = 1) && decide (q = 1))) = true) : p = 1 ∧ q = 1 := by
  by_cases h1 : p = 1 <;> by_cases h2 : q = 1 <;> simp [h1, h2] at h ⊢

theorem at_tb (ho : heapOk h = true) (hg : heapOk g = true) {i k : Nat} {t : List Bool} (ht : Tb h g i k t) {x y : VT} (hx : valueOk h x = true) (hy : valueOk g y = true) (x5 : x.1 = 5) (y5 : y.1 = 5) (hlt : x.2.1 < (i : Int)) :
    inB (IntKind.wrap .i64 (IntKind.wrap .i64 (x.2.1 * (g.length : Int)) + y.2.1)) t.length ∧ t.getD (Int.toNat (IntKind.wrap .i64 (IntKind.wrap .i64 (x.2.1 * (g.length : Int)) + y.2.1))) false = like h g x y := by
  obtain ⟨e1, p1, p2, p3⟩ := pv_of hx x5
  obtain ⟨e2, q1, q2, q3⟩ := pv_of hy y5
  have hw := wrap_idx (i := x.2.1.toNat) (k := y.2.1.toNat) (ok_len ho) (ok_len hg) (by omega) (by omega)
  rw [Int.toNat_of_nonneg p1, Int.toNat_of_nonneg q1] at hw
  rw [hw]
  refine ⟨⟨by omega, ?_⟩, ?_⟩
  · rw [ht.len]
    have := idx_lt (H := h.length) (G := g.length) (i := x.2.1.toNat) (k := y.2.1.toNat) (by omega) (by omega)
    omega
  · rw [Int.toNat_natCast, ht.at_ _ _ (by omega) (by omega) (.inl (by omega)) p3 q3, ← e1, ← e2]

def allL (h g : List CT) (xs ys : List VT) (j : Nat) : Bool := (List.range j).all fun j' => like h g (xs.getD j' ((0 : Int), (0 : Int), ByteArray.empty, ())) (ys.getD j' ((0 : Int), (0 : Int), ByteArray.empty, ()))

theorem allL_succ {xs ys : List VT} {j : Nat} : allL h g xs ys (j + 1) = (allL h g xs ys j && like h g (xs.getD j ((0 : Int), (0 : Int), ByteArray.empty, ())) (ys.getD j ((0 : Int), (0 : Int), ByteArray.empty, ()))) := by
  unfold allL
  rw [List.range_succ, List.all_append]; simp

theorem p_l30Deep (ho : heapOk h = true) (hg : heapOk g = true) (a b : VT) (N : Nat) (hN : 1000 ≤ N) (ha : valueOk h a = true) (hb : valueOk g b = true) : Ok (s_l30Deep N (h, a, g, b, ())) fun y => y = (like h g a b, ()) := by
  have hH := ok_len ho
  have hG := ok_len hg
  have hHG : h.length * g.length ≤ 300 * 300 := Nat.mul_le_mul hH hG
  have eHG : (h.length : Int) * (g.length : Int) = ((h.length * g.length : Nat) : Int) := by simp
  unfold s_l30Deep
  dsimp only
  rw [eHG, wrap_id (by omega) (by omega), Int.toNat_natCast]
  refine Ok.pos ⟨by omega, by omega, by simp; omega⟩ ?_
  refine Ok.iter (fun s => s.1 = a ∧ s.2.1 = b ∧ ∃ i : Nat, s.2.2.2.1 = (i : Int) ∧ i ≤ h.length ∧ Tb h g i 0 s.2.2.1) (fun s => h.length - s.2.2.2.1.toNat)
    (fun r => match r with
      | .inl y => y.1 = a ∧ y.2.1 = b ∧ Tb h g h.length 0 y.2.2.1
      | .inr z => False) ?_ ⟨rfl, rfl, 0, rfl, by omega, ⟨by simp, fun i' k' _ _ h3 => by omega⟩⟩ (by show h.length - Int.toNat 0 < N; omega) ?_
  · rintro ⟨a', b', t, i', ⟨⟩⟩ ⟨e1, e2, i, e3, hi, ht⟩
    simp only at e1 e2 e3 ht
    subst e1 e2 e3
    dsimp only
    refine Ok.ite (fun hc => ?_) (fun hc => ?_)
    · have hi' : i < h.length := by simpa using hc
      refine Ok.iter (fun s => s.1 = a' ∧ s.2.1 = b' ∧ ∃ k : Nat, s.2.2.2.1 = (k : Int) ∧ k ≤ g.length ∧ Tb h g i k s.2.2.1) (fun s => g.length - s.2.2.2.1.toNat)
        (fun r => match r with
          | .inl y => y.1 = a' ∧ y.2.1 = b' ∧ Tb h g i g.length y.2.2.1
          | .inr z => False) ?_ ⟨rfl, rfl, 0, rfl, by omega, ht⟩ (by show g.length - Int.toNat 0 < N; omega) ?_
      · rintro ⟨a2, b2, t2, k', ⟨⟩⟩ ⟨e1, e2, k, e3, hk, ht2⟩
        simp only at e1 e2 e3 ht2
        subst e1 e2 e3
        dsimp only
        refine Ok.ite (fun hc => ?_) (fun hc => ?_)
        · have hk' : k < g.length := by simpa using hc
          refine Ok.pos (inB_nat.2 hi') ?_
          rw [Int.toNat_natCast, Int.toNat_natCast, wrap_nat (by omega), if_pos (inB_nat.2 hk')]
          rw [kinds_b]
          dsimp only [Option.bind_some]
          refine Ok.ite (fun hq => ?_) (fun hq => ?_)
          · refine Ok.some ⟨⟨rfl, rfl, k + 1, rfl, hk', ht2.skip (kinds_y hq)⟩, by show g.length - (((k + 1 : Nat) : Int)).toNat < g.length - ((k : Int)).toNat; simp only [Int.toNat_natCast]; omega⟩
          · have hq := kinds_n hq
            have hvx := pv_ok hi' hq.1
            have hvy := pv_ok hk' hq.2
            obtain ⟨_, xl, xo⟩ := pair_kids ho hvx rfl
            obtain ⟨_, yl, yo⟩ := pair_kids hg hvy rfl
            have ex : valsI h (pv i).2.1 = (h.getD i ((0 : Int), ByteArray.empty, (0 : Int), (0 : Int), ([] : List ByteArray), ([] : List VT), ())).2.2.2.2.2.1 := by show (h.getD (Int.toNat (i : Int)) ((0 : Int), ByteArray.empty, (0 : Int), (0 : Int), ([] : List ByteArray), ([] : List VT), ())).2.2.2.2.2.1 = _; rw [Int.toNat_natCast]
            have ey : valsI g (pv k).2.1 = (g.getD k ((0 : Int), ByteArray.empty, (0 : Int), (0 : Int), ([] : List ByteArray), ([] : List VT), ())).2.2.2.2.2.1 := by show (g.getD (Int.toNat (k : Int)) ((0 : Int), ByteArray.empty, (0 : Int), (0 : Int), ([] : List ByteArray), ([] : List VT), ())).2.2.2.2.2.1 = _; rw [Int.toNat_natCast]
            have hlp := like_pair ho hg hvx hvy rfl rfl
            rw [ex] at xl xo hlp
            rw [ey] at yl yo hlp
            generalize (h.getD i ((0 : Int), ByteArray.empty, (0 : Int), (0 : Int), ([] : List ByteArray), ([] : List VT), ())).2.2.2.2.2.1 = xs at xl xo hlp ⊢
            generalize (g.getD k ((0 : Int), ByteArray.empty, (0 : Int), (0 : Int), ([] : List ByteArray), ([] : List VT), ())).2.2.2.2.2.1 = ys at yl yo hlp ⊢
            refine Ok.iter (fun s => s.1 = a2 ∧ s.2.1 = b2 ∧ s.2.2.1 = t2 ∧ ∃ j : Nat, s.2.2.2.2.1 = (j : Int) ∧ j ≤ 2 ∧ s.2.2.2.1 = allL h g xs ys j) (fun s => 2 - s.2.2.2.2.1.toNat)
              (fun r => match r with
                | .inl y => y.1 = a2 ∧ y.2.1 = b2 ∧ y.2.2.1 = t2 ∧ y.2.2.2.1 = like h g (pv i) (pv k)
                | .inr z => False) ?_ ⟨rfl, rfl, rfl, 0, rfl, by omega, rfl⟩ (by show 2 - Int.toNat 0 < N; omega) ?_
            · rintro ⟨a3, b3, t3, is, j', ⟨⟩⟩ ⟨e1, e2, e3, j, e4, hj, e5⟩
              simp only at e1 e2 e3 e4 e5
              subst e1 e2 e3 e4
              dsimp only
              refine Ok.ite (fun hc => ?_) (fun hc => ?_)
              · have hj' : j < 2 := by
                  have : (j : Int) < 2 := by simpa using hc
                  omega
                refine Ok.pos (inB_nat.2 hi') ?_
                rw [Int.toNat_natCast, wrap_nat (by omega)]
                refine Ok.pos (inB_nat.2 (by omega)) (Ok.pos (inB_nat.2 hk') (Ok.pos (inB_nat.2 (by omega)) ?_))
                obtain ⟨vx, bx⟩ := xo _ (mem_getD (d := ((0 : Int), (0 : Int), ByteArray.empty, ())) (show j < xs.length by omega))
                obtain ⟨vy, _⟩ := yo _ (mem_getD (d := ((0 : Int), (0 : Int), ByteArray.empty, ())) (show j < ys.length by omega))
                have hnext := allL_succ (h := h) (g := g) (xs := xs) (ys := ys) (j := j)
                rw [← e5] at hnext
                generalize xs.getD j ((0 : Int), (0 : Int), ByteArray.empty, ()) = x at vx bx hnext ⊢
                generalize ys.getD j ((0 : Int), (0 : Int), ByteArray.empty, ()) = y at vy hnext ⊢
                have hms : 2 - (((j + 1 : Nat) : Int)).toNat < 2 - ((j : Int)).toNat := by simp only [Int.toNat_natCast]; omega
                by_cases x5 : x.1 = 5
                · by_cases y5 : y.1 = 5
                  · obtain ⟨w1, w2⟩ := at_tb ho hg ht2 vx vy x5 y5 (by have := (bx x5).2; simpa [pv] using this)
                    rw [if_pos (decide_eq_true x5)]
                    simp only [Option.bind_some]
                    rw [if_pos (decide_eq_true y5)]
                    cases is with
                    | true =>
                      rw [if_pos rfl, if_pos w1, w2]
                      refine Ok.some ⟨⟨rfl, rfl, rfl, j + 1, rfl, hj', Eq.trans ?_ hnext.symm⟩, hms⟩
                      simp
                    | false =>
                      rw [if_neg (by simp)]
                      refine Ok.some ⟨⟨rfl, rfl, rfl, j + 1, rfl, hj', Eq.trans ?_ hnext.symm⟩, hms⟩
                      simp
                  · have hl : like h g x y = false := like_kind (fun e => y5 (e ▸ x5))
                    rw [if_pos (decide_eq_true x5)]
                    simp only [Option.bind_some]
                    rw [if_neg (by simpa using y5), if_pos (decide_eq_true x5)]
                    simp only [Option.bind_some, if_true]
                    refine Ok.some ⟨⟨rfl, rfl, rfl, j + 1, rfl, hj', Eq.trans ?_ hnext.symm⟩, hms⟩
                    rw [hl]; simp
                · rw [if_neg (by simpa using x5)]
                  simp only [Option.bind_some, Bool.false_eq_true, if_false]
                  rw [if_neg (by simpa using x5)]
                  simp only [Option.bind_some]
                  by_cases y5 : y.1 = 5
                  · have hl : like h g x y = false := like_kind (fun e => x5 (e.trans y5))
                    rw [if_pos (decide_eq_true y5)]
                    refine Ok.some ⟨⟨rfl, rfl, rfl, j + 1, rfl, hj', Eq.trans ?_ hnext.symm⟩, hms⟩
                    rw [hl]; simp
                  · rw [if_neg (by simpa using y5), eqV_bool]
                    have hl := like_leaf vx vy x5
                    cases is with
                    | false =>
                      rw [if_neg (by simp)]
                      simp only [Option.bind_some, Bool.false_eq_true, if_false]
                      refine Ok.some ⟨⟨rfl, rfl, rfl, j + 1, rfl, hj', Eq.trans ?_ hnext.symm⟩, hms⟩
                      simp
                    | true =>
                      rw [if_pos rfl]
                      simp only [Option.bind_some]
                      by_cases e : x = y
                      · rw [if_pos (decide_eq_true e), e_s_l6Points]
                        simp only [Option.bind_some]
                        cases hr : refV x with
                        | false =>
                          simp only [Bool.not_false, if_true, Option.bind_some]
                          refine Ok.some ⟨⟨rfl, rfl, rfl, j + 1, rfl, hj', Eq.trans ?_ hnext.symm⟩, hms⟩
                          rw [hl, hr]; simp [e]
                        | true =>
                          simp only [Bool.not_true, Bool.false_eq_true, if_false, Option.bind_some]
                          refine Ok.some ⟨⟨rfl, rfl, rfl, j + 1, rfl, hj', Eq.trans ?_ hnext.symm⟩, hms⟩
                          rw [hl, hr]; simp [e, Int.ofNat_inj]
                      · rw [if_neg (by simpa using e)]
                        simp only [Option.bind_some]
                        refine Ok.some ⟨⟨rfl, rfl, rfl, j + 1, rfl, hj', Eq.trans ?_ hnext.symm⟩, hms⟩
                        rw [hl]; simp [e]
              · have hj2 : j = 2 := by
                  have : ¬ (j : Int) < 2 := by simpa using hc
                  omega
                subst hj2
                refine Ok.some ⟨rfl, rfl, rfl, ?_⟩
                show is = _
                rw [e5, hlp]
                simp [allL, List.range_succ]
            · rintro (⟨a3, b3, t3, is, ⟨⟩⟩ | z) hq2
              · obtain ⟨e1, e2, e3, e4⟩ := hq2
                simp only at e1 e2 e3 e4
                subst e1 e2 e3 e4
                dsimp only
                rw [wrap_idx hH hG hi' hk']
                refine Ok.pos ⟨by omega, ?_⟩ ?_
                · rw [ht2.len]
                  have := idx_lt hi' hk'
                  omega
                · rw [Int.toNat_natCast]
                  exact Ok.some ⟨⟨rfl, rfl, k + 1, rfl, hk', ht2.set hi' hk' rfl⟩, by show g.length - (((k + 1 : Nat) : Int)).toNat < g.length - ((k : Int)).toNat; simp only [Int.toNat_natCast]; omega⟩
              · exact hq2.elim
        · have hk2 : k = g.length := by
            have : ¬ (k : Int) < (g.length : Int) := by simpa using hc
            omega
          subst hk2
          exact Ok.some ⟨rfl, rfl, ht2⟩
      · rintro (⟨a2, b2, t2, ⟨⟩⟩ | z) hq
        · obtain ⟨e1, e2, ht2⟩ := hq
          simp only at e1 e2 ht2
          subst e1 e2
          dsimp only
          rw [wrap_nat (by omega)]
          exact Ok.some ⟨⟨rfl, rfl, i + 1, rfl, hi', ht2.next⟩, by show h.length - (((i + 1 : Nat) : Int)).toNat < h.length - ((i : Int)).toNat; simp only [Int.toNat_natCast]; omega⟩
        · exact hq.elim
    · have hi2 : i = h.length := by
        have : ¬ (i : Int) < (h.length : Int) := by simpa using hc
        omega
      subst hi2
      exact Ok.some ⟨rfl, rfl, ht⟩
  · rintro (⟨a', b', t, ⟨⟩⟩ | z) hq
    · obtain ⟨e1, e2, ht⟩ := hq
      simp only at e1 e2 ht
      subst e1 e2
      dsimp only
      by_cases x5 : a'.1 = 5
      · by_cases y5 : b'.1 = 5
        · obtain ⟨_, p1, p2, _⟩ := pv_of ha x5
          obtain ⟨w1, w2⟩ := at_tb ho hg ht ha hb x5 y5 (by omega)
          rw [if_pos (decide_eq_true x5)]
          simp only [Option.bind_some]
          rw [if_pos (decide_eq_true y5), if_pos w1, w2]
          exact Ok.some rfl
        · have hl : like h g a' b' = false := like_kind (fun e => y5 (e ▸ x5))
          have e : ¬ a' = b' := fun e => y5 (e ▸ x5)
          rw [if_pos (decide_eq_true x5)]
          simp only [Option.bind_some]
          rw [if_neg (by simpa using y5), eqV_bool, if_neg (by simpa using e), hl]
          exact Ok.some rfl
      · rw [if_neg (by simpa using x5)]
        simp only [Option.bind_some, Bool.false_eq_true, if_false]
        rw [eqV_bool, like_leaf ha hb x5]
        by_cases e : a' = b'
        · rw [if_pos (decide_eq_true e), e_s_l6Points]
          simp only [Option.bind_some]
          cases hr : refV a' with
          | false => simp [Ok, e]
          | true => simp [Ok, e, Int.ofNat_inj]
        · rw [if_neg (by simpa using e)]
          simp [Ok, e]
    · exact hq.elim
end
end Go.Rf

namespace Go.Rf

theorem e_s_SameVal (N : Nat) (h g : List CT) (a b : VT) (hh : SzH h) (hg : SzH g) (ha : SzV a) (hb : SzV b) (hN : big ≤ N) : s_SameVal N (h, a, g, b, ()) = some (sameV h a g b, ()) := by
  unfold s_SameVal sameV
  dsimp only
  have hbig : big = 1048577 := rfl
  rw [e_s_HeapOk N (h, ()) hh hN]
  dsimp only [Option.bind_some]
  cases o1 : heapOk h with
  | false => simp
  | true =>
    rw [if_neg (by simp), e_s_HeapOk N (g, ()) hg hN]
    dsimp only [Option.bind_some]
    cases o2 : heapOk g with
    | false => simp
    | true =>
      rw [if_neg (by simp), e_s_ValueOk N (h, a, ()) ha hN]
      dsimp only [Option.bind_some]
      cases o3 : valueOk h a with
      | false => simp
      | true =>
        rw [if_neg (by simp), e_s_ValueOk N (g, b, ()) hb hN]
        dsimp only [Option.bind_some]
        cases o4 : valueOk g b with
        | false => simp
        | true =>
          rw [if_neg (by simp), e_s_Weight N (h, a, ()) hh ha hN]
          dsimp only [Option.bind_some]
          obtain ⟨y1, d1, rfl⟩ := p_l30Deep o1 o2 a b N (by omega) o3 o4
          obtain ⟨y2, d2, rfl⟩ := p_l30Same o1 o2 (rank a) a b N (Nat.le_refl _) (by have := rank_le o1 o3; omega) o3 o4
          rw [d1, d2]
          by_cases w1 : weight h a > 2000
          · rw [if_pos (decide_eq_true w1)]
            simp
          · rw [if_neg (by simpa using w1), e_s_Weight N (g, b, ()) hg hb hN]
            dsimp only [Option.bind_some]
            by_cases w2 : weight g b > 2000
            · rw [if_pos (decide_eq_true w2)]; simp
            · rw [if_neg (by simpa using w2)]; simp

/-- THE LAW, WITH NO PROGRAM IN SIGHT -/
theorem l_FnExactSameVal_true (N : Nat) (x : List CT × VT × List CT × VT × Unit) (hh : FH x.1) (ha : FV x.2.1) (hg : FH x.2.2.1) (hb : FV x.2.2.2.1) (hN : lim < N) : l_FnExactSameVal N x = some (true, ()) := by
  obtain ⟨h, a, g, b, u⟩ := x
  simp only at hh ha hg hb
  have hbig : big = 1048577 := rfl
  have hlim : lim = 9223372036854775807 := rfl
  unfold l_FnExactSameVal
  dsimp only
  rcases p_szCellS (N := N) (h, 1048576, ()) (show (0 : Int) ≤ 1048576 by decide) (show (1048576 : Int) ≤ 1048576 by decide) hh hN with h1 | ⟨r, h1, h2, h3, h4⟩
  · rw [h1]; rfl
  · rw [h1]
    dsimp only [Option.bind_some]
    rw [if_neg (by simpa using h2)]
    rcases p_szValue (N := N) (a, r, ()) h2 h3 ha with g1 | ⟨r', g1, g2, g3, g4⟩
    · rw [g1]; rfl
    · rw [g1]
      dsimp only [Option.bind_some]
      rw [if_neg (by simpa using g2)]
      rcases p_szCellS (N := N) (g, r', ()) g2 (Int.le_trans g3 h3) hg hN with k1 | ⟨q, k1, k2, k3, k4⟩
      · rw [k1]; rfl
      · rw [k1]
        dsimp only [Option.bind_some]
        rw [if_neg (by simpa using k2)]
        rcases p_szValue (N := N) (b, q, ()) k2 k3 hb with m1 | ⟨q', m1, m2, m3, m4⟩
        · rw [m1]; rfl
        · rw [m1]
          dsimp only [Option.bind_some]
          rw [if_neg (by simpa using m2)]
          rw [e_toCellS N (h, ()) h4 (by omega), e_toCellS N (g, ()) k4 (by omega)]
          simp only [Option.bind_some, e_toValue]
          rw [e_s_SameVal N h g a b h4 k4 g4 m4 (by omega), e_i_SameVal N h g a b h4 k4 g4 m4 (by omega)]
          simp only [Option.bind_some]
          rw [e_eqCellS N h h4 (by omega), e_eqCellS N g k4 (by omega)]
          simp
end Go.Rf
