/-
  A value carried over, by the reference and by the program: the same, and alike there; the plain function of FnShip returns true, whatever is put in within the form's bounds.
-/
import Derived.Test.YtkifpahhppbdkaaGreatDoorYLike
import Derived.Test.YtkifpahhppbdkaaGreatDoorYNat
set_option linter.unusedSimpArgs false
set_option linter.unusedVariables false
set_option autoImplicit false
namespace Go.Rf

theorem SzC_at {h : List CT} (hh : SzH h) (i : Nat) : SzC (h.getD i ((0 : Int), ByteArray.empty, (0 : Int), (0 : Int), ([] : List ByteArray), ([] : List VT), ())) := by
  by_cases hi : i < h.length
  · exact hh.2 _ (mem_getD hi)
  · rw [List.getD_eq_getElem?_getD, List.getElem?_eq_none (by omega)]
    exact ⟨(by decide : ByteArray.empty.size < big), by decide, by simp, by decide, by simp⟩

theorem take_succ_getD {α : Type} {l : List α} {d : α} {i : Nat} (hi : i < l.length) : l.take i ++ [l.getD i d] = l.take (i + 1) := by
  rw [getD_lt hi, List.take_add_one, List.getElem?_eq_getElem hi]; rfl

/-- a heap, copied -/
theorem p_copy (N : Nat) (h : List CT) (hh : SzH h) (hN : big < N) : Ok (s_l8CopyCells N (h, ())) fun y => y = (h, ()) := by
  have hbig : big = 1048577 := rfl
  have hl := hh.1
  unfold s_l8CopyCells
  dsimp only
  refine Ok.iter (fun s => ∃ i : Nat, s.2.1 = (i : Int) ∧ i ≤ h.length ∧ s.1 = h.take i) (fun s => h.length - s.2.1.toNat) (fun r => match r with
    | .inl y => y.1 = h
    | .inr z => False) ?_ ⟨0, rfl, by omega, by simp⟩ (by show h.length - Int.toNat 0 < N; omega) ?_
  · rintro ⟨t, i', ⟨⟩⟩ ⟨i, e1, hi, e2⟩
    simp only at e1 e2
    subst e1 e2
    dsimp only
    refine Ok.ite (fun hc => ?_) (fun hc => ?_)
    · have hi' : i < h.length := by simpa using hc
      rw [Int.toNat_natCast, wrap_nat (by omega)]
      obtain ⟨c1, c2, c3, c4, c5⟩ := SzC_at hh i
      refine Ok.pos (inB_nat.2 hi') (Ok.pos (by omega) (Ok.pos (by omega) (Ok.pos (by simp; omega) (Ok.some ?_))))
      refine ⟨⟨i + 1, rfl, hi', ?_⟩, by show h.length - (((i + 1 : Nat) : Int)).toNat < h.length - ((i : Int)).toNat; simp only [Int.toNat_natCast]; omega⟩
      rw [← take_succ_getD (d := ((0 : Int), ByteArray.empty, (0 : Int), (0 : Int), ([] : List ByteArray), ([] : List VT), ())) hi']
    · have hi2 : i = h.length := by
        have : ¬ (i : Int) < (h.length : Int) := by simpa using hc
        omega
      subst hi2
      exact Ok.some (by show h.take h.length = h; exact List.take_length)
  · rintro (⟨y, ⟨⟩⟩ | z) hq
    · simp only at hq
      subst hq
      exact Ok.some rfl
    · exact hq.elim

/-- whether a value is plain is told -/
theorem p_plain (N : Nat) (h : List CT) (v : VT) (ho : heapOk h = true) (hv : valueOk h v = true) (hN : big < N) : Ok (s_l30Plain N (h, v, ())) fun y => True := by
  have hbig : big = 1048577 := rfl
  have hl := ok_len ho
  unfold s_l30Plain
  dsimp only
  refine Ok.pos ⟨by omega, by omega, by omega⟩ ?_
  rw [Int.toNat_natCast]
  refine Ok.iter (fun s => s.1 = v ∧ s.2.1.length = h.length ∧ ∃ i : Nat, s.2.2.1 = (i : Int) ∧ i ≤ h.length) (fun s => h.length - s.2.2.1.toNat) (fun r => match r with
    | .inl y => y.1 = v ∧ y.2.1.length = h.length
    | .inr z => False) ?_ ⟨rfl, by simp, 0, rfl, by omega⟩ (by show h.length - Int.toNat 0 < N; omega) ?_
  · rintro ⟨v', t, i', ⟨⟩⟩ ⟨e1, e2, i, e3, hi⟩
    simp only at e1 e2 e3
    subst e1 e3
    dsimp only
    refine Ok.ite (fun hc => ?_) (fun hc => ?_)
    · have hi' : i < h.length := by simpa using hc
      have hms : h.length - (((i + 1 : Nat) : Int)).toNat < h.length - ((i : Int)).toNat := by simp only [Int.toNat_natCast]; omega
      rw [Int.toNat_natCast, wrap_nat (by omega)]
      refine Ok.pos (inB_nat.2 hi') (Ok.ite (fun hk => Ok.some ⟨⟨rfl, e2, i + 1, rfl, hi'⟩, hms⟩) (fun hk => ?_))
      have hk : (h.getD i ((0 : Int), ByteArray.empty, (0 : Int), (0 : Int), ([] : List ByteArray), ([] : List VT), ())).1 = 1 := by
        apply Classical.byContradiction
        intro hh
        apply hk
        rw [decide_eq_false hh]; rfl
      refine Ok.pos (by rw [e2]; exact inB_nat.2 hi') ?_
      have hvx := pv_ok hi' hk
      obtain ⟨_, xl, xo⟩ := pair_kids ho hvx rfl
      have ex : valsI h (pv i).2.1 = (h.getD i ((0 : Int), ByteArray.empty, (0 : Int), (0 : Int), ([] : List ByteArray), ([] : List VT), ())).2.2.2.2.2.1 := by show (h.getD (Int.toNat (i : Int)) ((0 : Int), ByteArray.empty, (0 : Int), (0 : Int), ([] : List ByteArray), ([] : List VT), ())).2.2.2.2.2.1 = _; rw [Int.toNat_natCast]
      rw [ex] at xl xo
      generalize (h.getD i ((0 : Int), ByteArray.empty, (0 : Int), (0 : Int), ([] : List ByteArray), ([] : List VT), ())).2.2.2.2.2.1 = xs at xl xo ⊢
      refine Ok.iter (fun s => s.1 = v' ∧ s.2.1.length = h.length ∧ ∃ j : Nat, s.2.2.1 = (j : Int) ∧ j ≤ 2) (fun s => 2 - s.2.2.1.toNat) (fun r => match r with
        | .inl y => y.1 = v' ∧ y.2.1.length = h.length
        | .inr z => False) ?_ ⟨rfl, by simp [e2], 0, rfl, by omega⟩ (by show 2 - Int.toNat 0 < N; omega) ?_
      · rintro ⟨v2, t2, j', ⟨⟩⟩ ⟨e1, e4, j, e3, hj⟩
        simp only at e1 e4 e3
        subst e1 e3
        dsimp only
        refine Ok.ite (fun hc => ?_) (fun hc => ?_)
        · have hj' : j < 2 := by
            have : (j : Int) < 2 := by simpa using hc
            omega
          have hms2 : 2 - (((j + 1 : Nat) : Int)).toNat < 2 - ((j : Int)).toNat := by simp only [Int.toNat_natCast]; omega
          rw [Int.toNat_natCast, wrap_nat (by omega)]
          refine Ok.pos (inB_nat.2 hi') (Ok.pos (inB_nat.2 (by omega)) (Ok.pos (by rw [e4]; exact inB_nat.2 hi') ?_))
          obtain ⟨vx, bx⟩ := xo _ (mem_getD (d := ((0 : Int), (0 : Int), ByteArray.empty, ())) (show j < xs.length by omega))
          generalize xs.getD j ((0 : Int), (0 : Int), ByteArray.empty, ()) = x at vx bx ⊢
          refine Ok.bind (P := fun _ => True) ?_ (fun b _ => Ok.pos (by rw [e4]; exact inB_nat.2 hi') (Ok.some ⟨⟨rfl, by simp [e4], j + 1, rfl, hj'⟩, hms2⟩))
          refine Ok.ite (fun _ => ?_) (fun _ => Ok.some trivial)
          rw [e_s_l6Points]
          dsimp only [Option.bind_some]
          refine Ok.bind (P := fun _ => True) ?_ (fun b _ => Ok.some trivial)
          refine Ok.ite (fun _ => Ok.some trivial) (fun _ => ?_)
          refine Ok.bind (P := fun _ => True) ?_ (fun b _ => Ok.some trivial)
          refine Ok.ite (fun h5 => ?_) (fun _ => Ok.some trivial)
          have x5 : x.1 = 5 := by simpa using h5
          obtain ⟨_, p1, p2, _⟩ := pv_of vx x5
          exact Ok.pos ⟨p1, by rw [e4]; exact p2⟩ (Ok.some trivial)
        · exact Ok.some ⟨rfl, e4⟩
      · rintro (⟨v2, t2, ⟨⟩⟩ | z) hq
        · obtain ⟨e1, e4⟩ := hq
          simp only at e1 e4
          subst e1
          exact Ok.some ⟨⟨rfl, e4, i + 1, rfl, hi'⟩, hms⟩
        · exact hq.elim
    · exact Ok.some ⟨rfl, e2⟩
  · rintro (⟨v', t, ⟨⟩⟩ | z) hq
    · obtain ⟨e1, e2⟩ := hq
      simp only at e1 e2
      subst e1
      dsimp only
      rw [e_s_l6Points]
      dsimp only [Option.bind_some]
      refine Ok.bind (P := fun _ => True) ?_ (fun b _ => Ok.some trivial)
      refine Ok.ite (fun _ => Ok.some trivial) (fun _ => ?_)
      refine Ok.bind (P := fun _ => True) ?_ (fun b _ => Ok.some trivial)
      refine Ok.ite (fun h5 => ?_) (fun _ => Ok.some trivial)
      have x5 : v'.1 = 5 := by simpa using h5
      obtain ⟨_, p1, p2, _⟩ := pv_of hv x5
      exact Ok.pos ⟨p1, by rw [e2]; exact p2⟩ (Ok.some trivial)
    · exact hq.elim

/-- a value, carried over by the reference -/
theorem p_ship {h : List CT} (ho : heapOk h = true) (hh : SzH h) : ∀ v, valueOk h v = true → SzV v → ∀ (N : Nat) (g : List CT), rank v < N → weight h v ≤ 300 → g.length ≤ 600 → SzH g → g.length + (weight h v).toNat ≤ 600 →
    Ok (s_l30Ship N (h, v, g, ())) fun y => y.1.length = g.length + (weight h v).toNat ∧ SzH y.1 ∧ SzV y.2.1 := by
  have hbig : big = 1048577 := rfl
  refine kids_ind ho (fun v hv h5 => ?_) (fun v hv h5 i0 i1 => ?_)
  · intro hs N g hN hw hg hgs _
    obtain ⟨N, rfl⟩ : ∃ k, N = k + 1 := ⟨N - 1, by omega⟩
    unfold s_l30Ship
    dsimp only
    rw [if_pos (by simpa using h5), weight_not h5]
    exact Ok.some ⟨by simp, hgs, hs⟩
  · intro hs N g hN hw hg hgs hsum
    obtain ⟨N, rfl⟩ : ∃ k, N = k + 1 := ⟨N - 1, by omega⟩
    obtain ⟨k1, k2, k3⟩ := pair_kids ho hv h5
    have m0 := k3 _ (getD_mem2 (d := ((0 : Int), (0 : Int), ByteArray.empty, ())) k2 (i := 0) (by omega))
    have m1 := k3 _ (getD_mem2 (d := ((0 : Int), (0 : Int), ByteArray.empty, ())) k2 (i := 1) (by omega))
    have r0 := rank_kid h5 m0.2
    have r1 := rank_kid h5 m1.2
    obtain ⟨_, _, _, hwt⟩ := pair_weight ho hv h5
    have hwt : weight h v = leastW (1 + weight h ((valsI h v.2.1).getD 0 ((0 : Int), (0 : Int), ByteArray.empty, ())) + weight h ((valsI h v.2.1).getD 1 ((0 : Int), (0 : Int), ByteArray.empty, ()))) := hwt
    have w0 := weight_range h ((valsI h v.2.1).getD 0 ((0 : Int), (0 : Int), ByteArray.empty, ()))
    have w1 := weight_range h ((valsI h v.2.1).getD 1 ((0 : Int), (0 : Int), ByteArray.empty, ()))
    have hsum1 : weight h v = 1 + weight h ((valsI h v.2.1).getD 0 ((0 : Int), (0 : Int), ByteArray.empty, ())) + weight h ((valsI h v.2.1).getD 1 ((0 : Int), (0 : Int), ByteArray.empty, ())) := by
      rw [hwt] at hw ⊢
      unfold leastW at hw ⊢
      split at hw
      · omega
      · rename_i hh; rw [if_neg hh]
    have hszc := SzC_at hh v.2.1.toNat
    have s0 : SzV ((valsI h v.2.1).getD 0 ((0 : Int), (0 : Int), ByteArray.empty, ())) := hszc.2.2.2.2 _ (getD_mem2 (d := ((0 : Int), (0 : Int), ByteArray.empty, ())) k2 (i := 0) (by omega))
    have s1 : SzV ((valsI h v.2.1).getD 1 ((0 : Int), (0 : Int), ByteArray.empty, ())) := hszc.2.2.2.2 _ (getD_mem2 (d := ((0 : Int), (0 : Int), ByteArray.empty, ())) k2 (i := 1) (by omega))
    have hi0 : inB 0 (valsI h v.2.1).length := ⟨by omega, by omega⟩
    have hi1 : inB 1 (valsI h v.2.1).length := ⟨by omega, by omega⟩
    unfold s_l30Ship
    dsimp only
    rw [if_neg (by simpa using h5)]
    refine Ok.pos k1 (Ok.pos hi0 ?_)
    refine Ok.bind (i0 s0 N g (by omega) (by omega) hg hgs (by omega)) ?_
    rintro ⟨g1, a, ⟨⟩⟩ ⟨q1, q2, q3⟩
    simp only at q1 q2 q3
    dsimp only
    refine Ok.pos k1 (Ok.pos hi1 ?_)
    refine Ok.bind (i1 s1 N g1 (by omega) (by omega) (by omega) q2 (by omega)) ?_
    rintro ⟨g2, b, ⟨⟩⟩ ⟨p1, p2, p3⟩
    simp only at p1 p2 p3
    dsimp only
    refine Ok.pos (by simp; omega) (Ok.some ⟨?_, ⟨?_, fun c hc => ?_⟩, (by decide : ByteArray.empty.size < big)⟩)
    · show (g2 ++ _).length = _
      rw [List.length_append, List.length_singleton, p1, q1, hsum1]; omega
    · show (g2 ++ _).length < _
      rw [List.length_append, List.length_singleton]; omega
    · rcases List.mem_append.1 hc with hc | hc
      · exact p2.2 c hc
      · rw [List.mem_singleton] at hc
        subst hc
        refine ⟨(by decide : ByteArray.empty.size < big), by simp; omega, by simp, by simp; omega, ?_⟩
        intro v hv
        simp only [List.mem_cons, List.not_mem_nil, or_false] at hv
        rcases hv with rfl | rfl
        · exact q3
        · exact p3
end Go.Rf

namespace Go.Rf

theorem p_Ship (N : Nat) (h g : List CT) (v : VT) (hh : SzH h) (hg : SzH g) (hv : SzV v) (hN : big < N) : Ok (s_Ship N (h, v, g, ())) fun y => SzH y.1 ∧ SzV y.2.1 := by
  have hbig : big = 1048577 := rfl
  have hz : SzV ((0 : Int), (0 : Int), ByteArray.empty, ()) := (by decide : ByteArray.empty.size < big)
  unfold s_Ship
  dsimp only
  rw [e_s_HeapOk N (g, ()) hg (by omega)]
  dsimp only [Option.bind_some]
  refine Ok.ite (fun _ => Ok.some ⟨⟨by simp; omega, by simp⟩, hz⟩) (fun og => ?_)
  have og : heapOk g = true := by simpa using og
  have hlg := ok_len og
  refine Ok.bind (p_copy N g hg hN) ?_
  rintro _ rfl
  dsimp only
  rw [e_s_HeapOk N (h, ()) hh (by omega)]
  dsimp only [Option.bind_some]
  cases oh : heapOk h with
  | false =>
    rw [if_pos (by simp)]
    simp only [Option.bind_some, if_true]
    exact Ok.some ⟨hg, hz⟩
  | true =>
    rw [if_neg (by simp), e_s_ValueOk N (h, v, ()) hv (by omega)]
    dsimp only [Option.bind_some]
    cases ov : valueOk h v with
    | false =>
      simp only [Bool.not_false, if_true, Option.bind_some]
      exact Ok.some ⟨hg, hz⟩
    | true =>
      rw [if_neg (by simp)]
      obtain ⟨p, hp, _⟩ := p_plain N h v oh ov hN
      rw [hp]
      simp only [Option.bind_some]
      refine Ok.bind (P := fun b => b = false → weight h v ≤ 300 - (g.length : Int)) ?_ (fun b hb => ?_)
      · refine Ok.ite (fun _ => Ok.some (fun h => by cases h)) (fun _ => ?_)
        rw [e_s_Weight N (h, v, ()) hh hv (by omega)]
        dsimp only [Option.bind_some]
        refine Ok.some (fun hb => ?_)
        rw [wrap_id (by omega) (by omega)] at hb
        have := of_decide_eq_false hb
        omega
      · refine Ok.ite (fun _ => Ok.some ⟨hg, hz⟩) (fun hb2 => ?_)
        have hw := hb (by simpa using hb2)
        have hr := weight_range h v
        have hrk := rank_le oh ov
        refine Ok.bind (p_ship oh hh v ov hv N g (by omega) (by omega) (by omega) hg (by omega)) ?_
        rintro ⟨g2, w, ⟨⟩⟩ ⟨_, q2, q3⟩
        exact Ok.some ⟨q2, q3⟩

theorem ok_Two (N : Nat) (r : RT) (d : List Int) (j : JR r) (hd : d.length ≤ lim) (hN : 5000 < N) : Ok (s_l30Two N (r, d, ())) fun y => SzH y.1 ∧ SzV y.2.1 ∧ JR y.2.2.1 := by
  have hbig : big = 1048577 := rfl
  have hV : ∀ {v : VT}, smV v → SzV v := fun {v} h => by unfold smV at h; unfold SzV; omega
  unfold s_l30Two
  dsimp only
  refine Ok.bind (P := fun y => y.1 ≤ 20) (by obtain ⟨k, e, h⟩ := p_size N d 20 hd (by decide); exact ⟨_, e, h⟩) ?_
  rintro ⟨n, u⟩ hn
  simp only at hn
  dsimp only
  refine Ok.bind (ok_heap N r n j (by omega) (by omega)) ?_
  rintro ⟨hp, r2, u⟩ ⟨j, hl, hh⟩
  simp only at j hl hh
  have hH : SzH hp := ⟨by omega, fun c hc => ⟨(hh c hc).1, (hh c hc).2.1, (hh c hc).2.2.1, (hh c hc).2.2.2.1, fun v hv => hV ((hh c hc).2.2.2.2 v hv)⟩⟩
  dsimp only
  refine Ok.bind (ok_once N r2 8 j) ?_
  rintro ⟨b, r3, u⟩ j
  simp only at j
  dsimp only
  refine Ok.ite (fun hc => ?_) (fun hc => ?_)
  · refine Ok.bind (ok_below N r3 10 j) ?_
    rintro ⟨k, r4, u⟩ ⟨j4, k1, k2, _⟩
    have k2 := k2 (by decide)
    simp only at k1 k2 j4
    dsimp only
    refine Ok.iter (J := fun s => JR s.1 ∧ 0 ≤ s.2.2.2.1 ∧ (s.2.2.1.length : Int) + s.2.2.2.1 ≤ 30 ∧ smH s.2.2.1) (m := fun s => s.2.2.2.1.toNat) (Q := fun o => match o with | .inl s => JR s.1 ∧ s.2.2.1.length ≤ 30 ∧ smH s.2.2.1 | .inr _ => False) ?_ ?_ ?_ ?_
    · rintro ⟨r5, v, hp, k, u⟩ ⟨g1, g2, g3, g4⟩
      simp only at g1 g2 g3 g4
      dsimp only
      refine Ok.ite (fun hc => ?_) (fun hc => ?_)
      · have hk : 0 < k := by simpa using hc
        refine Ok.pos (by rw [List.length_singleton]; omega) (Ok.some ⟨⟨g1, ?_, ?_, smH_app g4 (smC_new (by decide) (by simp) (by simp) (by simp) ?_)⟩, ?_⟩)
        · dsimp only; rw [wrap_id (n := k - 1) (by omega) (by omega)]; omega
        · dsimp only; rw [wrap_id (n := k - 1) (by omega) (by omega), List.length_append, List.length_singleton]; omega
        · intro v hv
          simp only [List.mem_cons, List.not_mem_nil, or_false] at hv
          rcases hv with rfl | rfl <;> exact (by decide : ByteArray.empty.size ≤ 50)
        · dsimp only; rw [wrap_id (n := k - 1) (by omega) (by omega)]; omega
      · refine Ok.some ⟨g1, ?_, g4⟩
        simp at hc; dsimp only; omega
    · refine ⟨j4, ?_, ?_, ?_⟩
      · dsimp only; rw [wrap_id (n := 6 + k) (by omega) (by omega)]; omega
      · dsimp only; rw [wrap_id (n := 6 + k) (by omega) (by omega), List.length_singleton]; omega
      · intro c hc
        rw [List.mem_singleton] at hc
        subst hc
        refine smC_new (by decide) (by simp) (by simp) (by simp) ?_
        intro v hv
        simp only [List.mem_cons, List.not_mem_nil, or_false] at hv
        rcases hv with rfl | rfl <;> exact (by decide : ByteArray.empty.size ≤ 50)
    · dsimp only; rw [wrap_id (n := 6 + k) (by omega) (by omega)]; omega
    · rintro (⟨r5, v, hp, u⟩ | z) hq
      rotate_left
      · exact hq.elim
      obtain ⟨j5, hl, hh⟩ := hq
      simp only at hl hh j5
      refine Ok.some ⟨⟨by dsimp only; omega, fun c hc => ?_⟩, (by decide : ByteArray.empty.size < big), j5⟩
      obtain ⟨a1, a2, a3, a4, a5⟩ := hh c hc
      exact ⟨by omega, by omega, fun s hs => by have := a3 s hs; omega, by omega, fun v hv => hV (a5 v hv)⟩
  · refine Ok.bind (ok_anyVal N r3 hp j) ?_
    rintro ⟨v, r4, u⟩ ⟨j4, hv⟩
    exact Ok.some ⟨hH, hV hv, j4⟩

theorem ok_DrawSameVal (N : Nat) (d : List Int) (hd : d.length ≤ lim) (hN : big < N) : Ok (s_DrawSameVal N (d, ())) fun y => SzH y.1 ∧ SzV y.2.1 ∧ SzH y.2.2.1 ∧ SzV y.2.2.2.1 := by
  have hbig : big = 1048577 := rfl
  unfold s_DrawSameVal
  dsimp only
  refine Ok.bind (P := fun y => JR y.1) (by obtain ⟨r, e, j⟩ := p_new N d hd (by omega); exact ⟨_, e, j⟩) ?_
  rintro ⟨r, u⟩ j
  simp only at j
  dsimp only
  refine Ok.bind (ok_Two N r d j hd (by omega)) ?_
  rintro ⟨h, a, r2, u⟩ ⟨q1, q2, j⟩
  simp only at q1 q2 j
  dsimp only
  refine Ok.bind (ok_Two N r2 d j hd (by omega)) ?_
  rintro ⟨g, b, r3, u⟩ ⟨p1, p2, j⟩
  simp only at p1 p2 j
  dsimp only
  refine Ok.bind (ok_once N r3 2 j) ?_
  rintro ⟨c, r4, u⟩ j
  dsimp only
  refine Ok.ite (fun _ => ?_) (fun _ => Ok.some ⟨q1, q2, p1, p2⟩)
  refine Ok.bind (p_Ship N h g a q1 p1 q2 hN) ?_
  rintro ⟨x, v, is, u⟩ ⟨t1, t2⟩
  simp only at t1 t2
  dsimp only
  refine Ok.ite (fun _ => Ok.some ⟨q1, q2, t1, t2⟩) (fun _ => Ok.some ⟨q1, q2, q1, q2⟩)

/-- THE LAW, WITH NO PROGRAM IN SIGHT -/
theorem l_FnAlike_true (N : Nat) (x : List Int × Unit) (hx : x.1.length ≤ lim) (hN : big < N) : l_FnAlike N x = some (true, ()) := by
  obtain ⟨d, u⟩ := x
  simp only at hx
  have hbig : big = 1048577 := rfl
  suffices h : Ok (l_FnAlike N (d, u)) fun y => y = (true, ()) by
    obtain ⟨y, e, rfl⟩ := h
    exact e
  unfold l_FnAlike
  dsimp only
  refine Ok.bind (P := fun _ => True) ?_ (fun b _ => ?_)
  · unfold l_big; exact Ok.some trivial
  refine Ok.ite (fun _ => Ok.some rfl) (fun _ => ?_)
  refine Ok.bind (ok_DrawSameVal N d hx hN) ?_
  rintro ⟨h, a, g, b, u⟩ ⟨q1, q2, q3, q4⟩
  simp only at q1 q2 q3 q4
  dsimp only
  rw [e_i_SameVal N h g a b q1 q3 q2 q4 (by omega), e_s_SameVal N h g a b q1 q3 q2 q4 (by omega), e_i_SameVal N g h b a q3 q1 q4 q2 (by omega)]
  dsimp only [Option.bind_some]
  have hsym : sameV h a g b = sameV g b h a := by
    unfold sameV
    cases o1 : heapOk h <;> cases o2 : heapOk g <;> cases o3 : valueOk h a <;> cases o4 : valueOk g b <;> simp
    exact like_symm o1 o2 a o3 b o4
  rw [if_neg (by simp)]
  simp only [hsym, decide_true, Bool.not_true, Option.bind_some, Bool.false_eq_true, if_false]
  rw [e_s_HeapOk N (h, ()) q1 (by omega)]
  dsimp only [Option.bind_some]
  refine Ok.bind (P := fun b9 => b9 = true → heapOk h = true ∧ valueOk h a = true) ?_ (fun b9 hb9 => ?_)
  · refine Ok.ite (fun o1 => ?_) (fun _ => Ok.some (fun h => by cases h))
    rw [e_s_ValueOk N (h, a, ()) q2 (by omega)]
    exact Ok.some (fun o3 => ⟨o1, o3⟩)
  refine Ok.bind (P := fun b11 => b11 = false) ?_ (fun b11 hb11 => ?_)
  · refine Ok.ite (fun o9 => ?_) (fun _ => Ok.some rfl)
    obtain ⟨o1, o3⟩ := hb9 o9
    rw [e_i_SameVal N h h a a q1 q1 q2 q2 (by omega)]
    refine Ok.some ?_
    simp [sameV, o1, o3, like_refl o1 a o3]
  subst hb11
  rw [if_neg (by simp)]
  refine Ok.ite (fun _ => Ok.some rfl) (fun his => ?_)
  have his : sameV g b h a = true := by simpa using his
  rw [← hsym] at his
  unfold sameV at his
  simp only [Bool.and_eq_true] at his
  obtain ⟨⟨⟨⟨o1, o2⟩, o3⟩, o4⟩, hl⟩ := his
  rw [e_s_Weight N (h, a, ()) q1 q2 (by omega), e_s_Weight N (g, b, ()) q3 q4 (by omega)]
  dsimp only [Option.bind_some]
  refine Ok.some ?_
  rw [like_weight o1 o2 a o3 b o4 hl]
  simp
end Go.Rf

namespace Go.Rf

/-! ## What may be carried over -/
def plainN (h : List CT) : Nat → VT → Bool
  | 0, _ => false
  | n + 1, v => if v.1 = 5 then plainN h n ((valsI h v.2.1).getD 0 ((0 : Int), (0 : Int), ByteArray.empty, ())) && plainN h n ((valsI h v.2.1).getD 1 ((0 : Int), (0 : Int), ByteArray.empty, ())) else !refV v
def plain (h : List CT) (v : VT) : Bool := plainN h 400 v

theorem plainN_step (h : List CT) (n : Nat) (v : VT) : plainN h (n + 1) v = if v.1 = 5 then plainN h n ((valsI h v.2.1).getD 0 ((0 : Int), (0 : Int), ByteArray.empty, ())) && plainN h n ((valsI h v.2.1).getD 1 ((0 : Int), (0 : Int), ByteArray.empty, ())) else !refV v := rfl

theorem plainN_two {h : List CT} (ho : heapOk h = true) : ∀ v, valueOk h v = true → ∀ n m, rank v < n → rank v < m → plainN h n v = plainN h m v := by
  refine kids_ind ho (fun v hv h5 n m hn hm => ?_) (fun v hv h5 i0 i1 n m hn hm => ?_)
  · obtain ⟨n, rfl⟩ : ∃ k, n = k + 1 := ⟨n - 1, by omega⟩
    obtain ⟨m, rfl⟩ : ∃ k, m = k + 1 := ⟨m - 1, by omega⟩
    rw [plainN_step, plainN_step, if_neg h5, if_neg h5]
  · obtain ⟨n, rfl⟩ : ∃ k, n = k + 1 := ⟨n - 1, by omega⟩
    obtain ⟨m, rfl⟩ : ∃ k, m = k + 1 := ⟨m - 1, by omega⟩
    obtain ⟨k1, k2, k3⟩ := pair_kids ho hv h5
    have r0 := rank_kid h5 (k3 _ (getD_mem2 (d := ((0 : Int), (0 : Int), ByteArray.empty, ())) k2 (i := 0) (by omega))).2
    have r1 := rank_kid h5 (k3 _ (getD_mem2 (d := ((0 : Int), (0 : Int), ByteArray.empty, ())) k2 (i := 1) (by omega))).2
    rw [plainN_step, plainN_step, if_pos h5, if_pos h5, i0 n m (by omega) (by omega), i1 n m (by omega) (by omega)]

theorem plain_leaf {h : List CT} {v : VT} (h5 : ¬ v.1 = 5) : plain h v = !refV v := by
  unfold plain; rw [plainN_step, if_neg h5]
theorem plain_pair {h : List CT} {v : VT} (ho : heapOk h = true) (hv : valueOk h v = true) (h5 : v.1 = 5) : plain h v = (plain h ((valsI h v.2.1).getD 0 ((0 : Int), (0 : Int), ByteArray.empty, ())) && plain h ((valsI h v.2.1).getD 1 ((0 : Int), (0 : Int), ByteArray.empty, ()))) := by
  obtain ⟨k1, k2, k3⟩ := pair_kids ho hv h5
  have m0 := k3 _ (getD_mem2 (d := ((0 : Int), (0 : Int), ByteArray.empty, ())) k2 (i := 0) (by omega))
  have m1 := k3 _ (getD_mem2 (d := ((0 : Int), (0 : Int), ByteArray.empty, ())) k2 (i := 1) (by omega))
  have r0 := rank_kid h5 m0.2
  have r1 := rank_kid h5 m1.2
  have hr := rank_le ho hv
  have e : plain h v = plainN h (399 + 1) v := rfl
  rw [e, plainN_step, if_pos h5, plainN_two ho _ m0.1 399 400 (by omega) (by omega), plainN_two ho _ m1.1 399 400 (by omega) (by omega)]
  rfl

/-- the table of pairs that are plain, filled up to a place -/
structure Pb (h : List CT) (i : Nat) (t : List Bool) : Prop where
  len : t.length = h.length
  at_ : ∀ k, k < i → k < h.length → (h.getD k ((0 : Int), ByteArray.empty, (0 : Int), (0 : Int), ([] : List ByteArray), ([] : List VT), ())).1 = 1 → t.getD k false = plain h (pv k)

def allP (h : List CT) (xs : List VT) (j : Nat) : Bool := (List.range j).all fun k => plain h (xs.getD k ((0 : Int), (0 : Int), ByteArray.empty, ()))
theorem allP_succ {h : List CT} {xs : List VT} {j : Nat} : allP h xs (j + 1) = (allP h xs j && plain h (xs.getD j ((0 : Int), (0 : Int), ByteArray.empty, ()))) := by
  unfold allP; rw [List.range_succ, List.all_append]; simp

theorem at_pb {h : List CT} {i : Nat} {t : List Bool} (ht : Pb h i t) {x : VT} (hx : valueOk h x = true) (x5 : x.1 = 5) (hlt : x.2.1 < (i : Int)) : inB x.2.1 t.length ∧ t.getD (Int.toNat x.2.1) false = plain h x := by
  obtain ⟨e1, p1, p2, p3⟩ := pv_of hx x5
  refine ⟨⟨p1, by rw [ht.len]; exact p2⟩, ?_⟩
  rw [ht.at_ _ (by omega) (by omega) p3, ← e1]

theorem p_plainE (N : Nat) (h : List CT) (v : VT) (ho : heapOk h = true) (hv : valueOk h v = true) (hN : big < N) : Ok (s_l30Plain N (h, v, ())) fun y => y = (plain h v, ()) := by
  have hbig : big = 1048577 := rfl
  have hl := ok_len ho
  unfold s_l30Plain
  dsimp only
  refine Ok.pos ⟨by omega, by omega, by omega⟩ ?_
  rw [Int.toNat_natCast]
  refine Ok.iter (fun s => s.1 = v ∧ ∃ i : Nat, s.2.2.1 = (i : Int) ∧ i ≤ h.length ∧ Pb h i s.2.1) (fun s => h.length - s.2.2.1.toNat) (fun r => match r with
    | .inl y => y.1 = v ∧ Pb h h.length y.2.1
    | .inr z => False) ?_ ⟨rfl, 0, rfl, by omega, ⟨by simp, fun k hk => by omega⟩⟩ (by show h.length - Int.toNat 0 < N; omega) ?_
  · rintro ⟨v', t, i', ⟨⟩⟩ ⟨e1, i, e3, hi, e2⟩
    simp only at e1 e2 e3
    subst e1 e3
    dsimp only
    refine Ok.ite (fun hc => ?_) (fun hc => ?_)
    · have hi' : i < h.length := by simpa using hc
      have hms : h.length - (((i + 1 : Nat) : Int)).toNat < h.length - ((i : Int)).toNat := by simp only [Int.toNat_natCast]; omega
      rw [Int.toNat_natCast, wrap_nat (by omega)]
      refine Ok.pos (inB_nat.2 hi') (Ok.ite (fun hk => ?_) (fun hk => ?_))
      · refine Ok.some ⟨⟨rfl, i + 1, rfl, hi', ⟨e2.len, fun k hk1 hk2 hk3 => ?_⟩⟩, hms⟩
        rcases Nat.lt_succ_iff_lt_or_eq.1 hk1 with q | rfl
        · exact e2.at_ k q hk2 hk3
        · have hk3 : (h.getD k (0, (ByteArray.empty, (0, (0, ([], ([], ()))))))).1 = 1 := hk3
          rw [hk3] at hk; simp at hk
      have hk : (h.getD i ((0 : Int), ByteArray.empty, (0 : Int), (0 : Int), ([] : List ByteArray), ([] : List VT), ())).1 = 1 := by
        apply Classical.byContradiction
        intro hh
        apply hk
        rw [decide_eq_false hh]; rfl
      refine Ok.pos (by rw [e2.len]; exact inB_nat.2 hi') ?_
      have hvx := pv_ok hi' hk
      obtain ⟨_, xl, xo⟩ := pair_kids ho hvx rfl
      have hpp := plain_pair ho hvx rfl
      have ex : valsI h (pv i).2.1 = (h.getD i ((0 : Int), ByteArray.empty, (0 : Int), (0 : Int), ([] : List ByteArray), ([] : List VT), ())).2.2.2.2.2.1 := by show (h.getD (Int.toNat (i : Int)) ((0 : Int), ByteArray.empty, (0 : Int), (0 : Int), ([] : List ByteArray), ([] : List VT), ())).2.2.2.2.2.1 = _; rw [Int.toNat_natCast]
      rw [ex] at xl xo hpp
      generalize (h.getD i ((0 : Int), ByteArray.empty, (0 : Int), (0 : Int), ([] : List ByteArray), ([] : List VT), ())).2.2.2.2.2.1 = xs at xl xo hpp ⊢
      refine Ok.iter (fun s => s.1 = v' ∧ ∃ j : Nat, s.2.2.1 = (j : Int) ∧ j ≤ 2 ∧ Pb h i s.2.1 ∧ s.2.1.getD i false = allP h xs j) (fun s => 2 - s.2.2.1.toNat) (fun r => match r with
        | .inl y => y.1 = v' ∧ Pb h (i + 1) y.2.1
        | .inr z => False) ?_ ⟨rfl, 0, rfl, by omega, ⟨by simp [e2.len], fun k hk1 hk2 hk3 => ?_⟩, ?_⟩ (by show 2 - Int.toNat 0 < N; omega) ?_
      · rintro ⟨v2, t2, j', ⟨⟩⟩ ⟨e1, j, e3, hj, e4, e5⟩
        simp only at e1 e4 e3 e5
        subst e1 e3
        dsimp only
        refine Ok.ite (fun hc => ?_) (fun hc => ?_)
        · have hj' : j < 2 := by
            have : (j : Int) < 2 := by simpa using hc
            omega
          have hms2 : 2 - (((j + 1 : Nat) : Int)).toNat < 2 - ((j : Int)).toNat := by simp only [Int.toNat_natCast]; omega
          rw [Int.toNat_natCast, wrap_nat (by omega)]
          refine Ok.pos (inB_nat.2 hi') (Ok.pos (inB_nat.2 (by omega)) (Ok.pos (by rw [e4.len]; exact inB_nat.2 hi') ?_))
          obtain ⟨vx, bx⟩ := xo _ (mem_getD (d := ((0 : Int), (0 : Int), ByteArray.empty, ())) (show j < xs.length by omega))
          have hnext := allP_succ (h := h) (xs := xs) (j := j)
          rw [← e5] at hnext
          generalize xs.getD j ((0 : Int), (0 : Int), ByteArray.empty, ()) = x at vx bx hnext ⊢
          have hset : ∀ b, b = allP h xs (j + 1) → Pb h i (t2.set i b) ∧ (t2.set i b).getD i false = allP h xs (j + 1) := by
            intro b hb
            refine ⟨⟨by simp [e4.len], fun k k1 k2 k3 => ?_⟩, ?_⟩
            · rw [List.getD_eq_getElem?_getD, List.getElem?_set_ne (by omega), ← List.getD_eq_getElem?_getD]
              exact e4.at_ k k1 k2 k3
            · rw [List.getD_eq_getElem?_getD, List.getElem?_set_self (by rw [e4.len]; exact hi')]
              exact hb
          refine Ok.bind (P := fun b => b = allP h xs (j + 1)) ?_ (fun b hb => Ok.pos (by rw [e4.len]; exact inB_nat.2 hi') (Ok.some ⟨⟨rfl, j + 1, rfl, hj', hset b hb⟩, hms2⟩))
          cases hti : t2.getD i false with
          | false =>
            rw [if_neg (by simp)]
            refine Ok.some ?_
            rw [hnext, hti]; rfl
          | true =>
            rw [if_pos rfl, e_s_l6Points]
            dsimp only [Option.bind_some]
            rw [hti] at hnext
            rw [hnext]
            simp only [Bool.true_and]
            cases hr : refV x with
            | false =>
              have x5 : ¬ x.1 = 5 := by intro e; simp [refV, e] at hr
              rw [plain_leaf x5, hr]
              exact Ok.some rfl
            | true =>
              simp only [Bool.not_true, Bool.false_eq_true, if_false]
              by_cases x5 : x.1 = 5
              · obtain ⟨p1, p2⟩ := at_pb e4 vx x5 (by have := (bx x5).2; simpa [pv] using this)
                rw [if_pos (decide_eq_true x5), if_pos p1, p2]
                exact Ok.some rfl
              · rw [if_neg (by simpa using x5), plain_leaf x5, hr]
                exact Ok.some rfl
        · have hj2 : j = 2 := by
            have : ¬ (j : Int) < 2 := by simpa using hc
            omega
          subst hj2
          refine Ok.some ⟨rfl, ⟨e4.len, fun k k1 k2 k3 => ?_⟩⟩
          rcases Nat.lt_succ_iff_lt_or_eq.1 k1 with q | rfl
          · exact e4.at_ k q k2 k3
          · show t2.getD k false = _
            rw [e5, hpp]
            simp [allP, List.range_succ]
      · show (t.set i true).getD k false = _
        rw [List.getD_eq_getElem?_getD, List.getElem?_set_ne (by omega), ← List.getD_eq_getElem?_getD]
        exact e2.at_ k hk1 hk2 hk3
      · show (t.set i true).getD i false = _
        rw [List.getD_eq_getElem?_getD, List.getElem?_set_self (by rw [e2.len]; exact hi')]
        rfl
      · rintro (⟨v2, t2, ⟨⟩⟩ | z) hq
        · obtain ⟨e1, e4⟩ := hq
          simp only at e1 e4
          subst e1
          exact Ok.some ⟨⟨rfl, i + 1, rfl, hi', e4⟩, hms⟩
        · exact hq.elim
    · have hi2 : i = h.length := by
        have : ¬ (i : Int) < (h.length : Int) := by simpa using hc
        omega
      subst hi2
      exact Ok.some ⟨rfl, e2⟩
  · rintro (⟨v', t, ⟨⟩⟩ | z) hq
    · obtain ⟨e1, e2⟩ := hq
      simp only at e1 e2
      subst e1
      dsimp only
      rw [e_s_l6Points]
      dsimp only [Option.bind_some]
      cases hr : refV v' with
      | false =>
        have x5 : ¬ v'.1 = 5 := by intro e; simp [refV, e] at hr
        rw [plain_leaf x5, hr]
        exact Ok.some rfl
      | true =>
        simp only [Bool.not_true, Bool.false_eq_true, if_false]
        by_cases x5 : v'.1 = 5
        · obtain ⟨_, q1, q2, _⟩ := pv_of hv x5
          obtain ⟨p1, p2⟩ := at_pb e2 hv x5 q2
          rw [if_pos (decide_eq_true x5), if_pos p1, p2]
          exact Ok.some rfl
        · rw [if_neg (by simpa using x5), plain_leaf x5, hr]
          exact Ok.some rfl
    · exact hq.elim
end Go.Rf

namespace Go.Rf

def fits (h : List CT) (v : VT) (n : Nat) : Bool := plain h v && decide (n + (weight h v).toNat ≤ 300)

/-- a value, carried over by the program: as the reference does, or it says that it can't -/
theorem p_iship {h : List CT} (ho : heapOk h = true) (hh : SzH h) : ∀ v, valueOk h v = true → SzV v → ∀ (N : Nat) (g : List CT), rank v < N → g.length ≤ 300 → SzH g →
    Ok (i_ship N (h, v, g, ())) fun y => if fits h v g.length = true then y.2.1 = true ∧ y.2.2.1.length = g.length + (weight h v).toNat ∧ SzH y.2.2.1 ∧ SzV y.1 ∧ ∀ M, rank v < M → s_l30Ship M (h, v, g, ()) = some (y.2.2.1, y.1, ()) else y.2.1 = false := by
  have hbig : big = 1048577 := rfl
  refine kids_ind ho (fun v hv h5 => ?_) (fun v hv h5 i0 i1 => ?_)
  · intro hs N g hN hg hgs
    obtain ⟨N, rfl⟩ : ∃ k, N = k + 1 := ⟨N - 1, by omega⟩
    have hfit : fits h v g.length = !refV v := by
      unfold fits
      rw [plain_leaf h5, weight_not h5]
      have : decide (g.length + Int.toNat 0 ≤ 300) = true := by simp; omega
      rw [this, Bool.and_true]
    rw [hfit]
    unfold i_ship
    dsimp only
    by_cases h6 : v.1 = 6
    · have hr : refV v = true := by simp [refV, h6]
      rw [if_pos (decide_eq_true h6), hr]
      dsimp only [Option.bind_some]
      rw [if_pos (decide_eq_true h6)]
      exact Ok.some (by simp)
    · rw [if_neg (by simpa using h6)]
      dsimp only [Option.bind_some]
      by_cases h7 : v.1 = 7
      · have hr : refV v = true := by simp [refV, h7]
        rw [if_pos (decide_eq_true h7), hr]
        exact Ok.some (by simp)
      · have hr : refV v = false := by
          simp only [refV, Bool.and_eq_false_iff, decide_eq_false_iff_not]
          omega
        rw [if_neg (by simpa using h7), if_neg (by simpa using h5), hr]
        refine Ok.some ?_
        simp only [Bool.not_false, if_true]
        refine ⟨trivial, by rw [weight_not h5]; simp, hgs, hs, fun M hM => ?_⟩
        obtain ⟨M, rfl⟩ : ∃ k, M = k + 1 := ⟨M - 1, by omega⟩
        unfold s_l30Ship
        dsimp only
        rw [if_pos (by simpa using h5)]
  · intro hs N g hN hg hgs
    obtain ⟨N, rfl⟩ : ∃ k, N = k + 1 := ⟨N - 1, by omega⟩
    obtain ⟨k1, k2, k3⟩ := pair_kids ho hv h5
    have m0 := k3 _ (getD_mem2 (d := ((0 : Int), (0 : Int), ByteArray.empty, ())) k2 (i := 0) (by omega))
    have m1 := k3 _ (getD_mem2 (d := ((0 : Int), (0 : Int), ByteArray.empty, ())) k2 (i := 1) (by omega))
    have r0 := rank_kid h5 m0.2
    have r1 := rank_kid h5 m1.2
    obtain ⟨_, _, _, hwt⟩ := pair_weight ho hv h5
    have hwt : weight h v = leastW (1 + weight h ((valsI h v.2.1).getD 0 ((0 : Int), (0 : Int), ByteArray.empty, ())) + weight h ((valsI h v.2.1).getD 1 ((0 : Int), (0 : Int), ByteArray.empty, ()))) := hwt
    have hpl := plain_pair ho hv h5
    have w0 := weight_range h ((valsI h v.2.1).getD 0 ((0 : Int), (0 : Int), ByteArray.empty, ()))
    have w1 := weight_range h ((valsI h v.2.1).getD 1 ((0 : Int), (0 : Int), ByteArray.empty, ()))
    have hszc := SzC_at hh v.2.1.toNat
    have s0 : SzV ((valsI h v.2.1).getD 0 ((0 : Int), (0 : Int), ByteArray.empty, ())) := hszc.2.2.2.2 _ (getD_mem2 (d := ((0 : Int), (0 : Int), ByteArray.empty, ())) k2 (i := 0) (by omega))
    have s1 : SzV ((valsI h v.2.1).getD 1 ((0 : Int), (0 : Int), ByteArray.empty, ())) := hszc.2.2.2.2 _ (getD_mem2 (d := ((0 : Int), (0 : Int), ByteArray.empty, ())) k2 (i := 1) (by omega))
    have hi0 : inB 0 (valsI h v.2.1).length := ⟨by omega, by omega⟩
    have hi1 : inB 1 (valsI h v.2.1).length := ⟨by omega, by omega⟩
    have hsum : (weight h v).toNat ≤ 300 → weight h v = 1 + weight h ((valsI h v.2.1).getD 0 ((0 : Int), (0 : Int), ByteArray.empty, ())) + weight h ((valsI h v.2.1).getD 1 ((0 : Int), (0 : Int), ByteArray.empty, ())) := by
      intro hle
      rw [hwt] at hle ⊢
      unfold leastW at hle ⊢
      split at hle
      · simp at hle
      · rename_i hh; rw [if_neg hh]
    have hsum2 : weight h ((valsI h v.2.1).getD 0 ((0 : Int), (0 : Int), ByteArray.empty, ())) + weight h ((valsI h v.2.1).getD 1 ((0 : Int), (0 : Int), ByteArray.empty, ())) + 1 ≤ 300 → weight h v = 1 + weight h ((valsI h v.2.1).getD 0 ((0 : Int), (0 : Int), ByteArray.empty, ())) + weight h ((valsI h v.2.1).getD 1 ((0 : Int), (0 : Int), ByteArray.empty, ())) := by
      intro hle
      rw [hwt]
      unfold leastW
      rw [if_neg (by omega)]
    have hship : ∀ M (g1 g2 : List CT) (a b : VT), rank v < M → s_l30Ship (M - 1) (h, (valsI h v.2.1).getD 0 ((0 : Int), (0 : Int), ByteArray.empty, ()), g, ()) = some (g1, a, ()) → s_l30Ship (M - 1) (h, (valsI h v.2.1).getD 1 ((0 : Int), (0 : Int), ByteArray.empty, ()), g1, ()) = some (g2, b, ()) → g2.length < 4294967296 →
        s_l30Ship M (h, v, g, ()) = some (g2 ++ [(1, ByteArray.empty, 0, 0, [], [a, b], ())], (5, IntKind.wrap .i64 (((g2 ++ ([(1, ByteArray.empty, 0, 0, [], [a, b], ())] : List CT)).length : Int) - 1), ByteArray.empty, ()), ()) := by
      intro M g1 g2 a b hM e0 e1 hlt
      obtain ⟨M, rfl⟩ : ∃ k, M = k + 1 := ⟨M - 1, by omega⟩
      rw [Nat.add_sub_cancel] at e0 e1
      unfold s_l30Ship
      dsimp only
      rw [if_neg (by simpa using h5), if_pos k1]
      have hi0' : inB 0 (List.length (List.getD h (Int.toNat v.2.1) (0, (ByteArray.empty, (0, (0, ([], ([], ()))))))).2.2.2.2.2.1) := hi0
      have hi1' : inB 1 (List.length (List.getD h (Int.toNat v.2.1) (0, (ByteArray.empty, (0, (0, ([], ([], ()))))))).2.2.2.2.2.1) := hi1
      have e0' : s_l30Ship M (h, List.getD (List.getD h (Int.toNat v.2.1) (0, (ByteArray.empty, (0, (0, ([], ([], ()))))))).2.2.2.2.2.1 (Int.toNat 0) (0, (0, (ByteArray.empty, ()))), g, ()) = some (g1, a, ()) := e0
      have e1' : s_l30Ship M (h, List.getD (List.getD h (Int.toNat v.2.1) (0, (ByteArray.empty, (0, (0, ([], ([], ()))))))).2.2.2.2.2.1 (Int.toNat 1) (0, (0, (ByteArray.empty, ()))), g1, ()) = some (g2, b, ()) := e1
      rw [if_pos hi0', e0']
      dsimp only [Option.bind_some]
      rw [if_pos k1, if_pos hi1', e1']
      dsimp only [Option.bind_some]
      rw [if_pos (by simp; omega)]
    unfold i_ship
    dsimp only
    rw [if_neg (by simp [h5])]
    dsimp only [Option.bind_some]
    rw [if_neg (by simp [h5]), if_pos (decide_eq_true h5)]
    refine Ok.pos k1 (Ok.pos hi0 ?_)
    refine Ok.bind (i0 s0 N g (by omega) hg hgs) ?_
    rintro ⟨a, ok0, g1, ⟨⟩⟩ q
    dsimp only at q ⊢
    split at q
    rotate_left
    · -- the first part does not go
      rename_i hf0
      subst q
      rw [if_pos (by simp)]
      refine Ok.some ?_
      rw [if_neg]
      intro hf
      apply hf0
      unfold fits at hf ⊢
      rw [Bool.and_eq_true, decide_eq_true_eq, hpl, Bool.and_eq_true] at hf
      obtain ⟨⟨p0, p1⟩, hle⟩ := hf
      have := hsum (by omega)
      rw [p0, Bool.true_and, decide_eq_true_eq]
      omega
    rename_i hf0
    obtain ⟨rfl, l1, z1, y1, e1⟩ := q
    have hf0' := hf0
    unfold fits at hf0'
    rw [Bool.and_eq_true, decide_eq_true_eq] at hf0'
    rw [if_neg (by simp)]
    refine Ok.pos k1 (Ok.pos hi1 ?_)
    refine Ok.bind (i1 s1 N g1 (by omega) (by omega) z1) ?_
    rintro ⟨b, ok1, g2, ⟨⟩⟩ q
    dsimp only at q ⊢
    split at q
    rotate_left
    · rename_i hf1
      subst q
      rw [if_pos (by simp)]
      refine Ok.some ?_
      rw [if_neg]
      intro hf
      apply hf1
      unfold fits at hf ⊢
      rw [Bool.and_eq_true, decide_eq_true_eq, hpl, Bool.and_eq_true] at hf
      obtain ⟨⟨p0, p1⟩, hle⟩ := hf
      have := hsum (by omega)
      rw [p1, Bool.true_and, decide_eq_true_eq]
      omega
    rename_i hf1
    obtain ⟨rfl, l2, z2, y2, e2⟩ := q
    have hf1' := hf1
    unfold fits at hf1'
    rw [Bool.and_eq_true, decide_eq_true_eq] at hf1'
    rw [if_neg (by simp)]
    unfold i_alloc
    dsimp only
    by_cases hfull : g2.length ≥ 300
    · rw [if_pos (by simp; omega)]
      dsimp only [Option.bind_some]
      refine Ok.some ?_
      rw [if_neg]
      · simp
      intro hf
      unfold fits at hf
      rw [Bool.and_eq_true, decide_eq_true_eq] at hf
      have := hsum (by omega)
      omega
    · rw [if_neg (by simp; omega), if_pos (by simp; omega)]
      dsimp only [Option.bind_some]
      have hsum3 := hsum2 (by omega)
      refine Ok.some ?_
      have hfit : fits h v g.length = true := by
        unfold fits
        rw [hpl, hf0'.1, hf1'.1]
        simp
        omega
      rw [if_pos hfit]
      refine ⟨by simp, ?_, ⟨?_, fun c hc => ?_⟩, (by decide : ByteArray.empty.size < big), fun M hM => hship M g1 g2 a b hM (e1 _ (by omega)) (e2 _ (by omega)) (by omega)⟩
      · show (g2 ++ _).length = _
        rw [List.length_append, List.length_singleton]; omega
      · show (g2 ++ _).length < _
        rw [List.length_append, List.length_singleton]; omega
      · rcases List.mem_append.1 hc with hc | hc
        · exact z2.2 c hc
        · rw [List.mem_singleton] at hc
          subst hc
          refine ⟨(by decide : ByteArray.empty.size < big), by simp; omega, by simp, by simp; omega, ?_⟩
          intro v hv
          simp only [List.mem_cons, List.not_mem_nil, or_false] at hv
          rcases hv with rfl | rfl
          · exact y1
          · exact y2

theorem e_i_copyHeap (N : Nat) (h : List CT) (hh : SzH h) : i_copyHeap N (h, ()) = some (h, ()) := by
  have hbig : big = 1048577 := rfl
  unfold i_copyHeap
  rw [if_pos]
  refine ⟨by have := hh.1; simp only; omega, List.all_eq_true.2 fun c hc => ?_⟩
  obtain ⟨c1, c2, c3, c4, c5⟩ := hh.2 c hc
  rw [Bool.and_eq_true, decide_eq_true_eq, decide_eq_true_eq]
  omega

/-- both ships are alike -/
theorem p_Ships (N : Nat) (h g : List CT) (v : VT) (hh : SzH h) (hg : SzH g) (hv : SzV v) (hN : big < N) : Ok (s_Ship N (h, v, g, ())) fun y => SzH y.1 ∧ SzV y.2.1 ∧ i_Ship N (h, v, g, ()) = some y := by
  have hbig : big = 1048577 := rfl
  have hze : SzV (0, 0, ByteArray.empty, ()) := (by decide : ByteArray.empty.size < big)
  have hz0 : SzH [] := ⟨by simp [hbig], by simp⟩
  unfold s_Ship i_Ship
  dsimp only
  rw [e_s_HeapOk N (g, ()) hg (by omega), e_i_HeapOk N (g, ()) hg (by omega)]
  dsimp only [Option.bind_some]
  cases o1 : heapOk g with
  | false =>
    rw [if_pos (by simp)]
    exact Ok.some ⟨hz0, hze, by simp⟩
  | true =>
    rw [if_neg (by simp), if_neg (by simp)]
    obtain ⟨y, ey, rfl⟩ := p_copy N g hg hN
    rw [ey, e_i_copyHeap N g hg]
    dsimp only [Option.bind_some]
    rw [e_s_HeapOk N (h, ()) hh (by omega), e_i_HeapOk N (h, ()) hh (by omega)]
    dsimp only [Option.bind_some]
    cases o2 : heapOk h with
    | false =>
      simp only [Bool.not_false, if_true, Option.bind_some]
      exact Ok.some ⟨hg, hze, rfl⟩
    | true =>
      simp only [Bool.not_true, Bool.false_eq_true, if_false]
      rw [e_s_ValueOk N (h, v, ()) hv (by omega), e_i_ValueOk N (h, v, ()) hv hh.1 (by omega)]
      dsimp only [Option.bind_some]
      cases o3 : valueOk h v with
      | false =>
        simp only [Bool.not_false, if_true, Option.bind_some]
        exact Ok.some ⟨hg, hze, rfl⟩
      | true =>
        simp only [Bool.not_true, Bool.false_eq_true, if_false, Option.bind_some]
        have hr := rank_le o2 o3
        have hgl := ok_len o1
        obtain ⟨y1, e1, rfl⟩ := p_plainE N h v o2 o3 hN
        rw [e1, e_s_Weight N (h, v, ()) hh hv (by omega)]
        dsimp only [Option.bind_some]
        have w0 := weight_range h v
        have hwr : IntKind.wrap .i64 (300 - (g.length : Int)) = 300 - (g.length : Int) := wrap_id (by omega) (by omega)
        rw [hwr]
        obtain ⟨⟨b, ok, g1, ⟨⟩⟩, e2, q⟩ := p_iship o2 hh v o3 hv N g (by omega) hgl hg
        rw [e2]
        dsimp only [Option.bind_some]
        dsimp only at q
        cases hp : plain h v with
        | false =>
          rw [if_neg (by unfold fits; rw [hp]; simp)] at q
          subst q
          simp only [Bool.not_false, if_true, Option.bind_some]
          exact Ok.some ⟨hg, hze, rfl⟩
        | true =>
          simp only [Bool.not_true, Bool.false_eq_true, if_false, Option.bind_some]
          by_cases hw : g.length + (weight h v).toNat ≤ 300
          · rw [if_pos (by unfold fits; rw [hp]; simpa using hw)] at q
            obtain ⟨rfl, q1, q2, q3, q4⟩ := q
            rw [if_neg (by simp; omega), q4 N (by omega)]
            dsimp only [Option.bind_some]
            rw [if_neg (by simp)]
            exact Ok.some ⟨q2, q3, rfl⟩
          · rw [if_neg (by unfold fits; rw [hp]; simpa using hw)] at q
            subst q
            rw [if_pos (by simp; omega)]
            simp only [Bool.not_false, if_true]
            exact Ok.some ⟨hg, hze, rfl⟩
end Go.Rf

namespace Go.Rf

theorem getD_ext {g ext : List CT} {i : Nat} (hi : i < g.length) : (g ++ ext).getD i ((0 : Int), ByteArray.empty, (0 : Int), (0 : Int), ([] : List ByteArray), ([] : List VT), ()) = g.getD i ((0 : Int), ByteArray.empty, (0 : Int), (0 : Int), ([] : List ByteArray), ([] : List VT), ()) := by
  rw [List.getD_eq_getElem?_getD, List.getD_eq_getElem?_getD, List.getElem?_append_left hi]

theorem atC_ext {g ext : List CT} {v : VT} {k : Int} (h : atC g v k = true) : atC (g ++ ext) v k = true := by
  unfold atC inI at h ⊢
  simp only [Bool.and_eq_true, decide_eq_true_eq] at h ⊢
  obtain ⟨⟨h1, h2⟩, h3⟩ := h
  refine ⟨⟨h1, by rw [List.length_append]; omega⟩, ?_⟩
  rw [getD_ext (by omega)]
  exact h3

theorem valueOk_ext {g ext : List CT} {v : VT} (h : valueOk g v = true) : valueOk (g ++ ext) v = true := by
  unfold valueOk at h ⊢
  repeat' split
  all_goals simp_all
  all_goals exact atC_ext h.2

theorem valueOk_leaf {h g : List CT} {v : VT} (hv : valueOk h v = true) (hr : refV v = false) : valueOk g v = true := by
  unfold refV at hr
  simp only [Bool.and_eq_false_iff, decide_eq_false_iff_not] at hr
  unfold valueOk at hv ⊢
  repeat' split
  all_goals simp_all
  all_goals omega

theorem below_of {g : List CT} {v : VT} (hv : valueOk g v = true) : belowV (g.length : Int) v = true := by
  unfold belowV
  cases hr : refV v with
  | false => rfl
  | true =>
    unfold refV at hr
    simp only [Bool.and_eq_true, decide_eq_true_eq] at hr
    have : ∃ k, atC g v k = true := by
      unfold valueOk at hv
      rw [if_neg (by omega), if_neg (by omega), if_neg (by omega), if_neg (by omega)] at hv
      split at hv
      · exact ⟨1, by simp at hv; exact hv.2⟩
      split at hv
      · exact ⟨2, by simp at hv; exact hv.2⟩
      split at hv
      · exact ⟨3, by simp at hv; exact hv.2⟩
      · cases hv
    obtain ⟨k, hk⟩ := this
    unfold atC inI at hk
    simp only [Bool.and_eq_true, decide_eq_true_eq] at hk
    simp
    omega

theorem heapOk_ext {g : List CT} {a b : VT} (hg : heapOk g = true) (hl : g.length < 300) (ha : valueOk g a = true) (hb : valueOk g b = true) : heapOk (g ++ [(1, ByteArray.empty, 0, 0, [], [a, b], ())]) = true := by
  unfold heapOk at hg ⊢
  simp only [Bool.and_eq_true, decide_eq_true_eq] at hg ⊢
  refine ⟨by rw [List.length_append, List.length_singleton]; omega, List.all_eq_true.2 fun i hi => ?_⟩
  rw [List.mem_range, List.length_append, List.length_singleton] at hi
  rcases Nat.lt_succ_iff_lt_or_eq.1 hi with h | rfl
  · have hc := List.all_eq_true.1 hg.2 i (List.mem_range.2 h)
    rw [getD_ext h]
    unfold cellOk at hc ⊢
    simp only [Bool.and_eq_true] at hc ⊢
    obtain ⟨⟨h1, h2⟩, h3⟩ := hc
    exact ⟨⟨h1, List.all_eq_true.2 fun v hv => valueOk_ext (List.all_eq_true.1 h2 v hv)⟩, h3⟩
  · have e : (g ++ [(1, ByteArray.empty, 0, 0, [], [a, b], ())]).getD g.length ((0 : Int), ByteArray.empty, (0 : Int), (0 : Int), ([] : List ByteArray), ([] : List VT), ()) = (1, ByteArray.empty, 0, 0, [], [a, b], ()) := by
      rw [List.getD_eq_getElem?_getD, List.getElem?_append_right (Nat.le_refl _)]; simp
    rw [e]
    unfold cellOk
    simp only [Bool.and_eq_true]
    refine ⟨⟨?_, ?_⟩, ?_⟩
    · have : ByteArray.empty = ByteArray.mk #[] := rfl
      simp [shapeC, this]
    · simp [valueOk_ext ha, valueOk_ext hb]
    · simp [below_of ha, below_of hb]

/-- what is carried over by the reference is alike there -/
theorem p_shipL {h : List CT} (ho : heapOk h = true) (hh : SzH h) : ∀ v, valueOk h v = true → ∀ (N : Nat) (g : List CT), rank v < N → plain h v = true → heapOk g = true → g.length + (weight h v).toNat ≤ 300 →
    Ok (s_l30Ship N (h, v, g, ())) fun y => y.1.length = g.length + (weight h v).toNat ∧ (∃ ext, y.1 = g ++ ext) ∧ heapOk y.1 = true ∧ valueOk y.1 y.2.1 = true ∧ ∀ ext, heapOk (y.1 ++ ext) = true → like h (y.1 ++ ext) v y.2.1 = true := by
  refine kids_ind ho (fun v hv h5 => ?_) (fun v hv h5 i0 i1 => ?_)
  · intro N g hN hp hg hw
    obtain ⟨N, rfl⟩ : ∃ k, N = k + 1 := ⟨N - 1, by omega⟩
    rw [plain_leaf h5] at hp
    have hr : refV v = false := by simpa using hp
    unfold s_l30Ship
    dsimp only
    rw [if_pos (by simpa using h5)]
    refine Ok.some ⟨by rw [weight_not h5]; simp, ⟨[], by simp⟩, hg, valueOk_leaf hv hr, fun ext hx => ?_⟩
    show like h (g ++ ext) v v = true
    rw [like_leaf hv (valueOk_leaf hv hr) h5, hr]
    simp
  · intro N g hN hp hg hw
    obtain ⟨N, rfl⟩ : ∃ k, N = k + 1 := ⟨N - 1, by omega⟩
    obtain ⟨k1, k2, k3⟩ := pair_kids ho hv h5
    have m0 := k3 _ (getD_mem2 (d := ((0 : Int), (0 : Int), ByteArray.empty, ())) k2 (i := 0) (by omega))
    have m1 := k3 _ (getD_mem2 (d := ((0 : Int), (0 : Int), ByteArray.empty, ())) k2 (i := 1) (by omega))
    have r0 := rank_kid h5 m0.2
    have r1 := rank_kid h5 m1.2
    obtain ⟨_, _, _, hwt⟩ := pair_weight ho hv h5
    have hwt : weight h v = leastW (1 + weight h ((valsI h v.2.1).getD 0 ((0 : Int), (0 : Int), ByteArray.empty, ())) + weight h ((valsI h v.2.1).getD 1 ((0 : Int), (0 : Int), ByteArray.empty, ()))) := hwt
    have w0 := weight_range h ((valsI h v.2.1).getD 0 ((0 : Int), (0 : Int), ByteArray.empty, ()))
    have w1 := weight_range h ((valsI h v.2.1).getD 1 ((0 : Int), (0 : Int), ByteArray.empty, ()))
    have hsum1 : weight h v = 1 + weight h ((valsI h v.2.1).getD 0 ((0 : Int), (0 : Int), ByteArray.empty, ())) + weight h ((valsI h v.2.1).getD 1 ((0 : Int), (0 : Int), ByteArray.empty, ())) := by
      rw [hwt] at hw ⊢
      unfold leastW at hw ⊢
      split at hw
      · simp at hw
      · rename_i hh; rw [if_neg hh]
    rw [plain_pair ho hv h5, Bool.and_eq_true] at hp
    have hi0 : inB 0 (valsI h v.2.1).length := ⟨by omega, by omega⟩
    have hi1 : inB 1 (valsI h v.2.1).length := ⟨by omega, by omega⟩
    unfold s_l30Ship
    dsimp only
    rw [if_neg (by simpa using h5)]
    refine Ok.pos k1 (Ok.pos hi0 ?_)
    refine Ok.bind (i0 N g (by omega) hp.1 hg (by omega)) ?_
    rintro ⟨g1, a, ⟨⟩⟩ ⟨q1, ⟨x1, q2⟩, q3, q4, q5⟩
    simp only at q1 q2 q3 q4 q5
    dsimp only
    refine Ok.pos k1 (Ok.pos hi1 ?_)
    refine Ok.bind (i1 N g1 (by omega) hp.2 q3 (by omega)) ?_
    rintro ⟨g2, b, ⟨⟩⟩ ⟨p1, ⟨x2, p2⟩, p3, p4, p5⟩
    simp only at p1 p2 p3 p4 p5
    dsimp only
    refine Ok.pos (by simp; omega) (Ok.some ?_)
    have ha2 : valueOk g2 a = true := by rw [p2]; exact valueOk_ext q4
    have hidx : IntKind.wrap .i64 (((g2 ++ ([(1, ByteArray.empty, 0, 0, [], [a, b], ())] : List CT)).length : Int) - 1) = (g2.length : Int) := by
      rw [wrap_id (by rw [List.length_append, List.length_singleton]; omega) (by rw [List.length_append, List.length_singleton]; omega), List.length_append, List.length_singleton]; omega
    have hcell : (g2 ++ ([(1, ByteArray.empty, 0, 0, [], [a, b], ())] : List CT)).getD g2.length ((0 : Int), ByteArray.empty, (0 : Int), (0 : Int), ([] : List ByteArray), ([] : List VT), ()) = (1, ByteArray.empty, 0, 0, [], [a, b], ()) := by
      rw [List.getD_eq_getElem?_getD, List.getElem?_append_right (Nat.le_refl _)]; simp
    have hvo : valueOk (g2 ++ ([(1, ByteArray.empty, 0, 0, [], [a, b], ())] : List CT)) (pv g2.length) = true := pv_ok (by simp) (by rw [hcell])
    refine ⟨?_, ⟨x1 ++ (x2 ++ [(1, ByteArray.empty, 0, 0, [], [a, b], ())]), ?_⟩, ?_, ?_, fun ext hx => ?_⟩
    · show (g2 ++ _).length = _
      rw [List.length_append, List.length_singleton]; omega
    · show g2 ++ _ = _
      rw [p2, q2]; simp
    · exact heapOk_ext p3 (by omega) ha2 p4
    · show valueOk (g2 ++ _) ((5 : Int), _, ByteArray.empty, ()) = true
      rw [hidx]; exact hvo
    · show like h ((g2 ++ _) ++ ext) v ((5 : Int), _, ByteArray.empty, ()) = true
      rw [hidx]
      have hx : heapOk ((g2 ++ ([(1, ByteArray.empty, 0, 0, [], [a, b], ())] : List CT)) ++ ext) = true := hx
      have hlp := like_pair ho hx hv (valueOk_ext (ext := ext) hvo) h5 rfl
      have ev : valsI ((g2 ++ ([(1, ByteArray.empty, 0, 0, [], [a, b], ())] : List CT)) ++ ext) (pv g2.length).2.1 = [a, b] := by
        show (((g2 ++ ([(1, ByteArray.empty, 0, 0, [], [a, b], ())] : List CT)) ++ ext).getD (Int.toNat (g2.length : Int)) ((0 : Int), ByteArray.empty, (0 : Int), (0 : Int), ([] : List ByteArray), ([] : List VT), ())).2.2.2.2.2.1 = [a, b]
        rw [Int.toNat_natCast, getD_ext (by simp), hcell]
      rw [ev] at hlp
      have e1 : (g2 ++ ([(1, ByteArray.empty, 0, 0, [], [a, b], ())] : List CT)) ++ ext = g1 ++ (x2 ++ ([(1, ByteArray.empty, 0, 0, [], [a, b], ())] ++ ext)) := by rw [p2]; simp
      have e2 : (g2 ++ ([(1, ByteArray.empty, 0, 0, [], [a, b], ())] : List CT)) ++ ext = g2 ++ ([(1, ByteArray.empty, 0, 0, [], [a, b], ())] ++ ext) := by simp
      have l0 : like h ((g2 ++ ([(1, ByteArray.empty, 0, 0, [], [a, b], ())] : List CT)) ++ ext) ((valsI h v.2.1).getD 0 ((0 : Int), (0 : Int), ByteArray.empty, ())) a = true := by
        rw [e1] at hx ⊢; exact q5 _ hx
      have l1 : like h ((g2 ++ ([(1, ByteArray.empty, 0, 0, [], [a, b], ())] : List CT)) ++ ext) ((valsI h v.2.1).getD 1 ((0 : Int), (0 : Int), ByteArray.empty, ())) b = true := by
        rw [e2] at hx ⊢; exact p5 _ hx
      refine hlp.trans ?_
      show (like h _ _ a && like h _ _ b) = true
      rw [l0, l1]; rfl
end Go.Rf

namespace Go.Rf

/-- what both ships return -/
theorem p_ShipsL (N : Nat) (h g : List CT) (v : VT) (hh : SzH h) (hg : SzH g) (hv : SzV v) (hN : big < N) : Ok (s_Ship N (h, v, g, ())) fun y => (SzH y.1 ∧ SzV y.2.1 ∧ i_Ship N (h, v, g, ()) = some y) ∧ (heapOk g = false → y = ([], (0, 0, ByteArray.empty, ()), false, ())) ∧
    (heapOk g = true → y = (g, (0, 0, ByteArray.empty, ()), false, ()) ∨ y.2.2.1 = true ∧ heapOk h = true ∧ valueOk h v = true ∧ (∃ ext, y.1 = g ++ ext) ∧ heapOk y.1 = true ∧ valueOk y.1 y.2.1 = true ∧ like h y.1 v y.2.1 = true ∧ y.1.length = g.length + (weight h v).toNat) := by
  have hbig : big = 1048577 := rfl
  obtain ⟨y, ey, z1, z2, z3⟩ := p_Ships N h g v hh hg hv hN
  refine ⟨y, ey, ⟨z1, z2, z3⟩, ?_⟩
  unfold s_Ship at ey
  dsimp only at ey
  rw [e_s_HeapOk N (g, ()) hg (by omega)] at ey
  dsimp only [Option.bind_some] at ey
  cases o1 : heapOk g with
  | false =>
    rw [o1, if_pos (by simp)] at ey
    exact ⟨fun _ => (Option.some.inj ey).symm, (by intro h'; exact absurd h' (by simp))⟩
  | true =>
    refine ⟨(by intro h'; exact absurd h' (by simp)), fun _ => ?_⟩
    rw [o1, if_neg (by simp)] at ey
    obtain ⟨y', ey', rfl⟩ := p_copy N g hg hN
    rw [ey'] at ey
    dsimp only [Option.bind_some] at ey
    rw [e_s_HeapOk N (h, ()) hh (by omega)] at ey
    dsimp only [Option.bind_some] at ey
    cases o2 : heapOk h with
    | false =>
      rw [o2] at ey
      simp only [Bool.not_false, if_true, Option.bind_some] at ey
      exact .inl (Option.some.inj ey).symm
    | true =>
      rw [o2] at ey
      simp only [Bool.not_true, Bool.false_eq_true, if_false] at ey
      rw [e_s_ValueOk N (h, v, ()) hv (by omega)] at ey
      dsimp only [Option.bind_some] at ey
      cases o3 : valueOk h v with
      | false =>
        rw [o3] at ey
        simp only [Bool.not_false, if_true, Option.bind_some] at ey
        exact .inl (Option.some.inj ey).symm
      | true =>
        rw [o3] at ey
        simp only [Bool.not_true, Bool.false_eq_true, if_false, Option.bind_some] at ey
        have hr := rank_le o2 o3
        have hgl := ok_len o1
        obtain ⟨y1, e1, rfl⟩ := p_plainE N h v o2 o3 hN
        rw [e1, e_s_Weight N (h, v, ()) hh hv (by omega)] at ey
        dsimp only [Option.bind_some] at ey
        have w0 := weight_range h v
        have hwr : IntKind.wrap .i64 (300 - (g.length : Int)) = 300 - (g.length : Int) := wrap_id (by omega) (by omega)
        rw [hwr] at ey
        cases hp : plain h v with
        | false =>
          rw [hp] at ey
          simp only [Bool.not_false, if_true, Option.bind_some] at ey
          exact .inl (Option.some.inj ey).symm
        | true =>
          rw [hp] at ey
          simp only [Bool.not_true, Bool.false_eq_true, if_false, Option.bind_some] at ey
          by_cases hw : weight h v > 300 - (g.length : Int)
          · rw [if_pos (decide_eq_true hw)] at ey
            exact .inl (Option.some.inj ey).symm
          · rw [if_neg (by simpa using hw)] at ey
            obtain ⟨⟨g1, b, ⟨⟩⟩, e2, l1, l2, l3, l4, l5⟩ := p_shipL o2 hh v o3 N g (by omega) hp o1 (by omega)
            rw [e2] at ey
            dsimp only [Option.bind_some] at ey
            have ey := (Option.some.inj ey).symm
            subst ey
            refine .inr ⟨rfl, rfl, rfl, l2, l3, l4, ?_, l1⟩
            have := l5 [] (by simpa using l3)
            simpa using this

theorem ok_DrawShip (N : Nat) (d : List Int) (hd : d.length ≤ lim) (hN : big < N) : Ok (s_DrawShip N (d, ())) fun y => SzH y.1 ∧ SzV y.2.1 ∧ SzH y.2.2.1 := by
  have hbig : big = 1048577 := rfl
  have hV : ∀ {v : VT}, smV v → SzV v := fun {v} h => by unfold smV at h; unfold SzV; omega
  unfold s_DrawShip
  dsimp only
  refine Ok.bind (P := fun y => JR y.1) (by obtain ⟨r, e, j⟩ := p_new N d hd (by omega); exact ⟨_, e, j⟩) ?_
  rintro ⟨r, u⟩ j
  simp only at j
  dsimp only
  refine Ok.bind (ok_Two N r d j hd (by omega)) ?_
  rintro ⟨h, a, r2, u⟩ ⟨q1, q2, j⟩
  simp only at q1 q2 j
  dsimp only
  refine Ok.bind (P := fun y => y.1 ≤ 20) (by obtain ⟨k, e, h⟩ := p_size N d 10 hd (by decide); exact ⟨_, e, by simp only at h ⊢; omega⟩) ?_
  rintro ⟨n, u⟩ hn
  simp only at hn
  dsimp only
  refine Ok.bind (ok_heap N r2 n j (by omega) (by omega)) ?_
  rintro ⟨hp, r3, u⟩ ⟨j, hl, hh⟩
  simp only at j hl hh
  have hH : SzH hp := ⟨by omega, fun c hc => ⟨(hh c hc).1, (hh c hc).2.1, (hh c hc).2.2.1, (hh c hc).2.2.2.1, fun v hv => hV ((hh c hc).2.2.2.2 v hv)⟩⟩
  exact Ok.some ⟨q1, q2, hH⟩

theorem e_sameVals (N : Nat) (l : List VT) (hl : l.length < big) (hN : big ≤ N) : l_sameVals N (l, l, ()) = some (true, ()) := by
  have hbig : big = 1048577 := rfl
  suffices h : Ok (l_sameVals N (l, l, ())) fun y => y = (true, ()) by
    obtain ⟨y, e, rfl⟩ := h
    exact e
  unfold l_sameVals
  dsimp only
  rw [if_neg (by simp)]
  refine Ok.iter (fun s => ∃ i : Nat, s.1 = (i : Int) ∧ i ≤ l.length) (fun s => l.length - s.1.toNat) (fun r => match r with
    | .inl y => True
    | .inr z => False) ?_ ⟨0, rfl, by omega⟩ (by show l.length - Int.toNat 0 < N; omega) ?_
  · rintro ⟨i', ⟨⟩⟩ ⟨i, e1, hi⟩
    simp only at e1
    subst e1
    dsimp only
    refine Ok.ite (fun hc => ?_) (fun hc => Ok.some trivial)
    have hi' : i < l.length := by simpa using hc
    refine Ok.pos (inB_nat.2 hi') (Ok.pos (inB_nat.2 hi') ?_)
    rw [if_neg (by simp), wrap_nat (by omega)]
    exact Ok.some ⟨⟨i + 1, rfl, hi'⟩, by show l.length - (((i + 1 : Nat) : Int)).toNat < l.length - ((i : Int)).toNat; simp only [Int.toNat_natCast]; omega⟩
  · rintro (y | z) hq
    · exact Ok.some rfl
    · exact hq.elim

/-- THE LAW, WITH NO PROGRAM IN SIGHT -/
theorem l_FnShip_true (N : Nat) (x : List Int × Unit) (hx : x.1.length ≤ lim) (hN : big < N) : l_FnShip N x = some (true, ()) := by
  obtain ⟨d, u⟩ := x
  simp only at hx
  have hbig : big = 1048577 := rfl
  suffices h : Ok (l_FnShip N (d, u)) fun y => y = (true, ()) by
    obtain ⟨y, e, rfl⟩ := h
    exact e
  unfold l_FnShip
  dsimp only
  refine Ok.bind (P := fun _ => True) ?_ (fun b _ => ?_)
  · unfold l_big; exact Ok.some trivial
  refine Ok.ite (fun _ => Ok.some rfl) (fun _ => ?_)
  refine Ok.bind (ok_DrawShip N d hx hN) ?_
  rintro ⟨h, v, g, ⟨⟩⟩ ⟨q1, q2, q3⟩
  simp only at q1 q2 q3
  dsimp only
  obtain ⟨⟨x, w, is, ⟨⟩⟩, e1, ⟨z1, z2, e2⟩, hno, hyes⟩ := p_ShipsL N h g v q1 q3 q2 hN
  simp only at z1 z2
  rw [e2, e1]
  dsimp only [Option.bind_some]
  rw [if_neg (by simp)]
  simp only [decide_true, Bool.and_self, Bool.not_true, Option.bind_some, Bool.false_eq_true, if_false]
  rw [e_s_HeapOk N (g, ()) q3 (by omega)]
  dsimp only [Option.bind_some]
  cases o1 : heapOk g with
  | false =>
    rw [if_pos (by simp)]
    obtain ⟨rfl, _⟩ := Prod.mk.inj (hno o1)
    exact Ok.some (by simp)
  | true =>
    rw [if_neg (by simp)]
    have hgl := ok_len o1
    have hpre : ∃ ext, x = g ++ ext := by
      rcases hyes o1 with h' | h'
      · exact ⟨[], by rw [List.append_nil]; exact (Prod.mk.inj h').1⟩
      · exact h'.2.2.2.1
    obtain ⟨ext, hpre⟩ := hpre
    refine Ok.iter (fun s => s.1 = h ∧ s.2.1 = v ∧ s.2.2.1 = g ∧ s.2.2.2.1 = x ∧ s.2.2.2.2.1 = w ∧ ∃ i : Nat, s.2.2.2.2.2.1 = (i : Int) ∧ i ≤ g.length) (fun s => g.length - s.2.2.2.2.2.1.toNat) (fun r => match r with
      | .inl y => y = (h, v, g, x, w, ())
      | .inr z => False) ?_ ⟨rfl, rfl, rfl, rfl, rfl, 0, rfl, by omega⟩ (by show g.length - Int.toNat 0 < N; omega) ?_
    · rintro ⟨h', v', g', x', w', i', ⟨⟩⟩ ⟨r1, r2, r3, r4, r5, i, r6, hi⟩
      simp only at r1 r2 r3 r4 r5 r6
      subst r1 r2 r3 r4 r5 r6
      dsimp only
      refine Ok.ite (fun hc => ?_) (fun hc => Ok.some rfl)
      have hi' : i < g'.length := by simpa using hc
      have hx' : i < x'.length := by rw [hpre, List.length_append]; omega
      have hat : x'.getD i ((0 : Int), ByteArray.empty, (0 : Int), (0 : Int), ([] : List ByteArray), ([] : List VT), ()) = g'.getD i ((0 : Int), ByteArray.empty, (0 : Int), (0 : Int), ([] : List ByteArray), ([] : List VT), ()) := by rw [hpre]; exact getD_ext hi'
      rw [if_neg (by simp; omega)]
      refine Ok.pos (inB_nat.2 hx') (Ok.pos (inB_nat.2 hi') ?_)
      rw [Int.toNat_natCast, hat, if_neg (by simp)]
      refine Ok.pos (inB_nat.2 hx') (Ok.pos (inB_nat.2 hi') ?_)
      rw [e_sameVals N _ (SzC_at q3 i).2.2.2.1 (by omega)]
      dsimp only [Option.bind_some]
      rw [if_neg (by simp), wrap_nat (by omega)]
      exact Ok.some ⟨⟨rfl, rfl, rfl, rfl, rfl, i + 1, rfl, hi'⟩, by show g'.length - (((i + 1 : Nat) : Int)).toNat < g'.length - ((i : Int)).toNat; simp only [Int.toNat_natCast]; omega⟩
    · rintro (y | z) hq
      rotate_left
      · exact hq.elim
      simp only at hq
      subst hq
      dsimp only
      rcases hyes o1 with h' | ⟨t1, o2, o3, _, o4, o5, o6, o7⟩
      · obtain ⟨u1, h'⟩ := Prod.mk.inj h'
        obtain ⟨u2, h'⟩ := Prod.mk.inj h'
        obtain ⟨u3, _⟩ := Prod.mk.inj h'
        rw [u1, u2, u3, if_pos (by simp), if_pos (by simp)]
        exact Ok.some (by simp)
      · simp only at t1 o4 o5 o6 o7
        subst t1
        rw [if_neg (by simp), e_i_SameVal N h x v w q1 z1 q2 z2 (by omega), e_s_SameVal N h x v w q1 z1 q2 z2 (by omega), e_i_SameVal N x h w v z1 q1 z2 q2 (by omega)]
        have s1 : sameV h v x w = true := by unfold sameV; rw [o2, o4, o3, o5, o6]; rfl
        have s2 : sameV x w h v = true := by unfold sameV; rw [o2, o4, o3, o5, like_symm o4 o2 w o5 v o3, o6]; rfl
        rw [s1, s2]
        simp only [Option.bind_some, if_true]
        rw [e_s_HeapOk N (x, ()) z1 (by omega), o4]
        simp only [Option.bind_some, if_true]
        rw [e_s_Weight N (h, v, ()) q1 q2 (by omega)]
        have w0 := weight_range h v
        have hgx := ok_len o4
        simp only [Option.bind_some]
        rw [wrap_id (by omega) (by omega), if_pos (by simp; omega)]
        exact Ok.some rfl
end Go.Rf
