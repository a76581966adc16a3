/-
  A value carried over, by the reference and by the program: the same; marks stay where they are put; the plain function of FnExactShip returns true, whatever is put in within the form's bounds.
-/
import Derived.Test.YtkifpahhppbdkaaGreatDoorXLike
import Derived.Test.YtkifpahhppbdkaaGreatDoorXNat
set_option linter.unusedSimpArgs false
set_option linter.unusedVariables false
set_option autoImplicit false
namespace Go.Rf

theorem SzC_at {h : List CT} (hh : SzH h) (i : Nat) : SzC (h.getD i ((0 : Int), ByteArray.empty, (0 : Int), (0 : Int), ([] : List ByteArray), ([] : List VT), ())) := by
  by_cases hi : i < h.length
  · exact hh.2 _ (mem_getD hi)
  · rw [List.getD_eq_getElem?_getD, List.getElem?_eq_none (by omega)]
    exact ⟨(by decide : ByteArray.empty.size < big), by decide, by simp, by decide, by simp⟩

theorem take_succ_getD {α : Type} {l : List α} {d : α} {i : Nat} (hi : i < l.length) : l.take i ++ [l.getD i d] = l.take (i + 1) := by
  rw [getD_lt hi, List.take_add_one, List.getElem?_eq_getElem hi]; rfl

/-- a heap, copied -/
theorem p_copy (N : Nat) (h : List CT) (hh : SzH h) (hN : big < N) : Ok (s_l8CopyCells N (h, ())) fun y => y = (h, ()) := by
  have hbig : big = 1048577 := rfl
  have hl := hh.1
  unfold s_l8CopyCells
  dsimp only
  refine Ok.iter (fun s => ∃ i : Nat, s.2.1 = (i : Int) ∧ i ≤ h.length ∧ s.1 = h.take i) (fun s => h.length - s.2.1.toNat) (fun r => match r with
    | .inl y => y.1 = h
    | .inr z => False) ?_ ⟨0, rfl, by omega, by simp⟩ (by show h.length - Int.toNat 0 < N; omega) ?_
  · rintro ⟨t, i', ⟨⟩⟩ ⟨i, e1, hi, e2⟩
    simp only at e1 e2
    subst e1 e2
    dsimp only
    refine Ok.ite (fun hc => ?_) (fun hc => ?_)
    · have hi' : i < h.length := by simpa using hc
      rw [Int.toNat_natCast, wrap_nat (by omega)]
      obtain ⟨c1, c2, c3, c4, c5⟩ := SzC_at hh i
      refine Ok.pos (inB_nat.2 hi') (Ok.pos (by omega) (Ok.pos (by omega) (Ok.pos (by simp; omega) (Ok.some ?_))))
      refine ⟨⟨i + 1, rfl, hi', ?_⟩, by show h.length - (((i + 1 : Nat) : Int)).toNat < h.length - ((i : Int)).toNat; simp only [Int.toNat_natCast]; omega⟩
      rw [← take_succ_getD (d := ((0 : Int), ByteArray.empty, (0 : Int), (0 : Int), ([] : List ByteArray), ([] : List VT), ())) hi']
    · have hi2 : i = h.length := by
        have : ¬ (i : Int) < (h.length : Int) := by simpa using hc
        omega
      subst hi2
      exact Ok.some (by show h.take h.length = h; exact List.take_length)
  · rintro (⟨y, ⟨⟩⟩ | z) hq
    · simp only at hq
      subst hq
      exact Ok.some rfl
    · exact hq.elim

/-- whether a value is plain is told -/
theorem p_plain (N : Nat) (h : List CT) (v : VT) (ho : heapOk h = true) (hv : valueOk h v = true) (hN : big < N) : Ok (s_l30Plain N (h, v, ())) fun y => True := by
  have hbig : big = 1048577 := rfl
  have hl := ok_len ho
  unfold s_l30Plain
  dsimp only
  refine Ok.pos ⟨by omega, by omega, by omega⟩ ?_
  rw [Int.toNat_natCast]
  refine Ok.iter (fun s => s.1 = v ∧ s.2.1.length = h.length ∧ ∃ i : Nat, s.2.2.1 = (i : Int) ∧ i ≤ h.length) (fun s => h.length - s.2.2.1.toNat) (fun r => match r with
    | .inl y => y.1 = v ∧ y.2.1.length = h.length
    | .inr z => False) ?_ ⟨rfl, by simp, 0, rfl, by omega⟩ (by show h.length - Int.toNat 0 < N; omega) ?_
  · rintro ⟨v', t, i', ⟨⟩⟩ ⟨e1, e2, i, e3, hi⟩
    simp only at e1 e2 e3
    subst e1 e3
    dsimp only
    refine Ok.ite (fun hc => ?_) (fun hc => ?_)
    · have hi' : i < h.length := by simpa using hc
      have hms : h.length - (((i + 1 : Nat) : Int)).toNat < h.length - ((i : Int)).toNat := by simp only [Int.toNat_natCast]; omega
      rw [Int.toNat_natCast, wrap_nat (by omega)]
      refine Ok.pos (inB_nat.2 hi') (Ok.ite (fun hk => Ok.some ⟨⟨rfl, e2, i + 1, rfl, hi'⟩, hms⟩) (fun hk => ?_))
      have hk : (h.getD i ((0 : Int), ByteArray.empty, (0 : Int), (0 : Int), ([] : List ByteArray), ([] : List VT), ())).1 = 1 := by
        apply Classical.byContradiction
        intro hh
        apply hk
        rw [decide_eq_false hh]; rfl
      refine Ok.pos (by rw [e2]; exact inB_nat.2 hi') ?_
      have hvx := pv_ok hi' hk
      obtain ⟨_, xl, xo⟩ := pair_kids ho hvx rfl
      have ex : valsI h (pv i).2.1 = (h.getD i ((0 : Int), ByteArray.empty, (0 : Int), (0 : Int), ([] : List ByteArray), ([] : List VT), ())).2.2.2.2.2.1 := by show (h.getD (Int.toNat (i : Int)) ((0 : Int), ByteArray.empty, (0 : Int), (0 : Int), ([] : List ByteArray), ([] : List VT), ())).2.2.2.2.2.1 = _; rw [Int.toNat_natCast]
      rw [ex] at xl xo
      generalize (h.getD i ((0 : Int), ByteArray.empty, (0 : Int), (0 : Int), ([] : List ByteArray), ([] : List VT), ())).2.2.2.2.2.1 = xs at xl xo ⊢
      refine Ok.iter (fun s => s.1 = v' ∧ s.2.1.length = h.length ∧ ∃ j : Nat, s.2.2.1 = (j : Int) ∧ j ≤ 2) (fun s => 2 - s.2.2.1.toNat) (fun r => match r with
        | .inl y => y.1 = v' ∧ y.2.1.length = h.length
        | .inr z => False) ?_ ⟨rfl, by simp [e2], 0, rfl, by omega⟩ (by show 2 - Int.toNat 0 < N; omega) ?_
      · rintro ⟨v2, t2, j', ⟨⟩⟩ ⟨e1, e4, j, e3, hj⟩
        simp only at e1 e4 e3
        subst e1 e3
        dsimp only
        refine Ok.ite (fun hc => ?_) (fun hc => ?_)
        · have hj' : j < 2 := by
            have : (j : Int) < 2 := by simpa using hc
            omega
          have hms2 : 2 - (((j + 1 : Nat) : Int)).toNat < 2 - ((j : Int)).toNat := by simp only [Int.toNat_natCast]; omega
          rw [Int.toNat_natCast, wrap_nat (by omega)]
          refine Ok.pos (inB_nat.2 hi') (Ok.pos (inB_nat.2 (by omega)) (Ok.pos (by rw [e4]; exact inB_nat.2 hi') ?_))
          obtain ⟨vx, bx⟩ := xo _ (mem_getD (d := ((0 : Int), (0 : Int), ByteArray.empty, ())) (show j < xs.length by omega))
          generalize xs.getD j ((0 : Int), (0 : Int), ByteArray.empty, ()) = x at vx bx ⊢
          refine Ok.bind (P := fun _ => True) ?_ (fun b _ => Ok.pos (by rw [e4]; exact inB_nat.2 hi') (Ok.some ⟨⟨rfl, by simp [e4], j + 1, rfl, hj'⟩, hms2⟩))
          refine Ok.ite (fun _ => ?_) (fun _ => Ok.some trivial)
          rw [e_s_l6Points]
          dsimp only [Option.bind_some]
          refine Ok.bind (P := fun _ => True) ?_ (fun b _ => Ok.some trivial)
          refine Ok.ite (fun _ => Ok.some trivial) (fun _ => ?_)
          refine Ok.bind (P := fun _ => True) ?_ (fun b _ => Ok.some trivial)
          refine Ok.ite (fun h5 => ?_) (fun _ => Ok.some trivial)
          have x5 : x.1 = 5 := by simpa using h5
          obtain ⟨_, p1, p2, _⟩ := pv_of vx x5
          exact Ok.pos ⟨p1, by rw [e4]; exact p2⟩ (Ok.some trivial)
        · exact Ok.some ⟨rfl, e4⟩
      · rintro (⟨v2, t2, ⟨⟩⟩ | z) hq
        · obtain ⟨e1, e4⟩ := hq
          simp only at e1 e4
          subst e1
          exact Ok.some ⟨⟨rfl, e4, i + 1, rfl, hi'⟩, hms⟩
        · exact hq.elim
    · exact Ok.some ⟨rfl, e2⟩
  · rintro (⟨v', t, ⟨⟩⟩ | z) hq
    · obtain ⟨e1, e2⟩ := hq
      simp only at e1 e2
      subst e1
      dsimp only
      rw [e_s_l6Points]
      dsimp only [Option.bind_some]
      refine Ok.bind (P := fun _ => True) ?_ (fun b _ => Ok.some trivial)
      refine Ok.ite (fun _ => Ok.some trivial) (fun _ => ?_)
      refine Ok.bind (P := fun _ => True) ?_ (fun b _ => Ok.some trivial)
      refine Ok.ite (fun h5 => ?_) (fun _ => Ok.some trivial)
      have x5 : v'.1 = 5 := by simpa using h5
      obtain ⟨_, p1, p2, _⟩ := pv_of hv x5
      exact Ok.pos ⟨p1, by rw [e2]; exact p2⟩ (Ok.some trivial)
    · exact hq.elim

/-- a value, carried over by the reference -/
theorem p_ship {h : List CT} (ho : heapOk h = true) (hh : SzH h) : ∀ v, valueOk h v = true → SzV v → ∀ (N : Nat) (g : List CT), rank v < N → weight h v ≤ 300 → g.length ≤ 600 → SzH g → g.length + (weight h v).toNat ≤ 600 →
    Ok (s_l30Ship N (h, v, g, ())) fun y => y.1.length = g.length + (weight h v).toNat ∧ SzH y.1 ∧ SzV y.2.1 := by
  have hbig : big = 1048577 := rfl
  refine kids_ind ho (fun v hv h5 => ?_) (fun v hv h5 i0 i1 => ?_)
  · intro hs N g hN hw hg hgs _
    obtain ⟨N, rfl⟩ : ∃ k, N = k + 1 := ⟨N - 1, by omega⟩
    unfold s_l30Ship
    dsimp only
    rw [if_pos (by simpa using h5), weight_not h5]
    exact Ok.some ⟨by simp, hgs, hs⟩
  · intro hs N g hN hw hg hgs hsum
    obtain ⟨N, rfl⟩ : ∃ k, N = k + 1 := ⟨N - 1, by omega⟩
    obtain ⟨k1, k2, k3⟩ := pair_kids ho hv h5
    have m0 := k3 _ (getD_mem2 (d := ((0 : Int), (0 : Int), ByteArray.empty, ())) k2 (i := 0) (by omega))
    have m1 := k3 _ (getD_mem2 (d := ((0 : Int), (0 : Int), ByteArray.empty, ())) k2 (i := 1) (by omega))
    have r0 := rank_kid h5 m0.2
    have r1 := rank_kid h5 m1.2
    obtain ⟨_, _, _, hwt⟩ := pair_weight ho hv h5
    have hwt : weight h v = leastW (1 + weight h ((valsI h v.2.1).getD 0 ((0 : Int), (0 : Int), ByteArray.empty, ())) + weight h ((valsI h v.2.1).getD 1 ((0 : Int), (0 : Int), ByteArray.empty, ()))) := hwt
    have w0 := weight_range h ((valsI h v.2.1).getD 0 ((0 : Int), (0 : Int), ByteArray.empty, ()))
    have w1 := weight_range h ((valsI h v.2.1).getD 1 ((0 : Int), (0 : Int), ByteArray.empty, ()))
    have hsum1 : weight h v = 1 + weight h ((valsI h v.2.1).getD 0 ((0 : Int), (0 : Int), ByteArray.empty, ())) + weight h ((valsI h v.2.1).getD 1 ((0 : Int), (0 : Int), ByteArray.empty, ())) := by
      rw [hwt] at hw ⊢
      unfold leastW at hw ⊢
      split at hw
      · omega
      · rename_i hh; rw [if_neg hh]
    have hszc := SzC_at hh v.2.1.toNat
    have s0 : SzV ((valsI h v.2.1).getD 0 ((0 : Int), (0 : Int), ByteArray.empty, ())) := hszc.2.2.2.2 _ (getD_mem2 (d := ((0 : Int), (0 : Int), ByteArray.empty, ())) k2 (i := 0) (by omega))
    have s1 : SzV ((valsI h v.2.1).getD 1 ((0 : Int), (0 : Int), ByteArray.empty, ())) := hszc.2.2.2.2 _ (getD_mem2 (d := ((0 : Int), (0 : Int), ByteArray.empty, ())) k2 (i := 1) (by omega))
    have hi0 : inB 0 (valsI h v.2.1).length := ⟨by omega, by omega⟩
    have hi1 : inB 1 (valsI h v.2.1).length := ⟨by omega, by omega⟩
    unfold s_l30Ship
    dsimp only
    rw [if_neg (by simpa using h5)]
    refine Ok.pos k1 (Ok.pos hi0 ?_)
    refine Ok.bind (i0 s0 N g (by omega) (by omega) hg hgs (by omega)) ?_
    rintro ⟨g1, a, ⟨⟩⟩ ⟨q1, q2, q3⟩
    simp only at q1 q2 q3
    dsimp only
    refine Ok.pos k1 (Ok.pos hi1 ?_)
    refine Ok.bind (i1 s1 N g1 (by omega) (by omega) (by omega) q2 (by omega)) ?_
    rintro ⟨g2, b, ⟨⟩⟩ ⟨p1, p2, p3⟩
    simp only at p1 p2 p3
    dsimp only
    refine Ok.pos (by simp; omega) (Ok.some ⟨?_, ⟨?_, fun c hc => ?_⟩, (by decide : ByteArray.empty.size < big)⟩)
    · show (g2 ++ _).length = _
      rw [List.length_append, List.length_singleton, p1, q1, hsum1]; omega
    · show (g2 ++ _).length < _
      rw [List.length_append, List.length_singleton]; omega
    · rcases List.mem_append.1 hc with hc | hc
      · exact p2.2 c hc
      · rw [List.mem_singleton] at hc
        subst hc
        refine ⟨(by decide : ByteArray.empty.size < big), by simp; omega, by simp, by simp; omega, ?_⟩
        intro v hv
        simp only [List.mem_cons, List.not_mem_nil, or_false] at hv
        rcases hv with rfl | rfl
        · exact q3
        · exact p3
end Go.Rf

namespace Go.Rf

theorem p_Ship (N : Nat) (h g : List CT) (v : VT) (hh : SzH h) (hg : SzH g) (hv : SzV v) (hN : big < N) : Ok (s_Ship N (h, v, g, ())) fun y => SzH y.1 ∧ SzV y.2.1 := by
  have hbig : big = 1048577 := rfl
  have hz : SzV ((0 : Int), (0 : Int), ByteArray.empty, ()) := (by decide : ByteArray.empty.size < big)
  unfold s_Ship
  dsimp only
  rw [e_s_HeapOk N (g, ()) hg (by omega)]
  dsimp only [Option.bind_some]
  refine Ok.ite (fun _ => Ok.some ⟨⟨by simp; omega, by simp⟩, hz⟩) (fun og => ?_)
  have og : heapOk g = true := by simpa using og
  have hlg := ok_len og
  refine Ok.bind (p_copy N g hg hN) ?_
  rintro _ rfl
  dsimp only
  rw [e_s_HeapOk N (h, ()) hh (by omega)]
  dsimp only [Option.bind_some]
  cases oh : heapOk h with
  | false =>
    rw [if_pos (by simp)]
    simp only [Option.bind_some, if_true]
    exact Ok.some ⟨hg, hz⟩
  | true =>
    rw [if_neg (by simp), e_s_ValueOk N (h, v, ()) hv (by omega)]
    dsimp only [Option.bind_some]
    cases ov : valueOk h v with
    | false =>
      simp only [Bool.not_false, if_true, Option.bind_some]
      exact Ok.some ⟨hg, hz⟩
    | true =>
      rw [if_neg (by simp)]
      obtain ⟨p, hp, _⟩ := p_plain N h v oh ov hN
      rw [hp]
      simp only [Option.bind_some]
      refine Ok.bind (P := fun b => b = false → weight h v ≤ 300 - (g.length : Int)) ?_ (fun b hb => ?_)
      · refine Ok.ite (fun _ => Ok.some (fun h => by cases h)) (fun _ => ?_)
        rw [e_s_Weight N (h, v, ()) hh hv (by omega)]
        dsimp only [Option.bind_some]
        refine Ok.some (fun hb => ?_)
        rw [wrap_id (by omega) (by omega)] at hb
        have := of_decide_eq_false hb
        omega
      · refine Ok.ite (fun _ => Ok.some ⟨hg, hz⟩) (fun hb2 => ?_)
        have hw := hb (by simpa using hb2)
        have hr := weight_range h v
        have hrk := rank_le oh ov
        refine Ok.bind (p_ship oh hh v ov hv N g (by omega) (by omega) (by omega) hg (by omega)) ?_
        rintro ⟨g2, w, ⟨⟩⟩ ⟨_, q2, q3⟩
        exact Ok.some ⟨q2, q3⟩

theorem ok_Two (N : Nat) (r : RT) (d : List Int) (j : JR r) (hd : d.length ≤ lim) (hN : 5000 < N) : Ok (s_l30Two N (r, d, ())) fun y => SzH y.1 ∧ SzV y.2.1 ∧ JR y.2.2.1 := by
  have hbig : big = 1048577 := rfl
  have hV : ∀ {v : VT}, smV v → SzV v := fun {v} h => by unfold smV at h; unfold SzV; omega
  unfold s_l30Two
  dsimp only
  refine Ok.bind (P := fun y => y.1 ≤ 20) (by obtain ⟨k, e, h⟩ := p_size N d 20 hd (by decide); exact ⟨_, e, h⟩) ?_
  rintro ⟨n, u⟩ hn
  simp only at hn
  dsimp only
  refine Ok.bind (ok_heap N r n j (by omega) (by omega)) ?_
  rintro ⟨hp, r2, u⟩ ⟨j, hl, hh⟩
  simp only at j hl hh
  have hH : SzH hp := ⟨by omega, fun c hc => ⟨(hh c hc).1, (hh c hc).2.1, (hh c hc).2.2.1, (hh c hc).2.2.2.1, fun v hv => hV ((hh c hc).2.2.2.2 v hv)⟩⟩
  dsimp only
  refine Ok.bind (ok_once N r2 8 j) ?_
  rintro ⟨b, r3, u⟩ j
  simp only at j
  dsimp only
  refine Ok.ite (fun hc => ?_) (fun hc => ?_)
  · refine Ok.bind (ok_below N r3 10 j) ?_
    rintro ⟨k, r4, u⟩ ⟨j4, k1, k2, _⟩
    have k2 := k2 (by decide)
    simp only at k1 k2 j4
    dsimp only
    refine Ok.iter (J := fun s => JR s.1 ∧ 0 ≤ s.2.2.2.1 ∧ (s.2.2.1.length : Int) + s.2.2.2.1 ≤ 30 ∧ smH s.2.2.1) (m := fun s => s.2.2.2.1.toNat) (Q := fun o => match o with | .inl s => JR s.1 ∧ s.2.2.1.length ≤ 30 ∧ smH s.2.2.1 | .inr _ => False) ?_ ?_ ?_ ?_
    · rintro ⟨r5, v, hp, k, u⟩ ⟨g1, g2, g3, g4⟩
      simp only at g1 g2 g3 g4
      dsimp only
      refine Ok.ite (fun hc => ?_) (fun hc => ?_)
      · have hk : 0 < k := by simpa using hc
        refine Ok.pos (by rw [List.length_singleton]; omega) (Ok.some ⟨⟨g1, ?_, ?_, smH_app g4 (smC_new (by decide) (by simp) (by simp) (by simp) ?_)⟩, ?_⟩)
        · dsimp only; rw [wrap_id (n := k - 1) (by omega) (by omega)]; omega
        · dsimp only; rw [wrap_id (n := k - 1) (by omega) (by omega), List.length_append, List.length_singleton]; omega
        · intro v hv
          simp only [List.mem_cons, List.not_mem_nil, or_false] at hv
          rcases hv with rfl | rfl <;> exact (by decide : ByteArray.empty.size ≤ 50)
        · dsimp only; rw [wrap_id (n := k - 1) (by omega) (by omega)]; omega
      · refine Ok.some ⟨g1, ?_, g4⟩
        simp at hc; dsimp only; omega
    · refine ⟨j4, ?_, ?_, ?_⟩
      · dsimp only; rw [wrap_id (n := 6 + k) (by omega) (by omega)]; omega
      · dsimp only; rw [wrap_id (n := 6 + k) (by omega) (by omega), List.length_singleton]; omega
      · intro c hc
        rw [List.mem_singleton] at hc
        subst hc
        refine smC_new (by decide) (by simp) (by simp) (by simp) ?_
        intro v hv
        simp only [List.mem_cons, List.not_mem_nil, or_false] at hv
        rcases hv with rfl | rfl <;> exact (by decide : ByteArray.empty.size ≤ 50)
    · dsimp only; rw [wrap_id (n := 6 + k) (by omega) (by omega)]; omega
    · rintro (⟨r5, v, hp, u⟩ | z) hq
      rotate_left
      · exact hq.elim
      obtain ⟨j5, hl, hh⟩ := hq
      simp only at hl hh j5
      refine Ok.some ⟨⟨by dsimp only; omega, fun c hc => ?_⟩, (by decide : ByteArray.empty.size < big), j5⟩
      obtain ⟨a1, a2, a3, a4, a5⟩ := hh c hc
      exact ⟨by omega, by omega, fun s hs => by have := a3 s hs; omega, by omega, fun v hv => hV (a5 v hv)⟩
  · refine Ok.bind (ok_anyVal N r3 hp j) ?_
    rintro ⟨v, r4, u⟩ ⟨j4, hv⟩
    exact Ok.some ⟨hH, hV hv, j4⟩

theorem ok_DrawSameVal (N : Nat) (d : List Int) (hd : d.length ≤ lim) (hN : big < N) : Ok (s_DrawSameVal N (d, ())) fun y => SzH y.1 ∧ SzV y.2.1 ∧ SzH y.2.2.1 ∧ SzV y.2.2.2.1 := by
  have hbig : big = 1048577 := rfl
  unfold s_DrawSameVal
  dsimp only
  refine Ok.bind (P := fun y => JR y.1) (by obtain ⟨r, e, j⟩ := p_new N d hd (by omega); exact ⟨_, e, j⟩) ?_
  rintro ⟨r, u⟩ j
  simp only at j
  dsimp only
  refine Ok.bind (ok_Two N r d j hd (by omega)) ?_
  rintro ⟨h, a, r2, u⟩ ⟨q1, q2, j⟩
  simp only at q1 q2 j
  dsimp only
  refine Ok.bind (ok_Two N r2 d j hd (by omega)) ?_
  rintro ⟨g, b, r3, u⟩ ⟨p1, p2, j⟩
  simp only at p1 p2 j
  dsimp only
  refine Ok.bind (ok_once N r3 2 j) ?_
  rintro ⟨c, r4, u⟩ j
  dsimp only
  refine Ok.ite (fun _ => ?_) (fun _ => Ok.some ⟨q1, q2, p1, p2⟩)
  refine Ok.bind (p_Ship N h g a q1 p1 q2 hN) ?_
  rintro ⟨x, v, is, u⟩ ⟨t1, t2⟩
  simp only at t1 t2
  dsimp only
  refine Ok.ite (fun _ => Ok.some ⟨q1, q2, t1, t2⟩) (fun _ => Ok.some ⟨q1, q2, q1, q2⟩)

/-- THE LAW, WITH NO PROGRAM IN SIGHT -/
theorem l_FnAlike_true (N : Nat) (x : List Int × Unit) (hx : x.1.length ≤ lim) (hN : big < N) : l_FnAlike N x = some (true, ()) := by
  obtain ⟨d, u⟩ := x
  simp only at hx
  have hbig : big = 1048577 := rfl
  suffices h : Ok (l_FnAlike N (d, u)) fun y => y = (true, ()) by
    obtain ⟨y, e, rfl⟩ := h
    exact e
  unfold l_FnAlike
  dsimp only
  refine Ok.bind (P := fun _ => True) ?_ (fun b _ => ?_)
  · unfold l_big; exact Ok.some trivial
  refine Ok.ite (fun _ => Ok.some rfl) (fun _ => ?_)
  refine Ok.bind (ok_DrawSameVal N d hx hN) ?_
  rintro ⟨h, a, g, b, u⟩ ⟨q1, q2, q3, q4⟩
  simp only at q1 q2 q3 q4
  dsimp only
  rw [e_i_SameVal N h g a b q1 q3 q2 q4 (by omega), e_s_SameVal N h g a b q1 q3 q2 q4 (by omega), e_i_SameVal N g h b a q3 q1 q4 q2 (by omega)]
  dsimp only [Option.bind_some]
  have hsym : sameV h a g b = sameV g b h a := by
    unfold sameV
    cases o1 : heapOk h <;> cases o2 : heapOk g <;> cases o3 : valueOk h a <;> cases o4 : valueOk g b <;> simp
    exact like_symm o1 o2 a o3 b o4
  rw [if_neg (by simp)]
  simp only [hsym, decide_true, Bool.not_true, Option.bind_some, Bool.false_eq_true, if_false]
  rw [e_s_HeapOk N (h, ()) q1 (by omega)]
  dsimp only [Option.bind_some]
  refine Ok.bind (P := fun b9 => b9 = true → heapOk h = true ∧ valueOk h a = true) ?_ (fun b9 hb9 => ?_)
  · refine Ok.ite (fun o1 => ?_) (fun _ => Ok.some (fun h => by cases h))
    rw [e_s_ValueOk N (h, a, ()) q2 (by omega)]
    exact Ok.some (fun o3 => ⟨o1, o3⟩)
  refine Ok.bind (P := fun b11 => b11 = false) ?_ (fun b11 hb11 => ?_)
  · refine Ok.ite (fun o9 => ?_) (fun _ => Ok.some rfl)
    obtain ⟨o1, o3⟩ := hb9 o9
    rw [e_i_SameVal N h h a a q1 q1 q2 q2 (by omega)]
    refine Ok.some ?_
    simp [sameV, o1, o3, like_refl o1 a o3]
  subst hb11
  rw [if_neg (by simp)]
  refine Ok.ite (fun _ => Ok.some rfl) (fun his => ?_)
  have his : sameV g b h a = true := by simpa using his
  rw [← hsym] at his
  unfold sameV at his
  simp only [Bool.and_eq_true] at his
  obtain ⟨⟨⟨⟨o1, o2⟩, o3⟩, o4⟩, hl⟩ := his
  rw [e_s_Weight N (h, a, ()) q1 q2 (by omega), e_s_Weight N (g, b, ()) q3 q4 (by omega)]
  dsimp only [Option.bind_some]
  refine Ok.some ?_
  rw [like_weight o1 o2 a o3 b o4 hl]
  simp
end Go.Rf

namespace Go.Rf

/-! ## What may be carried over -/
def plainN (h : List CT) : Nat → VT → Bool
  | 0, _ => false
  | n + 1, v => if v.1 = 5 then plainN h n ((valsI h v.2.1).getD 0 ((0 : Int), (0 : Int), ByteArray.empty, ())) && plainN h n ((valsI h v.2.1).getD 1 ((0 : Int), (0 : Int), ByteArray.empty, ())) else !refV v
def plain (h : List CT) (v : VT) : Bool := plainN h 400 v

theorem plainN_step (h : List CT) (n : Nat) (v : VT) : plainN h (n + 1) v = if v.1 = 5 then plainN h n ((valsI h v.2.1).getD 0 ((0 : Int), (0 : Int), ByteArray.empty, ())) && plainN h n ((valsI h v.2.1).getD 1 ((0 : Int), (0 : Int), ByteArray.empty, ())) else !refV v := rfl

theorem plainN_two {h : List CT} (ho : heapOk h = true) : ∀ v, valueOk h v = true → ∀ n m, rank v < n → rank v < m → plainN h n v = plainN h m v := by
  refine kids_ind ho (fun v hv h5 n m hn hm => ?_) (fun v hv h5 i0 i1 n m hn hm => ?_)
  · obtain ⟨n, rfl⟩ : ∃ k, n = k + 1 := ⟨n - 1, by omega⟩
    obtain ⟨m, rfl⟩ : ∃ k, m = k + 1 := ⟨m - 1, by omega⟩
    rw [plainN_step, plainN_step, if_neg h5, if_neg h5]
  · obtain ⟨n, rfl⟩ : ∃ k, n = k + 1 := ⟨n - 1, by omega⟩
    obtain ⟨m, rfl⟩ : ∃ k, m = k + 1 := ⟨m - 1, by omega⟩
    obtain ⟨k1, k2, k3⟩ := pair_kids ho hv h5
    have r0 := rank_kid h5 (k3 _ (getD_mem2 (d := ((0 : Int), (0 : Int), ByteArray.empty, ())) k2 (i := 0) (by omega))).2
    have r1 := rank_kid h5 (k3 _ (getD_mem2 (d := ((0 : Int), (0 : Int), ByteArray.empty, ())) k2 (i := 1) (by omega))).2
    rw [plainN_step, plainN_step, if_pos h5, if_pos h5, i0 n m (by omega) (by omega), i1 n m (by omega) (by omega)]

theorem plain_leaf {h : List CT} {v : VT} (h5 : ¬ v.1 = 5) : plain h v = !refV v := by
  unfold plain; rw [plainN_step, if_neg h5]
theorem plain_pair {h : List CT} {v : VT} (ho : heapOk h = true) (hv : valueOk h v = true) (h5 : v.1 = 5) : plain h v = (plain h ((valsI h v.2.1).getD 0 ((0 : Int), (0 : Int), ByteArray.empty, ())) && plain h ((valsI h v.2.1).getD 1 ((0 : Int), (0 : Int), ByteArray.empty, ()))) := by
  obtain ⟨k1, k2, k3⟩ := pair_kids ho hv h5
  have m0 := k3 _ (getD_mem2 (d := ((0 : Int), (0 : Int), ByteArray.empty, ())) k2 (i := 0) (by omega))
  have m1 := k3 _ (getD_mem2 (d := ((0 : Int), (0 : Int), ByteArray.empty, ())) k2 (i := 1) (by omega))
  have r0 := rank_kid h5 m0.2
  have r1 := rank_kid h5 m1.2
  have hr := rank_le ho hv
  have e : plain h v = plainN h (399 + 1) v := rfl
  rw [e, plainN_step, if_pos h5, plainN_two ho _ m0.1 399 400 (by omega) (by omega), plainN_two ho _ m1.1 399 400 (by omega) (by omega)]
  rfl

/-- the table of pairs that are plain, filled up to a place -/
structure Pb (h : List CT) (i : Nat) (t : List Bool) : Prop where
  len : t.length = h.length
  at_ : ∀ k, k < i → k < h.length → (h.getD k ((0 : Int), ByteArray.empty, (0 : Int), (0 : Int), ([] : List ByteArray), ([] : List VT), ())).1 = 1 → t.getD k false = plain h (pv k)

def allP (h : List CT) (xs : List VT) (j : Nat) : Bool := (List.range j).all fun k => plain h (xs.getD k ((0 : Int), (0 : Int), ByteArray.empty, ()))
theorem allP_succ {h : List CT} {xs : List VT} {j : Nat} : allP h xs (j + 1) = (allP h xs j && plain h (xs.getD j ((0 : Int), (0 : Int), ByteArray.empty, ()))) := by
  unfold allP; rw [List.range_succ, List.all_append]; simp

theorem at_pb {h : List CT} {i : Nat} {t : List Bool} (ht : Pb h i t) {x : VT} (hx : valueOk h x = true) (x5 : x.1 = 5) (hlt : x.2.1 < (i : Int)) : inB x.2.1 t.length ∧ t.getD (Int.toNat x.2.1) false = plain h x := by
  obtain ⟨e1, p1, p2, p3⟩ := pv_of hx x5
  refine ⟨⟨p1, by rw [ht.len]; exact p2⟩, ?_⟩
  rw [ht.at_ _ (by omega) (by omega) p3, ← e1]

theorem p_plainE (N : Nat) (h : List CT) (v : VT) (ho : heapOk h = true) (hv : valueOk h v = true) (hN : big < N) : Ok (s_l30Plain N (h, v, ())) fun y => y = (plain h v, ()) := by
  have hbig : big = 1048577 := rfl
  have hl := ok_len ho
  unfold s_l30Plain
  dsimp only
  refine Ok.pos ⟨by omega, by omega, by omega⟩ ?_
  rw [Int.toNat_natCast]
  refine Ok.iter (fun s => s.1 = v ∧ ∃ i : Nat, s.2.2.1 = (i : Int) ∧ i ≤ h.length ∧ Pb h i s.2.1) (fun s => h.length - s.2.2.1.toNat) (fun r => match r with
    | .inl y => y.1 = v ∧ Pb h h.length y.2.1
    | .inr z => False) ?_ ⟨rfl, 0, rfl, by omega, ⟨by simp, fun k hk => by omega⟩⟩ (by show h.length - Int.toNat 0 < N; omega) ?_
  · rintro ⟨v', t, i', ⟨⟩⟩ ⟨e1, i, e3, hi, e2⟩
    simp only at e1 e2 e3
    subst e1 e3
    dsimp only
    refine Ok.ite (fun hc => ?_) (fun hc => ?_)
    · have hi' : i < h.length := by simpa using hc
      have hms : h.length - (((i + 1 : Nat) : Int)).toNat < h.length - ((i : Int)).toNat := by simp only [Int.toNat_natCast]; omega
      rw [Int.toNat_natCast, wrap_nat (by omega)]
      refine Ok.pos (inB_nat.2 hi') (Ok.ite (fun hk => ?_) (fun hk => ?_))
      · refine Ok.some ⟨⟨rfl, i + 1, rfl, hi', ⟨e2.len, fun k hk1 hk2 hk3 => ?_⟩⟩, hms⟩
        rcases Nat.lt_succ_iff_lt_or_eq.1 hk1 with q | rfl
        · exact e2.at_ k q hk2 hk3
        · have hk3 : (h.getD k (0, (ByteArray.empty, (0, (0, ([], ([], ()))))))).1 = 1 := hk3
          rw [hk3] at hk; simp at hk
      have hk : (h.getD i ((0 : Int), ByteArray.empty, (0 : Int), (0 : Int), ([] : List ByteArray), ([] : List VT), ())).1 = 1 := by
        apply Classical.byContradiction
        intro hh
        apply hk
        rw [decide_eq_false hh]; rfl
      refine Ok.pos (by rw [e2.len]; exact inB_nat.2 hi') ?_
      have hvx := pv_ok hi' hk
      obtain ⟨_, xl, xo⟩ := pair_kids ho hvx rfl
      have hpp := plain_pair ho hvx rfl
      have ex : valsI h (pv i).2.1 = (h.getD i ((0 : Int), ByteArray.empty, (0 : Int), (0 : Int), ([] : List ByteArray), ([] : List VT), ())).2.2.2.2.2.1 := by show (h.getD (Int.toNat (i : Int)) ((0 : Int), ByteArray.empty, (0 : Int), (0 : Int), ([] : List ByteArray), ([] : List VT), ())).2.2.2.2.2.1 = _; rw [Int.toNat_natCast]
      rw [ex] at xl xo hpp
      generalize (h.getD i ((0 : Int), ByteArray.empty, (0 : Int), (0 : Int), ([] : List ByteArray), ([] : List VT), ())).2.2.2.2.2.1 = xs at xl xo hpp ⊢
      refine Ok.iter (fun s => s.1 = v' ∧ ∃ j : Nat, s.2.2.1 = (j : Int) ∧ j ≤ 2 ∧ Pb h i s.2.1 ∧ s.2.1.getD i false = allP h xs j) (fun s => 2 - s.2.2.1.toNat) (fun r => match r with
        | .inl y => y.1 = v' ∧ Pb h (i + 1) y.2.1
        | .inr z => False) ?_ ⟨rfl, 0, rfl, by omega, ⟨by simp [e2.len], fun k hk1 hk2 hk3 => ?_⟩, ?_⟩ (by show 2 - Int.toNat 0 < N; omega) ?_
      · rintro ⟨v2, t2, j', ⟨⟩⟩ ⟨e1, j, e3, hj, e4, e5⟩
        simp only at e1 e4 e3 e5
        subst e1 e3
        dsimp only
        refine Ok.ite (fun hc => ?_) (fun hc => ?_)
        · have hj' : j < 2 := by
            have : (j : Int) < 2 := by simpa using hc
            omega
          have hms2 : 2 - (((j + 1 : Nat) : Int)).toNat < 2 - ((j : Int)).toNat := by simp only [Int.toNat_natCast]; omega
          rw [Int.toNat_natCast, wrap_nat (by omega)]
          refine Ok.pos (inB_nat.2 hi') (Ok.pos (inB_nat.2 (by omega)) (Ok.pos (by rw [e4.len]; exact inB_nat.2 hi') ?_))
          obtain ⟨vx, bx⟩ := xo _ (mem_getD (d := ((0 : Int), (0 : Int), ByteArray.empty, ())) (show j < xs.length by omega))
          have hnext := allP_succ (h := h) (xs := xs) (j := j)
          rw [← e5] at hnext
          generalize xs.getD j ((0 : Int), (0 : Int), ByteArray.empty, ()) = x at vx bx hnext ⊢
          have hset : ∀ b, b = allP h xs (j + 1) → Pb h i (t2.set i b) ∧ (t2.set i b).getD i false = allP h xs (j + 1) := by
            intro b hb
            refine ⟨⟨by simp [e4.len], fun k k1 k2 k3 => ?_⟩, ?_⟩
            · rw [List.getD_eq_getElem?_getD, List.getElem?_set_ne (by omega), ← List.getD_eq_getElem?_getD]
              exact e4.at_ k k1 k2 k3
            · rw [List.getD_eq_getElem?_getD, List.getElem?_set_self (by rw [e4.len]; exact hi')]
              exact hb
          refine Ok.bind (P := fun b => b = allP h xs (j + 1)) ?_ (fun b hb => Ok.pos (by rw [e4.len]; exact inB_nat.2 hi') (Ok.some ⟨⟨rfl, j + 1, rfl, hj', hset b hb⟩, hms2⟩))
          cases hti : t2.getD i false with
          | false =>
            rw [if_neg (by simp)]
            refine Ok.some ?_
            rw [hnext, hti]; rfl
          | true =>
            rw [if_pos rfl, e_s_l6Points]
            dsimp only [Option.bind_some]
            rw [hti] at hnext
            rw [hnext]
            simp only [Bool.true_and]
            cases hr : refV x with
            | false =>
              have x5 : ¬ x.1 = 5 := by intro e; simp [refV, e] at hr
              rw [plain_leaf x5, hr]
              exact Ok.some rfl
            | true =>
              simp only [Bool.not_true, Bool.false_eq_true, if_false]
              by_cases x5 : x.1 = 5
              · obtain ⟨p1, p2⟩ := at_pb e4 vx x5 (by have := (bx x5).2; simpa [pv] using this)
                rw [if_pos (decide_eq_true x5), if_pos p1, p2]
                exact Ok.some rfl
              · rw [if_neg (by simpa using x5), plain_leaf x5, hr]
                exact Ok.some rfl
        · have hj2 : j = 2 := by
            have : ¬ (j : Int) < 2 := by simpa using hc
            omega
          subst hj2
          refine Ok.some ⟨rfl, ⟨e4.len, fun k k1 k2 k3 => ?_⟩⟩
          rcases Nat.lt_succ_iff_lt_or_eq.1 k1 with q | rfl
          · exact e4.at_ k q k2 k3
          · show t2.getD k false = _
            rw [e5, hpp]
            simp [allP, List.range_succ]
      · show (t.set i true).getD k false = _
        rw [List.getD_eq_getElem?_getD, List.getElem?_set_ne (by omega), ← List.getD_eq_getElem?_getD]
        exact e2.at_ k hk1 hk2 hk3
      · show (t.set i true).getD i false = _
        rw [List.getD_eq_getElem?_getD, List.getElem?_set_self (by rw [e2.len]; exact hi')]
        rfl
      · rintro (⟨v2, t2, ⟨⟩⟩ | z) hq
        · obtain ⟨e1, e4⟩ := hq
          simp only at e1 e4
          subst e1
          exact Ok.some ⟨⟨rfl, i + 1, rfl, hi', e4⟩, hms⟩
        · exact hq.elim
    · have hi2 : i = h.length := by
        have : ¬ (i : Int) < (h.length : Int) := by simpa using hc
        omega
      subst hi2
      exact Ok.some ⟨rfl, e2⟩
  · rintro (⟨v', t, ⟨⟩⟩ | z) hq
    · obtain ⟨e1, e2⟩ := hq
      simp only at e1 e2
      subst e1
      dsimp only
      rw [e_s_l6Points]
      dsimp only [Option.bind_some]
      cases hr : refV v' with
      | false =>
        have x5 : ¬ v'.1 = 5 := by intro e; simp [refV, e] at hr
        rw [plain_leaf x5, hr]
        exact Ok.some rfl
      | true =>
        simp only [Bool.not_true, Bool.false_eq_true, if_false]
        by_cases x5 : v'.1 = 5
        · obtain ⟨_, q1, q2, _⟩ := pv_of hv x5
          obtain ⟨p1, p2⟩ := at_pb e2 hv x5 q2
          rw [if_pos (decide_eq_true x5), if_pos p1, p2]
          exact Ok.some rfl
        · rw [if_neg (by simpa using x5), plain_leaf x5, hr]
          exact Ok.some rfl
    · exact hq.elim
end Go.Rf

namespace Go.Rf

def fits (h : List CT) (v : VT) (n : Nat) : Bool := plain h v && decide (n + (weight h v).toNat ≤ 300)

/-- a value, carried over by the program: as the reference does, or it says that it can't -/
theorem p_iship {h : List CT} (ho : heapOk h = true) (hh : SzH h) : ∀ v, valueOk h v = true → SzV v → ∀ (N : Nat) (g : List CT), rank v < N → g.length ≤ 300 → SzH g →
    Ok (i_ship N (h, v, g, ())) fun y => if fits h v g.length = true then y.2.1 = true ∧ y.2.2.1.length = g.length + (weight h v).toNat ∧ SzH y.2.2.1 ∧ SzV y.1 ∧ ∀ M, rank v < M → s_l30Ship M (h, v, g, ()) = some (y.2.2.1, y.1, ()) else y.2.1 = false := by
  have hbig : big = 1048577 := rfl
  refine kids_ind ho (fun v hv h5 => ?_) (fun v hv h5 i0 i1 => ?_)
  · intro hs N g hN hg hgs
    obtain ⟨N, rfl⟩ : ∃ k, N = k + 1 := ⟨N - 1, by omega⟩
    have hfit : fits h v g.length = !refV v := by
      unfold fits
      rw [plain_leaf h5, weight_not h5]
      have : decide (g.length + Int.toNat 0 ≤ 300) = true := by simp; omega
      rw [this, Bool.and_true]
    rw [hfit]
    unfold i_ship
    dsimp only
    by_cases h6 : v.1 = 6
    · have hr : refV v = true := by simp [refV, h6]
      rw [if_pos (decide_eq_true h6), hr]
      dsimp only [Option.bind_some]
      rw [if_pos (decide_eq_true h6)]
      exact Ok.some (by simp)
    · rw [if_neg (by simpa using h6)]
      dsimp only [Option.bind_some]
      by_cases h7 : v.1 = 7
      · have hr : refV v = true := by simp [refV, h7]
        rw [if_pos (decide_eq_true h7), hr]
        exact Ok.some (by simp)
      · have hr : refV v = false := by
          simp only [refV, Bool.and_eq_false_iff, decide_eq_false_iff_not]
          omega
        rw [if_neg (by simpa using h7), if_neg (by simpa using h5), hr]
        refine Ok.some ?_
        simp only [Bool.not_false, if_true]
        refine ⟨trivial, by rw [weight_not h5]; simp, hgs, hs, fun M hM => ?_⟩
        obtain ⟨M, rfl⟩ : ∃ k, M = k + 1 := ⟨M - 1, by omega⟩
        unfold s_l30Ship
        dsimp only
        rw [if_pos (by simpa using h5)]
  · intro hs N g hN hg hgs
    obtain ⟨N, rfl⟩ : ∃ k, N = k + 1 := ⟨N - 1, by omega⟩
    obtain ⟨k1, k2, k3⟩ := pair_kids ho hv h5
    have m0 := k3 _ (getD_mem2 (d := ((0 : Int), (0 : Int), ByteArray.empty, ())) k2 (i := 0) (by omega))
    have m1 := k3 _ (getD_mem2 (d := ((0 : Int), (0 : Int), ByteArray.empty, ())) k2 (i := 1) (by omega))
    have r0 := rank_kid h5 m0.2
    have r1 := rank_kid h5 m1.2
    obtain ⟨_, _, _, hwt⟩ := pair_weight ho hv h5
    have hwt : weight h v = leastW (1 + weight h ((valsI h v.2.1).getD 0 ((0 : Int), (0 : Int), ByteArray.empty, ())) + weight h ((valsI h v.2.1).getD 1 ((0 : Int), (0 : Int), ByteArray.empty, ()))) := hwt
    have hpl := plain_pair ho hv h5
    have w0 := weight_range h ((valsI h v.2.1).getD 0 ((0 : Int), (0 : Int), ByteArray.empty, ()))
    have w1 := weight_range h ((valsI h v.2.1).getD 1 ((0 : Int), (0 : Int), ByteArray.empty, ()))
    have hszc := SzC_at hh v.2.1.toNat
    have s0 : SzV ((valsI h v.2.1).getD 0 ((0 : Int), (0 : Int), ByteArray.empty, ())) := hszc.2.2.2.2 _ (getD_mem2 (d := ((0 : Int), (0 : Int), ByteArray.empty, ())) k2 (i := 0) (by omega))
    have s1 : SzV ((valsI h v.2.1).getD 1 ((0 : Int), (0 : Int), ByteArray.empty, ())) := hszc.2.2.2.2 _ (getD_mem2 (d := ((0 : Int), (0 : Int), ByteArray.empty, ())) k2 (i := 1) (by omega))
    have hi0 : inB 0 (valsI h v.2.1).length := ⟨by omega, by omega⟩
    have hi1 : inB 1 (valsI h v.2.1).length := ⟨by omega, by omega⟩
    have hsum : (weight h v).toNat ≤ 300 → weight h v = 1 + weight h ((valsI h v.2.1).getD 0 ((0 : Int), (0 : Int), ByteArray.empty, ())) + weight h ((valsI h v.2.1).getD 1 ((0 : Int), (0 : Int), ByteArray.empty, ())) := by
      intro hle
      rw [hwt] at hle ⊢
      unfold leastW at hle ⊢
      split at hle
      · simp at hle
      · rename_i hh; rw [if_neg hh]
    have hsum2 : weight h ((valsI h v.2.1).getD 0 ((0 : Int), (0 : Int), ByteArray.empty, ())) + weight h ((valsI h v.2.1).getD 1 ((0 : Int), (0 : Int), ByteArray.empty, ())) + 1 ≤ 300 → weight h v = 1 + weight h ((valsI h v.2.1).getD 0 ((0 : Int), (0 : Int), ByteArray.empty, ())) + weight h ((valsI h v.2.1).getD 1 ((0 : Int), (0 : Int), ByteArray.empty, ())) := by
      intro hle
      rw [hwt]
      unfold leastW
      rw [if_neg (by omega)]
    have hship : ∀ M (g1 g2 : List CT) (a b : VT), rank v < M → s_l30Ship (M - 1) (h, (valsI h v.2.1).getD 0 ((0 : Int), (0 : Int), ByteArray.empty, ()), g, ()) = some (g1, a, ()) → s_l30Ship (M - 1) (h, (valsI h v.2.1).getD 1 ((0 : Int), (0 : Int), ByteArray.empty, ()), g1, ()) = some (g2, b, ()) → g2.length < 4294967296 →
        s_l30Ship M (h, v, g, ()) = some (g2 ++ [(1, ByteArray.empty, 0, 0, [], [a, b], ())], (5, IntKind.wrap .i64 (((g2 ++ ([(1, ByteArray.empty, 0, 0, [], [a, b], ())] : List CT)).length : Int) - 1), ByteArray.empty, ()), ()) := by
      intro M g1 g2 a b hM e0 e1 hlt
      obtain ⟨M, rfl⟩ : ∃ k, M = k + 1 := ⟨M - 1, by omega⟩
      rw [Nat.add_sub_cancel] at e0 e1
      unfold s_l30Ship
      dsimp only
      rw [if_neg (by simpa using h5), if_pos k1]
      have hi0' : inB 0 (List.length (List.getD h (Int.toNat v.2.1) (0, (ByteArray.empty, (0, (0, ([], ([], ()))))))).2.2.2.2.2.1) := hi0
      have hi1' : inB 1 (List.length (List.getD h (Int.toNat v.2.1) (0, (ByteArray.empty, (0, (0, ([], ([], ()))))))).2.2.2.2.2.1) := hi1
      have e0' : s_l30Ship M (h, List.getD (List.getD h (Int.toNat v.2.1) (0, (ByteArray.empty, (0, (0, ([], ([], ()))))))).2.2.2.2.2.1 (Int.toNat 0) (0, (0, (ByteArray.empty, ()))), g, ()) = some (g1, a, ()) := e0
      have e1' : s_l30Ship M (h, List.getD (List.getD h (Int.toNat v.2.1) (0, (ByteArray.empty, (0, (0, ([], ([], ()))))))).2.2.2.2.2.1 (Int.toNat 1) (0, (0, (ByteArray.empty, ()))), g1, ()) = some (g2, b, ()) := e1
      rw [if_pos hi0', e0']
      dsimp only [Option.bind_some]
      rw [if_pos k1, if_pos hi1', e1']
      dsimp only [Option.bind_some]
      rw [if_pos (by simp; omega)]
    unfold i_ship
    dsimp only
    rw [if_neg (by simp [h5])]
    dsimp only [Option.bind_some]
    rw [if_neg (by simp [h5]), if_pos (decide_eq_true h5)]
    refine Ok.pos k1 (Ok.pos hi0 ?_)
    refine Ok.bind (i0 s0 N g (by omega) hg hgs) ?_
    rintro ⟨a, ok0, g1, ⟨⟩⟩ q
    dsimp only at q ⊢
    split at q
    rotate_left
    · -- the first part does not go
      rename_i hf0
      subst q
      rw [if_pos (by simp)]
      refine Ok.some ?_
      rw [if_neg]
      intro hf
      apply hf0
      unfold fits at hf ⊢
      rw [Bool.and_eq_true, decide_eq_true_eq, hpl, Bool.and_eq_true] at hf
      obtain ⟨⟨p0, p1⟩, hle⟩ := hf
      have := hsum (by omega)
      rw [p0, Bool.true_and, decide_eq_true_eq]
      omega
    rename_i hf0
    obtain ⟨rfl, l1, z1, y1, e1⟩ := q
    have hf0' := hf0
    unfold fits at hf0'
    rw [Bool.and_eq_true, decide_eq_true_eq] at hf0'
    rw [if_neg (by simp)]
    refine Ok.pos k1 (Ok.pos hi1 ?_)
    refine Ok.bind (i1 s1 N g1 (by omega) (by omega) z1) ?_
    rintro ⟨b, ok1, g2, ⟨⟩⟩ q
    dsimp only at q ⊢
    split at q
    rotate_left
    · rename_i hf1
      subst q
      rw [if_pos (by simp)]
      refine Ok.some ?_
      rw [if_neg]
      intro hf
      apply hf1
      unfold fits at hf ⊢
      rw [Bool.and_eq_true, decide_eq_true_eq, hpl, Bool.and_eq_true] at hf
      obtain ⟨⟨p0, p1⟩, hle⟩ := hf
      have := hsum (by omega)
      rw [p1, Bool.true_and, decide_eq_true_eq]
      omega
    rename_i hf1
    obtain ⟨rfl, l2, z2, y2, e2⟩ := q
    have hf1' := hf1
    unfold fits at hf1'
    rw [Bool.and_eq_true, decide_eq_true_eq] at hf1'
    rw [if_neg (by simp)]
    unfold i_alloc
    dsimp only
    by_cases hfull : g2.length ≥ 300
    · rw [if_pos (by simp; omega)]
      dsimp only [Option.bind_some]
      refine Ok.some ?_
      rw [if_neg]
      · simp
      intro hf
      unfold fits at hf
      rw [Bool.and_eq_true, decide_eq_true_eq] at hf
      have := hsum (by omega)
      omega
    · rw [if_neg (by simp; omega), if_pos (by simp; omega)]
      dsimp only [Option.bind_some]
      have hsum3 := hsum2 (by omega)
      refine Ok.some ?_
      have hfit : fits h v g.length = true := by
        unfold fits
        rw [hpl, hf0'.1, hf1'.1]
        simp
        omega
      rw [if_pos hfit]
      refine ⟨by simp, ?_, ⟨?_, fun c hc => ?_⟩, (by decide : ByteArray.empty.size < big), fun M hM => hship M g1 g2 a b hM (e1 _ (by omega)) (e2 _ (by omega)) (by omega)⟩
      · show (g2 ++ _).length = _
        rw [List.length_append, List.length_singleton]; omega
      · show (g2 ++ _).length < _
        rw [List.length_append, List.length_singleton]; omega
      · rcases List.mem_append.1 hc with hc | hc
        · exact z2.2 c hc
        · rw [List.mem_singleton] at hc
          subst hc
          refine ⟨(by decide : ByteArray.empty.size < big), by simp; omega, by simp, by simp; omega, ?_⟩
          intro v hv
          simp only [List.mem_cons, List.not_mem_nil, or_false] at hv
          rcases hv with rfl | rfl
          · exact y1
          · exact y2

theorem e_i_copyHeap (N : Nat) (h : List CT) (hh : SzH h) : i_copyHeap N (h, ()) = some (h, ()) := by
  have hbig : big = 1048577 := rfl
  unfold i_copyHeap
  rw [if_pos]
  refine ⟨by have := hh.1; simp only; omega, List.all_eq_true.2 fun c hc => ?_⟩
  obtain ⟨c1, c2, c3, c4, c5⟩ := hh.2 c hc
  rw [Bool.and_eq_true, decide_eq_true_eq, decide_eq_true_eq]
  omega

/-- both ships are alike -/
theorem p_Ships (N : Nat) (h g : List CT) (v : VT) (hh : SzH h) (hg : SzH g) (hv : SzV v) (hN : big < N) : Ok (s_Ship N (h, v, g, ())) fun y => SzH y.1 ∧ SzV y.2.1 ∧ i_Ship N (h, v, g, ()) = some y := by
  have hbig : big = 1048577 := rfl
  have hze : SzV (0, 0, ByteArray.empty, ()) := (by decide : ByteArray.empty.size < big)
  have hz0 : SzH [] := ⟨by simp [hbig], by simp⟩
  unfold s_Ship i_Ship
  dsimp only
  rw [e_s_HeapOk N (g, ()) hg (by omega), e_i_HeapOk N (g, ()) hg (by omega)]
  dsimp only [Option.bind_some]
  cases o1 : heapOk g with
  | false =>
    rw [if_pos (by simp)]
    exact Ok.some ⟨hz0, hze, by simp⟩
  | true =>
    rw [if_neg (by simp), if_neg (by simp)]
    obtain ⟨y, ey, rfl⟩ := p_copy N g hg hN
    rw [ey, e_i_copyHeap N g hg]
    dsimp only [Option.bind_some]
    rw [e_s_HeapOk N (h, ()) hh (by omega), e_i_HeapOk N (h, ()) hh (by omega)]
    dsimp only [Option.bind_some]
    cases o2 : heapOk h with
    | false =>
      simp only [Bool.not_false, if_true, Option.bind_some]
      exact Ok.some ⟨hg, hze, rfl⟩
    | true =>
      simp only [Bool.not_true, Bool.false_eq_true, if_false]
      rw [e_s_ValueOk N (h, v, ()) hv (by omega), e_i_ValueOk N (h, v, ()) hv hh.1 (by omega)]
      dsimp only [Option.bind_some]
      cases o3 : valueOk h v with
      | false =>
        simp only [Bool.not_false, if_true, Option.bind_some]
        exact Ok.some ⟨hg, hze, rfl⟩
      | true =>
        simp only [Bool.not_true, Bool.false_eq_true, if_false, Option.bind_some]
        have hr := rank_le o2 o3
        have hgl := ok_len o1
        obtain ⟨y1, e1, rfl⟩ := p_plainE N h v o2 o3 hN
        rw [e1, e_s_Weight N (h, v, ()) hh hv (by omega)]
        dsimp only [Option.bind_some]
        have w0 := weight_range h v
        have hwr : IntKind.wrap .i64 (300 - (g.length : Int)) = 300 - (g.length : Int) := wrap_id (by omega) (by omega)
        rw [hwr]
        obtain ⟨⟨b, ok, g1, ⟨⟩⟩, e2, q⟩ := p_iship o2 hh v o3 hv N g (by omega) hgl hg
        rw [e2]
        dsimp only [Option.bind_some]
        dsimp only at q
        cases hp : plain h v with
        | false =>
          rw [if_neg (by unfold fits; rw [hp]; simp)] at q
          subst q
          simp only [Bool.not_false, if_true, Option.bind_some]
          exact Ok.some ⟨hg, hze, rfl⟩
        | true =>
          simp only [Bool.not_true, Bool.false_eq_true, if_false, Option.bind_some]
          by_cases hw : g.length + (weight h v).toNat ≤ 300
          · rw [if_pos (by unfold fits; rw [hp]; simpa using hw)] at q
            obtain ⟨rfl, q1, q2, q3, q4⟩ := q
            rw [if_neg (by simp; omega), q4 N (by omega)]
            dsimp only [Option.bind_some]
            rw [if_neg (by simp)]
            exact Ok.some ⟨q2, q3, rfl⟩
          · rw [if_neg (by unfold fits; rw [hp]; simpa using hw)] at q
            subst q
            rw [if_pos (by simp; omega)]
            simp only [Bool.not_false, if_true]
            exact Ok.some ⟨hg, hze, rfl⟩
end Go.Rf

namespace Go.Rf

/-! ## Marks: everything in a value numbered on -/
def mkL {α : Type} (mk : Int → α → α) (st : α → Int) : Int → List α → List α
  | _, [] => []
  | m, x :: xs => mk m x :: mkL mk st (m + st x) xs
def sumL {α : Type} (st : α → Int) : List α → Int
  | [] => 0
  | x :: xs => st x + sumL st xs

theorem mkL_length {α : Type} {mk : Int → α → α} {st : α → Int} : ∀ (l : List α) (m : Int), (mkL mk st m l).length = l.length := by
  intro l
  induction l with
  | nil => intro m; rfl
  | cons x l ih => intro m; simp [mkL, ih]
theorem sumL_nonneg {α : Type} {st : α → Int} (h : ∀ x, 0 ≤ st x) : ∀ l : List α, 0 ≤ sumL st l := by
  intro l
  induction l with
  | nil => simp [sumL]
  | cons x l ih => have := h x; simp only [sumL]; omega
theorem sumL_le {α : Type} {st : α → Int} {k : Int} {P : α → Prop} (h : ∀ x, P x → st x ≤ k) : ∀ l : List α, (∀ x ∈ l, P x) → sumL st l ≤ k * l.length := by
  intro l
  induction l with
  | nil => intro _; simp [sumL]
  | cons x l ih =>
    intro hl
    have h1 := h x (hl x (by simp))
    have h2 := ih (fun y hy => hl y (by simp [hy]))
    simp only [sumL, List.length_cons]
    have e : k * ((l.length + 1 : Nat) : Int) = k * (l.length : Int) + k := by
      rw [show ((l.length + 1 : Nat) : Int) = (l.length : Int) + 1 by omega, Int.mul_add, Int.mul_one]
    omega

theorem loop_marks {α C : Type} {f : List α × Int × Int × Unit → Option (Step (List α × Int × Int × Unit) (List α × Int × Unit) C)} {mk : Int → α → α} {st : α → Int} (h0 : ∀ x, 0 ≤ st x) {P : α → Prop} {B : Int}
    (hstep : ∀ pre x post m, P x → pre.length + post.length < big → 0 < m → m + st x ≤ B → f (pre ++ x :: post, m, (pre.length : Int), ()) = some (.more (pre ++ mk m x :: post, m + st x, ((pre.length + 1 : Nat) : Int), ())))
    (hdone : ∀ l m, f (l, m, (l.length : Int), ()) = some (.done (l, m, ()))) : ∀ (l pre : List α) (m : Int) (N : Nat), (∀ x ∈ l, P x) → pre.length + l.length < big → 0 < m → m + sumL st l ≤ B → l.length < N →
      iter f N (pre ++ l, m, (pre.length : Int), ()) = some (.inl (pre ++ mkL mk st m l, m + sumL st l, ())) := by
  intro l
  induction l with
  | nil =>
    intro pre m N _ _ _ _ hN
    obtain ⟨N, rfl⟩ : ∃ k, N = k + 1 := ⟨N - 1, by simp at hN; omega⟩
    simp only [List.append_nil, iter, hdone, mkL, sumL, Int.add_zero]
  | cons x l ih =>
    intro pre m N hP hlen hm hB hN
    obtain ⟨N, rfl⟩ : ∃ k, N = k + 1 := ⟨N - 1, by simp at hN; omega⟩
    simp only [sumL] at hB
    simp only [List.length_cons] at hlen hN
    have hs := sumL_nonneg h0 l
    have hx := h0 x
    simp only [iter]
    rw [hstep pre x l m (hP x (by simp)) (by omega) hm (by omega)]
    simp only
    have := ih (pre ++ [mk m x]) (m + st x) N (fun y hy => hP y (by simp [hy])) (by simp; omega) (by omega) (by omega) (by omega)
    simp only [List.append_assoc, List.singleton_append, List.length_append, List.length_singleton] at this
    rw [this]
    simp only [mkL, sumL]
    rw [Int.add_assoc]

theorem loop_held {α C : Type} {t : List α} {f : Int × Int × Unit → Option (Step (Int × Int × Unit) (Int × Unit) C)} {mk : Int → α → α} {st : α → Int} (h0 : ∀ x, 0 ≤ st x) {P : α → Prop} {B : Int}
    (hstep : ∀ pre x post m, t = pre ++ mk m x :: post → P x → pre.length + post.length < big → 0 < m → m + st x ≤ B → f (m, (pre.length : Int), ()) = some (.more (m + st x, ((pre.length + 1 : Nat) : Int), ())))
    (hdone : ∀ m, f (m, (t.length : Int), ()) = some (.done (m, ()))) : ∀ (l pre : List α) (m : Int) (N : Nat), t = pre ++ mkL mk st m l → (∀ x ∈ l, P x) → pre.length + l.length < big → 0 < m → m + sumL st l ≤ B → l.length < N →
      iter f N (m, (pre.length : Int), ()) = some (.inl (m + sumL st l, ())) := by
  intro l
  induction l with
  | nil =>
    intro pre m N ht _ _ _ _ hN
    obtain ⟨N, rfl⟩ : ∃ k, N = k + 1 := ⟨N - 1, by simp at hN; omega⟩
    have e : pre.length = t.length := by rw [ht]; simp [mkL]
    simp only [iter, e, hdone, sumL, Int.add_zero]
  | cons x l ih =>
    intro pre m N ht hP hlen hm hB hN
    obtain ⟨N, rfl⟩ : ∃ k, N = k + 1 := ⟨N - 1, by simp at hN; omega⟩
    simp only [sumL] at hB
    simp only [List.length_cons] at hlen hN
    have hs := sumL_nonneg h0 l
    have hx := h0 x
    simp only [iter]
    rw [hstep pre x (mkL mk st (m + st x) l) m ht (hP x (by simp)) (by rw [mkL_length]; omega) hm (by omega)]
    simp only
    have := ih (pre ++ [mk m x]) (m + st x) N (by rw [ht]; simp [mkL]) (fun y hy => hP y (by simp [hy])) (by simp; omega) (by omega) (by omega) (by omega)
    simp only [List.length_append, List.length_singleton] at this
    rw [this]
    simp only [sumL]
    rw [Int.add_assoc]

def capB : Int := 1152921504606846976

theorem p_markText (N : Nat) (m : Int) (hm : 0 < m) (hB : m ≤ capB) (hN : lim < N) : Ok (l_markText N (m, ())) fun _ => True := by
  have hlim : lim = 9223372036854775807 := rfl
  have hcap : capB = 1152921504606846976 := rfl
  unfold l_markText
  dsimp only
  rw [if_neg (by simpa using hm)]
  refine Ok.iter (fun s => 0 ≤ s.1 ∧ (s.2.1.size : Int) + s.1 ≤ capB) (fun s => s.1.toNat) (fun r => match r with
    | .inl y => (y.1.size : Int) ≤ capB
    | .inr z => True) ?_ ⟨by omega, by show ((ByteArray.mk #[]).size : Int) + m ≤ capB; simp [ByteArray.size]; omega⟩ (by show m.toNat < N; omega) ?_
  · rintro ⟨n, s, ⟨⟩⟩ ⟨j1, j2⟩
    simp only at j1 j2
    dsimp only
    have hsz : (ofBytes [IntKind.wrap .u8 (IntKind.wrap .i64 (48 + Int.tmod n 10))]).size = 1 := by simp [ofBytes, ByteArray.size]
    refine Ok.ite (fun hc => ?_) (fun hc => ?_)
    · have hc : 0 < n := by simpa using hc
      have hd : IntKind.wrap .i64 (Int.tdiv n 10) = n / 10 := by
        rw [Int.tdiv_eq_ediv_of_nonneg j1]; exact wrap_id (by omega) (by omega)
      refine Ok.pos (by rw [hsz]; omega) (Ok.some ⟨⟨?_, ?_⟩, ?_⟩)
      · show 0 ≤ IntKind.wrap .i64 (Int.tdiv n 10)
        rw [hd]; omega
      · show (((_ ++ s : ByteArray).size : Nat) : Int) + IntKind.wrap .i64 (Int.tdiv n 10) ≤ capB
        rw [hd, ByteArray.size_append, hsz]; omega
      · show (IntKind.wrap .i64 (Int.tdiv n 10)).toNat < n.toNat
        rw [hd]; omega
    · exact Ok.some (by show (s.size : Int) ≤ capB; omega)
  · rintro (⟨s, ⟨⟩⟩ | z) hq
    · simp only at hq
      dsimp only
      refine Ok.pos ?_ (Ok.some trivial)
      have : (ByteArray.mk #[109]).size = 1 := rfl
      omega
    · exact Ok.some trivial

def txt (N : Nat) (m : Int) : ByteArray := ((l_markText N (m, ())).map (·.1)).getD ByteArray.empty
theorem e_markText {N : Nat} {m : Int} (hm : 0 < m) (hB : m ≤ capB) (hN : lim < N) : l_markText N (m, ()) = some (txt N m, ()) := by
  obtain ⟨⟨s, ⟨⟩⟩, e, _⟩ := p_markText N m hm hB hN
  unfold txt
  rw [e]; rfl

theorem getD_mid {α : Type} {pre post : List α} {x d : α} : (pre ++ x :: post).getD (Int.toNat (pre.length : Int)) d = x := by
  rw [Int.toNat_natCast, List.getD_eq_getElem?_getD, List.getElem?_append_right (by omega)]; simp
theorem set_mid {α : Type} {pre post : List α} {x y : α} : (pre ++ x :: post).set (Int.toNat (pre.length : Int)) y = pre ++ y :: post := by
  rw [Int.toNat_natCast, List.set_append_right _ _ (by omega)]; simp
theorem inB_mid {α : Type} {pre post : List α} {x : α} : inB (pre.length : Int) (pre ++ x :: post).length := inB_nat.2 (by simp)
theorem lt_mid {α : Type} {pre post : List α} {x : α} : decide ((pre.length : Int) < ((pre ++ x :: post).length : Int)) = true := by simp; omega
theorem wrap_mid {n : Nat} {k : Nat} (h : n + k < big) : IntKind.wrap .i64 ((n : Int) + 1) = ((n + 1 : Nat) : Int) := by
  have : big = 1048577 := rfl
  exact wrap_nat (by omega)
theorem wrap_cap {m : Int} (h0 : 0 ≤ m) (h1 : m ≤ capB + 10) : IntKind.wrap .i64 m = m := by
  have : capB = 1152921504606846976 := rfl
  exact wrap_id (by omega) (by omega)

section
variable {N : Nat} (hN : lim < N)
include hN

def mS (N : Nat) (m : Int) (_ : ByteArray) : ByteArray := txt N m
def mV (N : Nat) (m : Int) (v : VT) : VT := (m, m + 1, txt N (m + 1 + 1), v.2.2.2)

theorem e_markStringS (l : List ByteArray) (m : Int) (hm : 0 < m) (hB : m + sumL (fun _ => 1) l ≤ capB) (hl : l.length < big) : l_markStringS N (l, m, ()) = some (m + sumL (fun _ => 1) l, mkL (mS N) (fun _ => 1) m l, ()) := by
  have hlim : lim = 9223372036854775807 := rfl
  have hbig : big = 1048577 := rfl
  unfold l_markStringS
  dsimp only
  have := loop_marks (C := Int × List ByteArray × Unit) (f := fun s1 => (if (decide (s1.2.2.1 < (List.length s1.1 : Int))) = true then
      (l_markText N (s1.2.1, ())).bind fun r2 =>
      (if inB s1.2.2.1 (List.length s1.1) then
      ((some (List.set s1.1 (Int.toNat s1.2.2.1) r2.1) : Option (List (ByteArray)))).bind fun a3 =>
      some (Step.more (a3, IntKind.wrap .i64 (s1.2.1 + 1), IntKind.wrap .i64 (s1.2.2.1 + 1), ())) else none) else
      some (Step.done (s1.1, s1.2.1, ())))) (mk := mS N) (st := fun _ => 1) (fun _ => by omega) (P := fun _ => True) (B := capB)
    (fun pre x post m _ hlen hm hB => by
      dsimp only
      rw [if_pos lt_mid, e_markText hm (by omega) hN]
      dsimp only [Option.bind_some]
      rw [if_pos inB_mid, set_mid, wrap_mid hlen, wrap_cap (by omega) (by omega)]
      rfl)
    (fun l m => by dsimp only; rw [if_neg (by simp)]) l [] m N (fun _ _ => trivial) (by simpa using hl) hm hB (by omega)
  simp only [List.nil_append, List.length_nil] at this
  have e0 : ((0 : Nat) : Int) = 0 := rfl
  rw [e0] at this
  rw [this]
  rfl

theorem e_heldStringS (l : List ByteArray) (m : Int) (hm : 0 < m) (hB : m + sumL (fun _ => 1) l ≤ capB) (hl : l.length < big) : l_heldStringS N (mkL (mS N) (fun _ => 1) m l, m, ()) = some (m + sumL (fun _ => 1) l, ()) := by
  have hlim : lim = 9223372036854775807 := rfl
  have hbig : big = 1048577 := rfl
  unfold l_heldStringS
  dsimp only
  generalize ht : mkL (mS N) (fun _ => 1) m l = t
  have := loop_held (C := Int × Unit) (t := t) (f := fun s1 => (if (decide (s1.2.1 < (List.length t : Int))) = true then
      (if inB s1.2.1 (List.length t) then
      (l_markText N (s1.1, ())).bind fun r2 =>
      (if (!decide ((List.getD t (Int.toNat s1.2.1) ByteArray.empty) = r2.1)) = true then
      some (Step.ret ((-1), ())) else
      some (Step.more (IntKind.wrap .i64 (s1.1 + 1), IntKind.wrap .i64 (s1.2.1 + 1), ()))) else none) else
      some (Step.done (s1.1, ())))) (mk := mS N) (st := fun _ => 1) (fun _ => by omega) (P := fun _ => True) (B := capB)
    (fun pre x post m e _ hlen hm hB => by
      subst e
      dsimp only
      rw [if_pos lt_mid, if_pos inB_mid, e_markText hm (by omega) hN]
      dsimp only [Option.bind_some]
      rw [getD_mid, if_neg (by simp [mS]), wrap_mid hlen, wrap_cap (by omega) (by omega)])
    (fun m => by dsimp only; rw [if_neg (by simp)]) l [] m N (by simp [ht]) (fun _ _ => trivial) (by simpa using hl) hm hB (by omega)
  simp only [List.length_nil] at this
  have e0 : ((0 : Nat) : Int) = 0 := rfl
  rw [e0] at this
  rw [this]
  rfl

theorem e_markValueS (l : List VT) (m : Int) (hm : 0 < m) (hB : m + sumL (fun _ => 3) l ≤ capB) (hl : l.length < big) : l_markValueS N (l, m, ()) = some (m + sumL (fun _ => 3) l, mkL (mV N) (fun _ => 3) m l, ()) := by
  have hlim : lim = 9223372036854775807 := rfl
  have hbig : big = 1048577 := rfl
  unfold l_markValueS
  dsimp only
  have := loop_marks (C := Int × List VT × Unit) (f := fun s1 => (if (decide (s1.2.2.1 < (List.length s1.1 : Int))) = true then
      (if inB s1.2.2.1 (List.length s1.1) then
      ((some (List.set s1.1 (Int.toNat s1.2.2.1) (s1.2.1, (List.getD s1.1 (Int.toNat s1.2.2.1) (0, (0, (ByteArray.empty, ())))).2)) : Option (List (Int × Int × ByteArray × Unit)))).bind fun a2 =>
      (if inB s1.2.2.1 (List.length a2) then
      ((some (List.set a2 (Int.toNat s1.2.2.1) ((List.getD a2 (Int.toNat s1.2.2.1) (0, (0, (ByteArray.empty, ())))).1, (IntKind.wrap .i64 (s1.2.1 + 1), ((List.getD a2 (Int.toNat s1.2.2.1) (0, (0, (ByteArray.empty, ())))).2).2))) : Option (List (Int × Int × ByteArray × Unit)))).bind fun a3 =>
      (l_markText N (IntKind.wrap .i64 ((IntKind.wrap .i64 (s1.2.1 + 1)) + 1), ())).bind fun r4 =>
      (if inB s1.2.2.1 (List.length a3) then
      ((some (List.set a3 (Int.toNat s1.2.2.1) ((List.getD a3 (Int.toNat s1.2.2.1) (0, (0, (ByteArray.empty, ())))).1, (((List.getD a3 (Int.toNat s1.2.2.1) (0, (0, (ByteArray.empty, ())))).2).1, (r4.1, (((List.getD a3 (Int.toNat s1.2.2.1) (0, (0, (ByteArray.empty, ())))).2).2).2)))) : Option (List (Int × Int × ByteArray × Unit)))).bind fun a5 =>
      some (Step.more (a5, IntKind.wrap .i64 ((IntKind.wrap .i64 ((IntKind.wrap .i64 (s1.2.1 + 1)) + 1)) + 1), IntKind.wrap .i64 (s1.2.2.1 + 1), ())) else none) else none) else none) else
      some (Step.done (s1.1, s1.2.1, ())))) (mk := mV N) (st := fun _ => 3) (fun _ => by omega) (P := fun _ => True) (B := capB)
    (fun pre x post m _ hlen hm hB => by
      dsimp only
      rw [if_pos lt_mid, if_pos inB_mid, getD_mid, set_mid]
      dsimp only [Option.bind_some]
      rw [if_pos inB_mid, getD_mid, set_mid]
      dsimp only [Option.bind_some]
      rw [wrap_cap (m := m + 1) (by omega) (by omega), wrap_cap (m := m + 1 + 1) (by omega) (by omega), wrap_cap (m := m + 1 + 1 + 1) (by omega) (by omega), e_markText (by omega) (by omega) hN]
      dsimp only [Option.bind_some]
      rw [if_pos inB_mid, getD_mid, set_mid]
      dsimp only [Option.bind_some]
      rw [wrap_mid hlen]
      have e3 : m + 1 + 1 + 1 = m + 3 := by omega
      rw [e3]
      rfl)
    (fun l m => by dsimp only; rw [if_neg (by simp)]) l [] m N (fun _ _ => trivial) (by simpa using hl) hm hB (by omega)
  simp only [List.nil_append, List.length_nil] at this
  have e0 : ((0 : Nat) : Int) = 0 := rfl
  rw [e0] at this
  rw [this]
  rfl

theorem e_heldValueS (l : List VT) (m : Int) (hm : 0 < m) (hB : m + sumL (fun _ => 3) l ≤ capB) (hl : l.length < big) : l_heldValueS N (mkL (mV N) (fun _ => 3) m l, m, ()) = some (m + sumL (fun _ => 3) l, ()) := by
  have hlim : lim = 9223372036854775807 := rfl
  have hbig : big = 1048577 := rfl
  unfold l_heldValueS
  dsimp only
  generalize ht : mkL (mV N) (fun _ => 3) m l = t
  have := loop_held (C := Int × Unit) (t := t) (f := fun s1 => (if (decide (s1.2.1 < (List.length t : Int))) = true then
      (if inB s1.2.1 (List.length t) then
      (if (!decide (((List.getD t (Int.toNat s1.2.1) (0, (0, (ByteArray.empty, ())))).1) = s1.1)) = true then
      some (Step.ret ((-1), ())) else
      (if inB s1.2.1 (List.length t) then
      (if (!decide ((((List.getD t (Int.toNat s1.2.1) (0, (0, (ByteArray.empty, ())))).2).1) = (IntKind.wrap .i64 (s1.1 + 1)))) = true then
      some (Step.ret ((-1), ())) else
      (if inB s1.2.1 (List.length t) then
      (l_markText N (IntKind.wrap .i64 ((IntKind.wrap .i64 (s1.1 + 1)) + 1), ())).bind fun r2 =>
      (if (!decide (((((List.getD t (Int.toNat s1.2.1) (0, (0, (ByteArray.empty, ())))).2).2).1) = r2.1)) = true then
      some (Step.ret ((-1), ())) else
      some (Step.more (IntKind.wrap .i64 ((IntKind.wrap .i64 ((IntKind.wrap .i64 (s1.1 + 1)) + 1)) + 1), IntKind.wrap .i64 (s1.2.1 + 1), ()))) else none)) else none)) else none) else
      some (Step.done (s1.1, ())))) (mk := mV N) (st := fun _ => 3) (fun _ => by omega) (P := fun _ => True) (B := capB)
    (fun pre x post m e _ hlen hm hB => by
      subst e
      dsimp only
      rw [if_pos lt_mid, if_pos inB_mid, getD_mid, if_neg (by simp [mV]), if_pos inB_mid, wrap_cap (m := m + 1) (by omega) (by omega), if_neg (by simp [mV]), if_pos inB_mid, wrap_cap (m := m + 1 + 1) (by omega) (by omega), wrap_cap (m := m + 1 + 1 + 1) (by omega) (by omega), e_markText (by omega) (by omega) hN]
      dsimp only [Option.bind_some]
      rw [if_neg (by simp [mV]), wrap_mid hlen]
      have e3 : m + 1 + 1 + 1 = m + 3 := by omega
      rw [e3])
    (fun m => by dsimp only; rw [if_neg (by simp)]) l [] m N (by simp [ht]) (fun _ _ => trivial) (by simpa using hl) hm hB (by omega)
  simp only [List.length_nil] at this
  have e0 : ((0 : Nat) : Int) = 0 := rfl
  rw [e0] at this
  rw [this]
  rfl
end
end Go.Rf

namespace Go.Rf

def stW (c : CT) : Int := 4 + sumL (fun _ => (1 : Int)) c.2.2.2.2.1 + sumL (fun _ => (3 : Int)) c.2.2.2.2.2.1
def mC (N : Nat) (m : Int) (c : CT) : CT := (m, txt N (m + 1), m + 1 + 1, m + 1 + 1 + 1, mkL (mS N) (fun _ => 1) (m + 4) c.2.2.2.2.1, mkL (mV N) (fun _ => 3) (m + 4 + sumL (fun _ => 1) c.2.2.2.2.1) c.2.2.2.2.2.1, ())

theorem stW_nonneg (c : CT) : 0 ≤ stW c := by
  have h1 : 0 ≤ sumL (fun _ => (1 : Int)) c.2.2.2.2.1 := sumL_nonneg (fun _ => by omega) _
  have h2 : 0 ≤ sumL (fun _ => (3 : Int)) c.2.2.2.2.2.1 := sumL_nonneg (fun _ => by omega) _
  unfold stW; omega

section
variable {N : Nat} (hN : lim < N)
include hN

theorem e_markCellS (l : List CT) (m : Int) (hh : SzH l) (hm : 0 < m) (hB : m + sumL stW l ≤ capB) : l_markCellS N (l, m, ()) = some (m + sumL stW l, mkL (mC N) stW m l, ()) := by
  have hlim : lim = 9223372036854775807 := rfl
  have hbig : big = 1048577 := rfl
  unfold l_markCellS
  dsimp only
  have := loop_marks (α := CT) (C := Int × List CT × Unit) (f := fun s1 =>
(if (decide (s1.2.2.1 < (List.length s1.1 : Int))) = true then
(if inB s1.2.2.1 (List.length s1.1) then
((some (List.set s1.1 (Int.toNat s1.2.2.1) (s1.2.1, (List.getD s1.1 (Int.toNat s1.2.2.1) (0, (ByteArray.empty, (0, (0, ([], ([], ()))))))).2)) : Option (List (Int × ByteArray × Int × Int × List (ByteArray) × List (Int × Int × ByteArray × Unit) × Unit)))).bind fun a2 =>
(l_markText N (IntKind.wrap .i64 (s1.2.1 + 1), ())).bind fun r3 =>
(if inB s1.2.2.1 (List.length a2) then
((some (List.set a2 (Int.toNat s1.2.2.1) ((List.getD a2 (Int.toNat s1.2.2.1) (0, (ByteArray.empty, (0, (0, ([], ([], ()))))))).1, (r3.1, ((List.getD a2 (Int.toNat s1.2.2.1) (0, (ByteArray.empty, (0, (0, ([], ([], ()))))))).2).2))) : Option (List (Int × ByteArray × Int × Int × List (ByteArray) × List (Int × Int × ByteArray × Unit) × Unit)))).bind fun a4 =>
(if inB s1.2.2.1 (List.length a4) then
((some (List.set a4 (Int.toNat s1.2.2.1) ((List.getD a4 (Int.toNat s1.2.2.1) (0, (ByteArray.empty, (0, (0, ([], ([], ()))))))).1, (((List.getD a4 (Int.toNat s1.2.2.1) (0, (ByteArray.empty, (0, (0, ([], ([], ()))))))).2).1, (IntKind.wrap .i64 ((IntKind.wrap .i64 (s1.2.1 + 1)) + 1), (((List.getD a4 (Int.toNat s1.2.2.1) (0, (ByteArray.empty, (0, (0, ([], ([], ()))))))).2).2).2)))) : Option (List (Int × ByteArray × Int × Int × List (ByteArray) × List (Int × Int × ByteArray × Unit) × Unit)))).bind fun a5 =>
(if inB s1.2.2.1 (List.length a5) then
((some (List.set a5 (Int.toNat s1.2.2.1) ((List.getD a5 (Int.toNat s1.2.2.1) (0, (ByteArray.empty, (0, (0, ([], ([], ()))))))).1, (((List.getD a5 (Int.toNat s1.2.2.1) (0, (ByteArray.empty, (0, (0, ([], ([], ()))))))).2).1, ((((List.getD a5 (Int.toNat s1.2.2.1) (0, (ByteArray.empty, (0, (0, ([], ([], ()))))))).2).2).1, (IntKind.wrap .i64 ((IntKind.wrap .i64 ((IntKind.wrap .i64 (s1.2.1 + 1)) + 1)) + 1), ((((List.getD a5 (Int.toNat s1.2.2.1) (0, (ByteArray.empty, (0, (0, ([], ([], ()))))))).2).2).2).2))))) : Option (List (Int × ByteArray × Int × Int × List (ByteArray) × List (Int × Int × ByteArray × Unit) × Unit)))).bind fun a6 =>
(if inB s1.2.2.1 (List.length a6) then
(l_markStringS N ((((((List.getD a6 (Int.toNat s1.2.2.1) (0, (ByteArray.empty, (0, (0, ([], ([], ()))))))).2).2).2).2).1, IntKind.wrap .i64 ((IntKind.wrap .i64 ((IntKind.wrap .i64 ((IntKind.wrap .i64 (s1.2.1 + 1)) + 1)) + 1)) + 1), ())).bind fun r7 =>
((some (List.set a6 (Int.toNat s1.2.2.1) ((List.getD a6 (Int.toNat s1.2.2.1) (0, (ByteArray.empty, (0, (0, ([], ([], ()))))))).1, (((List.getD a6 (Int.toNat s1.2.2.1) (0, (ByteArray.empty, (0, (0, ([], ([], ()))))))).2).1, ((((List.getD a6 (Int.toNat s1.2.2.1) (0, (ByteArray.empty, (0, (0, ([], ([], ()))))))).2).2).1, (((((List.getD a6 (Int.toNat s1.2.2.1) (0, (ByteArray.empty, (0, (0, ([], ([], ()))))))).2).2).2).1, (r7.2.1, (((((List.getD a6 (Int.toNat s1.2.2.1) (0, (ByteArray.empty, (0, (0, ([], ([], ()))))))).2).2).2).2).2)))))) : Option (List (Int × ByteArray × Int × Int × List (ByteArray) × List (Int × Int × ByteArray × Unit) × Unit)))).bind fun a8 =>
(if inB s1.2.2.1 (List.length a8) then
(l_markValueS N (((((((List.getD a8 (Int.toNat s1.2.2.1) (0, (ByteArray.empty, (0, (0, ([], ([], ()))))))).2).2).2).2).2).1, r7.1, ())).bind fun r9 =>
((some (List.set a8 (Int.toNat s1.2.2.1) ((List.getD a8 (Int.toNat s1.2.2.1) (0, (ByteArray.empty, (0, (0, ([], ([], ()))))))).1, (((List.getD a8 (Int.toNat s1.2.2.1) (0, (ByteArray.empty, (0, (0, ([], ([], ()))))))).2).1, ((((List.getD a8 (Int.toNat s1.2.2.1) (0, (ByteArray.empty, (0, (0, ([], ([], ()))))))).2).2).1, (((((List.getD a8 (Int.toNat s1.2.2.1) (0, (ByteArray.empty, (0, (0, ([], ([], ()))))))).2).2).2).1, ((((((List.getD a8 (Int.toNat s1.2.2.1) (0, (ByteArray.empty, (0, (0, ([], ([], ()))))))).2).2).2).2).1, (r9.2.1, ((((((List.getD a8 (Int.toNat s1.2.2.1) (0, (ByteArray.empty, (0, (0, ([], ([], ()))))))).2).2).2).2).2).2))))))) : Option (List (Int × ByteArray × Int × Int × List (ByteArray) × List (Int × Int × ByteArray × Unit) × Unit)))).bind fun a10 =>
  some (Step.more (a10, r9.1, IntKind.wrap .i64 (s1.2.2.1 + 1), ())) else none) else none) else none) else none) else none) else none) else
  some (Step.done (s1.1, s1.2.1, ())))) (mk := mC N) (st := stW) stW_nonneg (P := SzC) (B := capB)
    (fun pre x post m hx hlen hm hB => by
      obtain ⟨x1, x2, x3, x4, x5⟩ := hx
      have n1 : 0 ≤ sumL (fun _ => (1 : Int)) x.2.2.2.2.1 := sumL_nonneg (fun _ => by omega) _
      have n2 : 0 ≤ sumL (fun _ => (3 : Int)) x.2.2.2.2.2.1 := sumL_nonneg (fun _ => by omega) _
      have hst : stW x = 4 + sumL (fun _ => (1 : Int)) x.2.2.2.2.1 + sumL (fun _ => (3 : Int)) x.2.2.2.2.2.1 := rfl
      dsimp only
      rw [if_pos lt_mid, if_pos inB_mid, getD_mid, set_mid]
      dsimp only [Option.bind_some]
      rw [wrap_cap (m := m + 1) (by omega) (by omega), e_markText (by omega) (by omega) hN]
      dsimp only [Option.bind_some]
      rw [if_pos inB_mid, getD_mid, set_mid]
      dsimp only [Option.bind_some]
      rw [wrap_cap (m := m + 1 + 1) (by omega) (by omega), if_pos inB_mid, getD_mid, set_mid]
      dsimp only [Option.bind_some]
      rw [wrap_cap (m := m + 1 + 1 + 1) (by omega) (by omega), if_pos inB_mid, getD_mid, set_mid]
      dsimp only [Option.bind_some]
      rw [wrap_cap (m := m + 1 + 1 + 1 + 1) (by omega) (by omega), if_pos inB_mid, getD_mid]
      have e4 : m + 1 + 1 + 1 + 1 = m + 4 := by omega
      rw [e4, e_markStringS hN x.2.2.2.2.1 (m + 4) (by omega) (by omega) x2]
      dsimp only [Option.bind_some]
      rw [set_mid]
      rw [if_pos inB_mid, getD_mid]
      rw [e_markValueS hN x.2.2.2.2.2.1 (m + 4 + sumL (fun _ => 1) x.2.2.2.2.1) (by omega) (by omega) x4]
      dsimp only [Option.bind_some]
      rw [set_mid, wrap_mid hlen]
      have e5 : m + 4 + sumL (fun _ => 1) x.2.2.2.2.1 + sumL (fun _ => 3) x.2.2.2.2.2.1 = m + stW x := by omega
      rw [e5]
      rfl)
    (fun l m => by dsimp only; rw [if_neg (by simp)]) l [] m N hh.2 (by simpa using hh.1) hm hB (by have := hh.1; omega)
  simp only [List.nil_append, List.length_nil] at this
  have e0 : ((0 : Nat) : Int) = 0 := rfl
  rw [e0] at this
  rw [this]
  rfl

theorem e_heldCellS (l : List CT) (m : Int) (hh : SzH l) (hm : 0 < m) (hB : m + sumL stW l ≤ capB) : l_heldCellS N (mkL (mC N) stW m l, m, ()) = some (m + sumL stW l, ()) := by
  have hlim : lim = 9223372036854775807 := rfl
  have hbig : big = 1048577 := rfl
  unfold l_heldCellS
  dsimp only
  generalize ht : mkL (mC N) stW m l = t
  have := loop_held (α := CT) (C := Int × Unit) (t := t) (f := fun s1 =>
(if (decide (s1.2.1 < (List.length t : Int))) = true then
(if inB s1.2.1 (List.length t) then
(if (!decide (((List.getD t (Int.toNat s1.2.1) (0, (ByteArray.empty, (0, (0, ([], ([], ()))))))).1) = s1.1)) = true then
  some (Step.ret ((-1), ())) else
(if inB s1.2.1 (List.length t) then
(l_markText N (IntKind.wrap .i64 (s1.1 + 1), ())).bind fun r2 =>
(if (!decide ((((List.getD t (Int.toNat s1.2.1) (0, (ByteArray.empty, (0, (0, ([], ([], ()))))))).2).1) = r2.1)) = true then
  some (Step.ret ((-1), ())) else
(if inB s1.2.1 (List.length t) then
(if (!decide (((((List.getD t (Int.toNat s1.2.1) (0, (ByteArray.empty, (0, (0, ([], ([], ()))))))).2).2).1) = (IntKind.wrap .i64 ((IntKind.wrap .i64 (s1.1 + 1)) + 1)))) = true then
  some (Step.ret ((-1), ())) else
(if inB s1.2.1 (List.length t) then
(if (!decide ((((((List.getD t (Int.toNat s1.2.1) (0, (ByteArray.empty, (0, (0, ([], ([], ()))))))).2).2).2).1) = (IntKind.wrap .i64 ((IntKind.wrap .i64 ((IntKind.wrap .i64 (s1.1 + 1)) + 1)) + 1)))) = true then
  some (Step.ret ((-1), ())) else
(if inB s1.2.1 (List.length t) then
(l_heldStringS N ((((((List.getD t (Int.toNat s1.2.1) (0, (ByteArray.empty, (0, (0, ([], ([], ()))))))).2).2).2).2).1, IntKind.wrap .i64 ((IntKind.wrap .i64 ((IntKind.wrap .i64 ((IntKind.wrap .i64 (s1.1 + 1)) + 1)) + 1)) + 1), ())).bind fun r3 =>
(if (decide (r3.1 < 0)) = true then
  some (Step.ret ((-1), ())) else
(if inB s1.2.1 (List.length t) then
(l_heldValueS N (((((((List.getD t (Int.toNat s1.2.1) (0, (ByteArray.empty, (0, (0, ([], ([], ()))))))).2).2).2).2).2).1, r3.1, ())).bind fun r4 =>
(if (decide (r4.1 < 0)) = true then
  some (Step.ret ((-1), ())) else
  some (Step.more (r4.1, IntKind.wrap .i64 (s1.2.1 + 1), ()))) else none)) else none)) else none)) else none)) else none)) else none) else
  some (Step.done (s1.1, ())))) (mk := mC N) (st := stW) stW_nonneg (P := SzC) (B := capB)
    (fun pre x post m e hx hlen hm hB => by
      subst e
      obtain ⟨x1, x2, x3, x4, x5⟩ := hx
      have n1 : 0 ≤ sumL (fun _ => (1 : Int)) x.2.2.2.2.1 := sumL_nonneg (fun _ => by omega) _
      have n2 : 0 ≤ sumL (fun _ => (3 : Int)) x.2.2.2.2.2.1 := sumL_nonneg (fun _ => by omega) _
      have hst : stW x = 4 + sumL (fun _ => (1 : Int)) x.2.2.2.2.1 + sumL (fun _ => (3 : Int)) x.2.2.2.2.2.1 := rfl
      dsimp only
      rw [if_pos lt_mid, if_pos inB_mid, getD_mid, if_neg (by simp [mC]), if_pos inB_mid, wrap_cap (m := m + 1) (by omega) (by omega), e_markText (by omega) (by omega) hN]
      dsimp only [Option.bind_some]
      rw [if_neg (by simp [mC]), if_pos inB_mid, wrap_cap (m := m + 1 + 1) (by omega) (by omega), if_neg (by simp [mC]), if_pos inB_mid, wrap_cap (m := m + 1 + 1 + 1) (by omega) (by omega), if_neg (by simp [mC]), if_pos inB_mid]
      rw [wrap_cap (m := m + 1 + 1 + 1 + 1) (by omega) (by omega)]
      have e4 : m + 1 + 1 + 1 + 1 = m + 4 := by omega
      rw [e4, show (mC N m x).2.2.2.2.1 = mkL (mS N) (fun _ => 1) (m + 4) x.2.2.2.2.1 from rfl, e_heldStringS hN x.2.2.2.2.1 (m + 4) (by omega) (by omega) x2]
      dsimp only [Option.bind_some]
      rw [if_neg (by simp; omega), if_pos inB_mid, show (mC N m x).2.2.2.2.2.1 = mkL (mV N) (fun _ => 3) (m + 4 + sumL (fun _ => 1) x.2.2.2.2.1) x.2.2.2.2.2.1 from rfl, e_heldValueS hN x.2.2.2.2.2.1 (m + 4 + sumL (fun _ => 1) x.2.2.2.2.1) (by omega) (by omega) x4]
      dsimp only [Option.bind_some]
      rw [if_neg (by simp; omega), wrap_mid hlen]
      have e5 : m + 4 + sumL (fun _ => 1) x.2.2.2.2.1 + sumL (fun _ => 3) x.2.2.2.2.2.1 = m + stW x := by omega
      rw [e5])
    (fun m => by dsimp only; rw [if_neg (by simp)]) l [] m N (by simp [ht]) hh.2 (by simpa using hh.1) hm hB (by have := hh.1; omega)
  simp only [List.length_nil] at this
  have e0 : ((0 : Nat) : Int) = 0 := rfl
  rw [e0] at this
  rw [this]
  rfl
end

theorem sum_stW (h : List CT) (hh : SzH h) : 0 ≤ sumL stW h ∧ sumL stW h ≤ 4398056177664 := by
  have hbig : big = 1048577 := rfl
  refine ⟨sumL_nonneg stW_nonneg h, ?_⟩
  have h1 := sumL_le (st := stW) (k := 4194312) (P := SzC) (fun c hc => by
    obtain ⟨c1, c2, c3, c4, c5⟩ := hc
    have a1 := sumL_le (k := 1) (P := fun _ : ByteArray => True) (st := fun _ => (1 : Int)) (fun _ _ => Int.le_refl _) c.2.2.2.2.1 (fun _ _ => trivial)
    have a2 := sumL_le (k := 3) (P := fun _ : VT => True) (st := fun _ => (3 : Int)) (fun _ _ => Int.le_refl _) c.2.2.2.2.2.1 (fun _ _ => trivial)
    unfold stW
    omega) h hh.2
  have := hh.1
  omega

/-- THE LAW, WITH NO PROGRAM IN SIGHT -/
theorem l_FnExactShip_true (N : Nat) (x : List CT × VT × List CT × Unit) (hh : FH x.1) (ha : FV x.2.1) (hg : FH x.2.2.1) (hN : lim < N) : l_FnExactShip N x = some (true, ()) := by
  obtain ⟨h, a, g, u⟩ := x
  simp only at hh ha hg
  have hbig : big = 1048577 := rfl
  have hlim : lim = 9223372036854775807 := rfl
  have hcap : capB = 1152921504606846976 := rfl
  unfold l_FnExactShip
  dsimp only
  rcases p_szCellS (N := N) (h, 1048576, ()) (show (0 : Int) ≤ 1048576 by decide) (show (1048576 : Int) ≤ 1048576 by decide) hh hN with h1 | ⟨r, h1, h2, h3, h4⟩
  · rw [h1]; rfl
  rw [h1]
  dsimp only [Option.bind_some]
  rw [if_neg (by simpa using h2)]
  rcases p_szValue (N := N) (a, r, ()) h2 h3 ha with g1 | ⟨r', g1, g2, g3, g4⟩
  · rw [g1]; rfl
  rw [g1]
  dsimp only [Option.bind_some]
  rw [if_neg (by simpa using g2)]
  rcases p_szCellS (N := N) (g, r', ()) g2 (Int.le_trans g3 h3) hg hN with k1 | ⟨q, k1, k2, k3, k4⟩
  · rw [k1]; rfl
  rw [k1]
  dsimp only [Option.bind_some]
  rw [if_neg (by simpa using k2)]
  rw [e_toCellS N (h, ()) h4 (by omega), e_toCellS N (g, ()) k4 (by omega)]
  simp only [Option.bind_some, e_toValue]
  obtain ⟨⟨y, b, ok, ⟨⟩⟩, e1, z1, z2, e2⟩ := p_Ships N h g a h4 k4 g4 (by omega)
  obtain ⟨s1, s2⟩ := sum_stW h h4
  obtain ⟨s3, s4⟩ := sum_stW g k4
  obtain ⟨s5, s6⟩ := sum_stW y z1
  rw [e1, e2]
  simp only [Option.bind_some]
  rw [e_eqCellS N y z1 (by omega), e_eqCellS N h h4 (by omega), e_eqCellS N g k4 (by omega)]
  simp only [Option.bind_some, Bool.not_true, Bool.false_eq_true, if_false, e_eqValue, decide_true]
  rw [e_markCellS hN h 1 h4 (by omega) (by omega)]
  simp only [Option.bind_some]
  rw [e_markCellS hN g (1 + sumL stW h) k4 (by omega) (by omega)]
  simp only [Option.bind_some]
  rw [if_neg (by simp; omega)]
  simp only [Option.bind_some, Bool.false_eq_true, if_false]
  rw [e_markCellS hN y 1 z1 (by omega) (by omega)]
  simp only [Option.bind_some]
  rw [e_heldCellS hN y 1 z1 (by omega) (by omega)]
  simp only [Option.bind_some]
  rw [if_neg (by simp; omega), if_neg (by simp), if_neg (by simp; omega), if_neg (by simp)]
end Go.Rf
