/- What strings.Join gives of two texts or more, where all is short. Conditions: the separator is one byte; at most a hundred texts, of a hundred thousand bytes together. -/
import Derived.Test.YtkifpahhppbdkaaBuild
namespace Go.Proofs.Ytkifpahhppbdkaa
open Go.RowKit
set_option linter.unusedVariables false
set_option linter.unusedSimpArgs false

def tail (sep : ByteArray) : List ByteArray → List UInt8
  | [] => []
  | y :: r => sep.data.toList ++ (y.data.toList ++ tail sep r)

def tot : List ByteArray → Nat
  | [] => 0
  | y :: r => y.size + tot r

theorem tot_succ : ∀ (xs : List ByteArray) (k : Nat) (x : ByteArray), xs[k]? = some x → tot (xs.take (k + 1)) = tot (xs.take k) + x.size
  | [], _, _, h => by simp at h
  | y :: r, 0, x, h => by simp at h; subst h; simp [tot]
  | y :: r, k + 1, x, h => by
    have := tot_succ r k x (by simpa using h)
    simp only [List.take_succ_cons, tot] at this ⊢
    omega

theorem tot_le : ∀ (xs : List ByteArray) (k : Nat), tot (xs.take k) ≤ tot xs
  | [], _ => by simp
  | y :: r, 0 => by simp [tot]
  | y :: r, k + 1 => by
    have := tot_le r k
    simp only [List.take_succ_cons, tot]
    omega

theorem tail_succ (sep : ByteArray) : ∀ (xs : List ByteArray) (k : Nat) (x : ByteArray), xs[k]? = some x →
    tail sep (xs.take (k + 1)) = tail sep (xs.take k) ++ (sep.data.toList ++ x.data.toList)
  | [], _, _, h => by simp at h
  | y :: r, 0, x, h => by simp at h; subst h; simp [tail]
  | y :: r, k + 1, x, h => by
    have := tail_succ sep r k x (by simpa using h)
    simp only [List.take_succ_cons, tail, this, List.append_assoc]

theorem tail_len (sep : ByteArray) : ∀ xs : List ByteArray, (tail sep xs).length = sep.size * xs.length + tot xs
  | [] => by simp [tail, tot]
  | y :: r => by
    have := tail_len sep r
    simp only [tail, List.length_append, this, tot, List.length_cons, Nat.mul_add, Nat.mul_one]
    simp only [ByteArray.size, Array.length_toList]
    omega

theorem hid {p : Prop} (h : p) : Hid p := h

set_option maxHeartbeats 4000000 in
set_option maxRecDepth 100000 in
theorem join (bk c : Nat) (x0 : ByteArray) (r : List ByteArray) (sep : ByteArray) (w : World)
    (hcells : ∀ (j : Nat) x, (x0 :: r)[j]? = some x → w.cell? ⟨bk, j, none⟩ = some (.string x))
    (hbk : bk < w.heap.size) (h1 : 1 ≤ r.length) (hN : r.length ≤ 100) (hcap : r.length + 1 ≤ c) (hsep : sep.size = 1)
    (hlen : tot (x0 :: r) ≤ 100000) :
    Calls Try.prog 6 #[.slice (some ⟨bk, 0, none⟩) (r.length + 1) c, .string sep] w fun e w' =>
      e = .returned (.string ⟨(x0.data.toList ++ tail sep r).toArray⟩) ∧ Below w.heap.size w w' := by
  have HC := hid hcells
  clear hcells
  have hdv : ¬ ((9223372036854775807 : Int) / (r.length : Int) ≤ 1) := by
    have : (2 : Int) ≤ 9223372036854775807 / (r.length : Int) := (Int.le_ediv_iff_mul_le (by omega)).2 (by omega)
    omega
  have Hlen := hid hlen
  have hx0 : x0.size ≤ 100000 := by simp only [tot] at hlen; omega
  have htr : tot r ≤ 100000 := by simp only [tot] at hlen; omega
  clear hlen
  have hne0 : ((r.length : Int) + 1 == 0) = false := beq_eq_false_iff_ne.2 (by omega)
  have hne1 : ((r.length : Int) + 1 == 1) = false := beq_eq_false_iff_ne.2 (by omega)
  go_enter Try.func6, Try.ntmps6
  go_wp2_with fail
  go_loop [5, 41] (fun n i => ∃ k : Nat, k ≤ r.length + 1 ∧ i = .int .i64 k ∧ n = .int .i64 ((r.length + tot ((x0 :: r).take k) : Nat) : Int)) (fun _ i => r.length + 1 - (intOf i).toNat)
  case atStart => exact ⟨0, Nat.zero_le _, rfl, by simp [tot]⟩
  case round =>
    obtain ⟨k, hk, rfl, rfl⟩ := hrel
    by_cases hkn : k < r.length + 1
    · obtain ⟨x, hx⟩ : ∃ x, (x0 :: r)[k]? = some x := ⟨(x0 :: r)[k], List.getElem?_eq_getElem (by simpa using hkn)⟩
      have hc := HC.out k x hx
      have hstep := tot_succ (x0 :: r) k x hx
      have hbound : tot ((x0 :: r).take (k + 1)) ≤ 100000 := Nat.le_trans (tot_le _ _) Hlen.out
      generalize hA1 : tot ((x0 :: r).take (k + 1)) = A1 at hstep hbound
      generalize tot ((x0 :: r).take k) = A0 at hstep
      have HA1 := hid hA1
      clear hA1
      go_wp2
      exact ⟨⟨k + 1, by omega, by go_num, by rw [HA1.out]; refine congrArg _ ?_; omega⟩, by simp [intOf]; omega⟩
    · have hke : k = r.length + 1 := by omega
      subst hke
      have hall : (x0 :: r).take (r.length + 1) = x0 :: r := List.take_of_length_le (by simp)
      rw [hall]
      have hT := Hlen.out
      generalize tot (x0 :: r) = T at hT
      clear hall
      go_wp2_with fail
      have hMT : ((r.length : Int) + (T : Int)) = ((r.length + T : Nat) : Int) := by omega
      rw [hMT]
      refine (Try.Builder_Grow_fresh w.heap.size w.heap.size (r.length + T) _ (Nat.le_refl _) (heap_alloc_new w _) (by simp) (by omega)).mono ?_
      rintro e w1 ⟨rfl, hb, hw1⟩
      have hbel : Below w.heap.size w w1 := ((Below.refl w.heap.size w).alloc (Nat.le_refl _) _).trans hw1
      have hc0 : w1.cell? ⟨bk, 0, none⟩ = some (.string x0) := by
        rw [hbel.cell (p := ⟨bk, 0, none⟩) hbk]
        exact HC.out 0 x0 rfl
      have hs1 : w.heap.size ≤ w1.heap.size := hbel.size
      have Hb := hid hb
      have Hbel := hid hbel
      clear hb hw1 hbel hMT
      go_wp2_with fail
      refine (writeString w.heap.size w.heap.size [] x0 w1 Hb.out (by simp; omega) hs1).mono ?_
      rintro e w2 ⟨rfl, hb, hw2⟩
      have hst : ([] : List Value) ++ Lib.strCells x0 = Lib.byteCells (x0.data.toList ++ tail sep (r.take 0)) := by
        simp [tail, Lib.strCells_eq]
      rw [hst] at hb
      have Hb2 := hid hb
      have Hbel2 := hid (Hbel.out.trans hw2)
      clear hb hw2 hst
      go_wp2_with fail
      go_loopw [65] (fun i wr => ∃ k : Nat, k ≤ r.length ∧ i = .int .i64 k ∧ Hid (Lib.BuilderAt 30 5 w.heap.size w.heap.size (.pointer (some ⟨w.heap.size, 0, none⟩)) (Lib.byteCells (x0.data.toList ++ tail sep (r.take k))) wr) ∧ Hid (Below w.heap.size w wr)) (fun i _ => r.length - (intOf i).toNat)
      case atStart => exact ⟨0, Nat.zero_le _, rfl, Hb2, Hbel2⟩
      case round =>
        obtain ⟨k, hk', rfl, HB, HW⟩ := hrel
        by_cases hkr : k < r.length
        · obtain ⟨y, hy⟩ : ∃ y, r[k]? = some y := ⟨r[k], List.getElem?_eq_getElem hkr⟩
          have hcy : wr.cell? ⟨bk, 1 + k, none⟩ = some (.string y) := by
            rw [HW.out.cell (p := ⟨bk, 1 + k, none⟩) hbk, show 1 + k = k + 1 by omega]
            exact HC.out (k + 1) y (by simpa using hy)
          have hBw : w.heap.size ≤ wr.heap.size := HW.out.size
          have hnext : Lib.byteCells (x0.data.toList ++ tail sep (r.take k)) ++ Lib.strCells sep ++ Lib.strCells y = Lib.byteCells (x0.data.toList ++ tail sep (r.take (k + 1))) := by
            rw [tail_succ sep r k y hy, Lib.strCells_eq, Lib.strCells_eq, ← Lib.byteCells_append, ← Lib.byteCells_append]
            simp only [List.append_assoc]
          have hl0 : (Lib.byteCells (x0.data.toList ++ tail sep (r.take k))).length ≤ 200100 := by
            rw [Lib.byteCells_length, List.length_append, tail_len, hsep]
            have e1 : x0.data.toList.length = x0.size := Array.length_toList
            have e2 := tot_le r k
            have e3 : (r.take k).length ≤ r.length := by rw [List.length_take]; exact Nat.min_le_right _ _
            omega
          have hyl : y.size ≤ 100000 := by
            have e1 := tot_succ r k y hy
            have e2 := tot_le r (k + 1)
            omega
          have Hn := hid hnext
          clear hnext hy
          go_wp2_with fail
          refine (writeString w.heap.size w.heap.size _ sep wr HB.out (by omega) hBw).mono ?_
          rintro e w3 ⟨rfl, hb3, hw3⟩
          have hBw3 : w.heap.size ≤ w3.heap.size := Nat.le_trans hBw hw3.size
          have H3 := hid hb3
          have Hw3 := hid hw3
          clear hb3 hw3
          go_wp2_with fail
          refine (writeString w.heap.size w.heap.size _ y w3 H3.out (by rw [List.length_append, Lib.strCells_length]; omega) hBw3).mono ?_
          rintro e w4 ⟨rfl, hb4, hw4⟩
          rw [Hn.out] at hb4
          have H4 := hid hb4
          have Hw4 := hid ((HW.out.trans Hw3.out).trans hw4)
          clear hb4 hw4
          go_wp2
          exact ⟨⟨k + 1, by omega, by go_num, H4, Hw4⟩, by simp [intOf]; omega⟩
        · have hke : k = r.length := by omega
          subst hke
          have hfull : r.take r.length = r := List.take_of_length_le (Nat.le_refl _)
          have hB' := HB.out
          rw [hfull] at hB'
          have hBw : w.heap.size ≤ wr.heap.size := HW.out.size
          go_wp2_with fail
          refine (Try.Builder_String_any w.heap.size w.heap.size _ wr (Or.inr hB') hBw).mono ?_
          rintro e w5 ⟨rfl, hb5⟩
          have Hw5 := hid (HW.out.trans hb5)
          clear hb5 hB'
          go_wp2
          go_ret
          exact ⟨rfl, Hw5.out⟩
end Go.Proofs.Ytkifpahhppbdkaa
