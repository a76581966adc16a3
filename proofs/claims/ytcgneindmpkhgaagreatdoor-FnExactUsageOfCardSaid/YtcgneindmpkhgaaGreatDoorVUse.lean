/-
  The plain function of FnExactUsageOf returns true, whatever is put in within the form's bounds: counts what is used up.
-/
import Derived.Test.YtcgneindmpkhgaaGreatDoorVWld
set_option linter.unusedSimpArgs false
set_option linter.unusedVariables false
set_option autoImplicit false
namespace Go.Rf
abbrev GT := Int × Int × Int × Unit
def zG : GT := (0, 0, 0, ())
def stepU (s : GT) (c : CT) : GT := if c.1 = 1 then (IntKind.wrap .i64 (s.1 + 1), s.2) else if c.1 = 2 then (s.1, IntKind.wrap .i64 (s.2.1 + 1), s.2.2) else (s.1, s.2.1, IntKind.wrap .i64 (s.2.2.1 + 1), s.2.2.2)
def useW (w : WT) : GT := if worldB w = true then w.1.1.foldl stepU zG else zG
theorem sys_heap {y : YT} (h : sysB y = true) : heapOk y.1 = true := by
 unfold sysB at h
 simp only [Bool.and_eq_true] at h
 exact h.1
theorem world_sys {w : WT} (h : worldB w = true) : sysB w.1 = true := by
 unfold worldB at h
 simp only [Bool.and_eq_true] at h
 exact h.1
theorem kind_of {h : List CT} (ho : heapOk h = true) {i : Nat} (hi : i < h.length) : (h.getD i ((0 : Int), ByteArray.empty, (0 : Int), (0 : Int), ([] : List ByteArray), ([] : List VT), ())).1 = 1 ∨ (h.getD i ((0 : Int), ByteArray.empty, (0 : Int), (0 : Int), ([] : List ByteArray), ([] : List VT), ())).1 = 2 ∨ (h.getD i ((0 : Int), ByteArray.empty, (0 : Int), (0 : Int), ([] : List ByteArray), ([] : List VT), ())).1 = 3 := by
 unfold heapOk at ho
 rw [Bool.and_eq_true] at ho
 have h1 := List.all_eq_true.1 ho.2 i (List.mem_range.2 hi)
 simp only [cellOk, Bool.and_eq_true] at h1
 have h2 := h1.1.1
 unfold shapeC at h2
 by_cases k1 : (h.getD i ((0 : Int), ByteArray.empty, (0 : Int), (0 : Int), ([] : List ByteArray), ([] : List VT), ())).1 = 1
 ·exact .inl k1
 by_cases k2 : (h.getD i ((0 : Int), ByteArray.empty, (0 : Int), (0 : Int), ([] : List ByteArray), ([] : List VT), ())).1 = 2
 ·exact .inr (.inl k2)
 by_cases k3 : (h.getD i ((0 : Int), ByteArray.empty, (0 : Int), (0 : Int), ([] : List ByteArray), ([] : List VT), ())).1 = 3
 ·exact .inr (.inr k3)
 rw [if_neg k1, if_neg k2, if_neg k3] at h2
 simp at h2
theorem e_i_UsageOf (N : Nat) (w : WT) (u : Unit) (h : SmW w) (hN : big ≤ N) : i_UsageOf N (w, u) = some (useW w, ()) := by
 have hb : big = 1048577 := rfl
 have h1 := h.sys.heap.1
 unfold i_UsageOf useW
 dsimp only
 rw [e_i_WorldOk N w () h hN]
 dsimp only [Option.bind_some]
 cases hw : worldB w with
 | false => rfl
 | true =>
 have ho := sys_heap (world_sys hw)
 simp only [Bool.not_true, Bool.false_eq_true, if_false, if_true]
 rw [(loop_foldl (fun (s : GT) (i : Nat) => (zG, s, (i : Int), ())) (fun _ _ => True) stepU (fun s => (zG, s, ())) w.1.1 ((0 : Int), ByteArray.empty, (0 : Int), (0 : Int), ([] : List ByteArray), ([] : List VT), ()) ?h ?hd zG ((0, 0, 0, ()), (0, 0, 0, ()), 0, ()) rfl trivial (by omega)).1]
 case hd => intro s _; simp
 case h =>
  intro i s hi _
  dsimp only
  rw [if_pos (decide_eq_true (lt_cast hi)), if_pos (inB_nat.2 hi), Int.toNat_natCast, wrap_nat (by omega)]
  have hk := kind_of ho hi
  generalize w.1.1.getD i ((0 : Int), ByteArray.empty, (0 : Int), (0 : Int), ([] : List ByteArray), ([] : List VT), ()) = c at hk
  unfold stepU
  rcases hk with k | k | k
  ·rw [k]; exact ⟨rfl, trivial⟩
  ·rw [k]; exact ⟨rfl, trivial⟩
  ·rw [k]; exact ⟨rfl, trivial⟩
theorem e_s_UsageOf (N : Nat) (w : WT) (u : Unit) (h : SmW w) (hN : big ≤ N) : s_UsageOf N (w, u) = some (useW w, ()) := by
 have hb : big = 1048577 := rfl
 have h1 := h.sys.heap.1
 unfold s_UsageOf useW
 dsimp only
 cases hw : worldB w with
 | false =>
  rw [iter_done (fun _ => (w, (0, 0, 0, ()), (0, 0, 0, ()), (0 : Int), ())) (k := 0) (n := 0) (b := (zG, zG, ())) (fun i _ hi => absurd hi (by omega)) (Nat.le_refl _) ?hd (by omega) (x0 := (w, (0, 0, 0, ()), (0, 0, 0, ()), 0, ())) rfl]
  case hd =>
   dsimp only
   rw [e_s_WorldOk N w () h hN, hw]
   cases decide ((0 : Int) < (w.1.1.length : Int)) <;> rfl
  rfl
 | true =>
 have ho := sys_heap (world_sys hw)
 rw [(loop_foldl (fun (s : GT) (i : Nat) => (w, zG, s, (i : Int), ())) (fun _ _ => True) stepU (fun s => (zG, s, ())) w.1.1 ((0 : Int), ByteArray.empty, (0 : Int), (0 : Int), ([] : List ByteArray), ([] : List VT), ()) ?h ?hd zG (w, (0, 0, 0, ()), (0, 0, 0, ()), 0, ()) rfl trivial (by omega)).1]
 case hd => intro s _; simp
 case h =>
  intro i s hi _
  dsimp only
  rw [if_pos (decide_eq_true (lt_cast hi)), e_s_WorldOk N w () h hN, hw]
  simp only [if_true, Option.bind_some]
  rw [if_pos (inB_nat.2 hi), Int.toNat_natCast, wrap_nat (by omega)]
  have hk := kind_of ho hi
  generalize w.1.1.getD i ((0 : Int), ByteArray.empty, (0 : Int), (0 : Int), ([] : List ByteArray), ([] : List VT), ()) = c at hk
  unfold stepU
  rcases hk with k | k | k
  ·rw [k]; exact ⟨rfl, trivial⟩
  ·rw [k]; exact ⟨rfl, trivial⟩
  ·rw [k]; exact ⟨rfl, trivial⟩
 rw [if_pos rfl]
theorem l_FnExactUsageOf_true (N : Nat) (x : WT × Unit) (hx : F_World x.1) (hN : lim < N) : l_FnExactUsageOf N x = some (true, ()) := by
 obtain ⟨x, u⟩ := x
 simp only at hx
 have hbig : big = 1048577 := rfl
 have hlim : lim = 9223372036854775807 := rfl
 unfold l_FnExactUsageOf
 dsimp only
 rcases p_szWorld (N := N) x 1048576 () (by omega) (by omega) hx hN with h1 | ⟨h1, h2⟩
 ·rw [h1]; rfl
 rw [h1]
 dsimp only [Option.bind_some]
 rw [if_neg (fun hc => by have := of_decide_eq_true hc; omega)]
 have hw : w_World x < big := by omega
 have hS := smW hw
 rw [e_toWorld N x () hw (by omega)]
 dsimp only [Option.bind_some]
 rw [e_s_UsageOf N x () hS (by omega)]
 dsimp only [Option.bind_some]
 rw [e_i_UsageOf N x () hS (by omega)]
 dsimp only [Option.bind_some]
 generalize useW x = g
 have e : l_eqUsage N (g, g, ()) = some (true, ()) := by
  unfold l_eqUsage
  simp
 rw [e, e_eqWorld N x () hw (by omega)]
 rfl
end Go.Rf
