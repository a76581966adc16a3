/-
  Functions of the library do what their plain functions say (contracts), where the library's variables hold what they are laid to hold; slices.Sort of strings.
-/
import Derived.Test.YtkifpahhppbdkaaGreatDoorLNat
import Derived.Test.YtkifpahhppbdkaaGreatDoorShelf
import Derived.WalkKit
import Derived.ProofKit
import Derived.KernelRfl
import Derived.Lib.AppendIntMem
import Derived.Test.YtkifpahhppbdkaaGreatDoorLRfD
import Derived.Sort.EncStr
import Derived.Sort.Grow
import Derived.Sort.Row
set_option linter.unusedSimpArgs false
set_option linter.unusedVariables false
set_option autoImplicit false
namespace Go.Rf
open Go.Proofs Go.RowKit

theorem args1 {S : Stab} {H : Heap} {τ : Ty} {vals : List Value} {x : LD [τ]} {g : List Nat} (h : ArgsRel S H [τ] vals x g) : ∃ ws, vals = [valOf τ ws] ∧ ∃ f, Rep S H τ ws x.1 f := by
  match vals, h with
  | [v], ⟨ws, f1, f2, e, hr, _, _⟩ => exact ⟨ws, by rw [e], f1, hr⟩
theorem args2 {S : Stab} {H : Heap} {τ σ : Ty} {vals : List Value} {x : LD [τ, σ]} {g : List Nat} (h : ArgsRel S H [τ, σ] vals x g) : ∃ ws us, vals = [valOf τ ws, valOf σ us] ∧ (∃ f, Rep S H τ ws x.1 f) ∧ ∃ f, Rep S H σ us x.2.1 f := by
  match vals, h with
  | [v, u], ⟨ws, f1, f2, e, hr, _, ⟨us, f3, f4, e2, hr2, _, _⟩⟩ => exact ⟨ws, us, by rw [e, e2], ⟨f1, hr⟩, f3, hr2⟩

/-- what is known of the program's variables -/
def gW (w : World) : Prop :=
  (∃ m, w.cell? ⟨0, 0, none⟩ = some (.int .i64 m)) ∧ Lib.TabIs Tryz.prog w "internal/strconv.uint64pow10" IntKind.u64 Lib.pow10Tab ∧
  (∃ t p, w.cell? ⟨1, 0, none⟩ = some (.iface t p)) ∧ (∃ t p, w.cell? ⟨2, 0, none⟩ = some (.iface t p))

theorem cell_of_hp {w w' : World} {b : Nat} (h : hp w' b = hp w b) : w'.cell? ⟨b, 0, none⟩ = w.cell? ⟨b, 0, none⟩ := by
  simp only [hp] at h
  simp [World.cell?, h]

theorem gW_loc (w w' : World) (h : ∀ b, b < 4 → hp w' b = hp w b) (hg : gW w) : gW w' := by
  obtain ⟨h0, h1, h2, h3⟩ := hg
  refine ⟨?_, ?_, ?_, ?_⟩
  · rw [cell_of_hp (h 0 (by decide))]; exact h0
  · have hn : Tryz.prog.globalNamed "internal/strconv.uint64pow10" = some 3 := by kernel_rfl
    have h33 := h 3 (by decide)
    simp only [hp] at h33
    simp only [Lib.TabIs, World.var?, hn, Option.bind_some, h33] at h1 ⊢
    exact h1
  · rw [cell_of_hp (h 1 (by decide))]; exact h2
  · rw [cell_of_hp (h 2 (by decide))]; exact h3

def Vp : Glb := ⟨4, gW, gW_loc⟩

set_option maxRecDepth 100000

theorem c_g_strings_IndexByte (N : Nat) : Ctr Tryz.prog Vp 187 ⟨[.str, (.int .u8)], [(.int .i64)], g_strings_IndexByte N⟩ := by
  refine ctr_scal (c := (Tryz.f187.body).getD .skip) Tryz.func187 (by kernel_rfl) (by kernel_rfl) rfl rfl ?_
  intro w args vals r _ ha hF
  obtain ⟨ws, us, rfl, ⟨_, rfl, _⟩, _, rfl, _⟩ := args2 ha
  simp only [g_strings_IndexByte, Option.some.injEq] at hF
  subst hF
  refine (Tryz.strings_IndexByte _ _ w).mono ?_
  rintro e w' ⟨rfl, rfl⟩
  exact ⟨[_], rfl, Below.refl _ _, [_], [], [], rfl, ⟨rfl, rfl⟩, rfl, rfl⟩

theorem c_g_strings_Contains (N : Nat) : Ctr Tryz.prog Vp 197 ⟨[.str, .str], [.bool], g_strings_Contains N⟩ := by
  refine ctr_scal (c := (Tryz.f197.body).getD .skip) Tryz.func197 (by kernel_rfl) (by kernel_rfl) rfl rfl ?_
  intro w args vals r hg ha hF
  obtain ⟨ws, us, rfl, ⟨_, rfl, _⟩, _, rfl, _⟩ := args2 ha
  simp only [g_strings_Contains] at hF
  split at hF
  · rename_i hlt
    cases hF
    obtain ⟨⟨m, hm⟩, _⟩ := hg
    refine (Tryz.strings_Contains _ _ m w hlt hm).mono ?_
    rintro e w' ⟨rfl, rfl⟩
    exact ⟨[_], rfl, Below.refl _ _, [_], [], [], rfl, ⟨rfl, rfl⟩, rfl, rfl⟩
  · cases hF

theorem c_g_strconv_Itoa (N : Nat) : Ctr Tryz.prog Vp 215 ⟨[(.int .i64)], [.str], g_strconv_Itoa N⟩ := by
  refine ctr_scal (c := (Tryz.f215.body).getD .skip) Tryz.func215 (by kernel_rfl) (by kernel_rfl) rfl rfl ?_
  intro w args vals r hg ha hF
  obtain ⟨ws, rfl, _, rfl, _⟩ := args1 ha
  simp only [g_strconv_Itoa] at hF
  split at hF
  · rename_i hlt
    cases hF
    obtain ⟨_, ht, _⟩ := hg
    refine (Tryz.strconv_Itoa _ hlt.1 hlt.2 w ht).mono ?_
    rintro e w' ⟨rfl, k, os, rfl⟩
    exact ⟨[_], rfl, Lib.below_grow _ w (Nat.le_refl _) k os, [_], [], [], rfl, ⟨rfl, rfl⟩, rfl, rfl⟩
  · cases hF
end Go.Rf

namespace Go.Rf
open Go.Proofs
set_option maxRecDepth 100000
abbrev t167o : Ty := (.pair (.int .i64) (.pair (.int .i64) (.pair .str (.pair (.sl .own .str) (.pair (.sl .own (.int .i64)) .unit)))))
abbrev t167l : Ty := (.pair (.int .i64) (.pair (.int .i64) (.pair .str (.pair (.sl .lend .str) (.pair (.sl .lend (.int .i64)) .unit)))))
abbrev t115o : Ty := (.pair (.sl .own t167o) (.pair (.int .i64) .unit))
abbrev t115l : Ty := (.pair (.sl .lend t167l) (.pair (.int .i64) .unit))
abbrev t159o : Ty := (.pair .str (.pair t115o .unit))
abbrev t159l : Ty := (.pair .str (.pair t115l .unit))
abbrev t51o : Ty := (.pair .str (.pair (.sl .own .str) (.pair (.sl .own .str) (.pair (.sl .own (.pair .str (.pair (.int .i64) .unit))) (.pair (.sl .own t159o) (.pair (.sl .own t159o) .unit))))))
abbrev t51l : Ty := (.pair .str (.pair (.sl .lend .str) (.pair (.sl .lend .str) (.pair (.sl .lend (.pair .str (.pair (.int .i64) .unit))) (.pair (.sl .lend t159l) (.pair (.sl .lend t159l) .unit))))))
noncomputable def tabP : Nat → Option Ty := look [(3, (.int .i64)), (5, (.int .u8)), (9, .str), (22, (.sl .own (.int .u8))), (32, (.sl .own .str)), (49, (.sl .own (.pair .str (.pair (.int .i64) .unit)))), (50, (.sl .own t159o)), (52, t51o), (55, (.sl .own (.pair .str (.pair (.int .i64) .unit)))), (56, (.sl .own t159o)), (58, t51o), (65, (.sl .own t51o)), (67, (.sl .own (.sl .own .str))), (69, (.sl .own t51o)), (97, (.sl .own (.int .i64))), (114, (.sl .own t167o)), (116, t115o), (154, (.pair .str (.pair (.int .i64) .unit))), (156, (.sl .own t167o)), (158, t115o), (160, t159o), (163, (.pair .str (.pair (.int .i64) .unit))), (166, t159o), (168, t167o), (237, t167o)]
theorem tabP_ok : TabOK Tryz.prog tabP := by
  refine look_all (Q := fun t s => RowOK Tryz.prog tabP t s) _ ?_
  intro p hp
  simp only [List.mem_cons, List.not_mem_nil, or_false] at hp
  rcases hp with rfl | rfl | rfl | rfl | rfl | rfl | rfl | rfl | rfl | rfl | rfl | rfl | rfl | rfl | rfl | rfl | rfl | rfl | rfl | rfl | rfl | rfl | rfl | rfl | rfl
  · exact rowOK_of (by kernel_rfl) (by kernel_rfl) (by kernel_rfl)
  · exact rowOK_of (by kernel_rfl) (by kernel_rfl) (by kernel_rfl)
  · exact rowOK_of (by kernel_rfl) (by kernel_rfl) (by kernel_rfl)
  · exact rowOK_of (by kernel_rfl) (by kernel_rfl) (by kernel_rfl)
  · exact rowOK_of (by kernel_rfl) (by kernel_rfl) (by kernel_rfl)
  · exact rowOK_of (by kernel_rfl) (by kernel_rfl) (by kernel_rfl)
  · exact rowOK_of (by kernel_rfl) (by kernel_rfl) (by kernel_rfl)
  · exact rowOK_of (by kernel_rfl) (by kernel_rfl) (by kernel_rfl)
  · exact rowOK_of (by kernel_rfl) (by kernel_rfl) (by kernel_rfl)
  · exact rowOK_of (by kernel_rfl) (by kernel_rfl) (by kernel_rfl)
  · exact rowOK_of (by kernel_rfl) (by kernel_rfl) (by kernel_rfl)
  · exact rowOK_of (by kernel_rfl) (by kernel_rfl) (by kernel_rfl)
  · exact rowOK_of (by kernel_rfl) (by kernel_rfl) (by kernel_rfl)
  · exact rowOK_of (by kernel_rfl) (by kernel_rfl) (by kernel_rfl)
  · exact rowOK_of (by kernel_rfl) (by kernel_rfl) (by kernel_rfl)
  · exact rowOK_of (by kernel_rfl) (by kernel_rfl) (by kernel_rfl)
  · exact rowOK_of (by kernel_rfl) (by kernel_rfl) (by kernel_rfl)
  · exact rowOK_of (by kernel_rfl) (by kernel_rfl) (by kernel_rfl)
  · exact rowOK_of (by kernel_rfl) (by kernel_rfl) (by kernel_rfl)
  · exact rowOK_of (by kernel_rfl) (by kernel_rfl) (by kernel_rfl)
  · exact rowOK_of (by kernel_rfl) (by kernel_rfl) (by kernel_rfl)
  · exact rowOK_of (by kernel_rfl) (by kernel_rfl) (by kernel_rfl)
  · exact rowOK_of (by kernel_rfl) (by kernel_rfl) (by kernel_rfl)
  · exact rowOK_of (by kernel_rfl) (by kernel_rfl) (by kernel_rfl)
  · exact rowOK_of (by kernel_rfl) (by kernel_rfl) (by kernel_rfl)
noncomputable def E_i_inRange (N : Nat) : Cz := { tab := tabP, n := 15, V := Vp, ann := look [], fn := look [], fx := look [] }
def A_i_inRange : An := { join := look [], loop := look [], ret := [⟨6, .val, .bool⟩] }
theorem c_i_inRange (N : Nat) : Ctr Tryz.prog Vp 107 ⟨[(.int .i64), (.int .i64), (.int .i64)], [.bool], i_inRange N⟩ := by
  have hE : EnvOK Tryz.prog (E_i_inRange N) := ⟨tabP_ok, (fun _ _ h => by cases h), (fun _ _ h => by cases h)⟩
  have h := fn_sound hE (by kernel_rfl) (N := N) (A := A_i_inRange) (pl := [⟨0, .val, (.int .i64)⟩, ⟨1, .val, (.int .i64)⟩, ⟨2, .val, (.int .i64)⟩]) (fid := 107) (fn := Tryz.f107) (c := ((Tryz.f107.body).getD .skip)) ⟨Tryz.func107, by kernel_rfl, by kernel_rfl, by kernel_rfl, Nat.le_of_ble_eq_true (by kernel_rfl), by kernel_rfl, by kernel_rfl, Nat.le_of_ble_eq_true (by kernel_rfl), by kernel_rfl⟩
  have e : i_inRange N = evalF (E_i_inRange N) A_i_inRange N [⟨0, .val, (.int .i64)⟩, ⟨1, .val, (.int .i64)⟩, ⟨2, .val, (.int .i64)⟩] ((Tryz.f107.body).getD .skip) := funext fun x => by kernel_rfl
  rw [e]
  exact h
noncomputable def E_i_Dec (N : Nat) : Cz := { tab := tabP, n := 5, V := Vp, ann := look [], fn := look [(215, (⟨[(.int .i64)], [.str], g_strconv_Itoa N⟩ : Fn))], fx := look [] }
def A_i_Dec : An := { join := look [], loop := look [], ret := [⟨2, .val, .str⟩] }
theorem c_i_Dec (N : Nat) : Ctr Tryz.prog Vp 190 ⟨[(.int .i64)], [.str], i_Dec N⟩ := by
  have hE : EnvOK Tryz.prog (E_i_Dec N) := ⟨tabP_ok, look_all (Q := fun t s => Ctr Tryz.prog Vp t s) _ (by
    intro p hp
    simp only [List.mem_cons, List.not_mem_nil, or_false] at hp
    rcases hp with rfl
    · exact c_g_strconv_Itoa N), (fun _ _ h => by cases h)⟩
  have h := fn_sound hE (by kernel_rfl) (N := N) (A := A_i_Dec) (pl := [⟨0, .val, (.int .i64)⟩]) (fid := 190) (fn := Tryz.f190) (c := ((Tryz.f190.body).getD .skip)) ⟨Tryz.func190, by kernel_rfl, by kernel_rfl, by kernel_rfl, Nat.le_of_ble_eq_true (by kernel_rfl), by kernel_rfl, by kernel_rfl, Nat.le_of_ble_eq_true (by kernel_rfl), by kernel_rfl⟩
  have e : i_Dec N = evalF (E_i_Dec N) A_i_Dec N [⟨0, .val, (.int .i64)⟩] ((Tryz.f190.body).getD .skip) := funext fun x => by kernel_rfl
  rw [e]
  exact h
end Go.Rf

namespace Go.Rf
open Go.Proofs Go.RowKit
set_option maxRecDepth 100000

theorem gW_size {w : World} (h : gW w) : 4 ≤ w.heap.size := by
  obtain ⟨_, h1, _⟩ := h
  have hn : Tryz.prog.globalNamed "internal/strconv.uint64pow10" = some 3 := by kernel_rfl
  simp only [Lib.TabIs, World.var?, hn, Option.bind_some] at h1
  rcases Nat.lt_or_ge 3 w.heap.size with h | h
  · exact h
  · rw [Array.getElem?_eq_none h] at h1; cases h1

theorem ctr_use {fid : Nat} {ps rs : List Ty} {F : LD ps → Option (LD rs)} (hr1 : rs.all Ty.scal = true) (h : Ctr Tryz.prog Vp fid ⟨ps, rs, F⟩) {w : World} (hg : gW w) {args : LD ps} {vals : List Value} {r : LD rs}
    (ha : ArgsRel (fun _ b => b < w.heap.size) (hp w) ps vals args []) (hF : F args = some r) :
    Calls Tryz.prog fid vals.toArray w fun e w' => ∃ rv, e = .returned (retVal rv) ∧ Below w.heap.size w w' ∧ ArgsRel (fun _ _ => False) (fun _ => none) rs rv r [] := by
  refine (h.calls w (fun _ b => b < w.heap.size) args vals [] r (fun _ _ h => h) (fun _ h => h) ⟨fun b hb => Nat.lt_of_lt_of_le hb (gW_size hg), hg⟩ ha (by simp) (by simp) hF).mono ?_
  rintro e w' ⟨rv, T, g, rfl, hf, hr, _⟩
  exact ⟨rv, rfl, ⟨hf.os, hf.tape, hf.output, hf.size, fun b hb => hf.block b hb (by intro h; cases h)⟩, (hr.scal hr1).2⟩

theorem inRange_any (a b c : Int) (w : World) (hg : gW w) : Calls Tryz.prog 107 #[.int .i64 a, .int .i64 b, .int .i64 c] w fun e w' => e = .returned (.bool (decide (b ≤ a ∧ a ≤ c))) ∧ Below w.heap.size w w' := by
  have hF : i_inRange 0 (a, b, c, ()) = some (decide (b ≤ a ∧ a ≤ c), ()) := by
    unfold i_inRange
    by_cases h1 : b ≤ a <;> by_cases h2 : a ≤ c <;> simp [h1, h2]
  refine (ctr_use rfl (c_i_inRange 0) hg (args := (a, b, c, ())) (vals := [.int .i64 a, .int .i64 b, .int .i64 c]) ⟨[_], [], [], rfl, ⟨rfl, rfl⟩, rfl, [_], [], [], rfl, ⟨rfl, rfl⟩, rfl, [_], [], [], rfl, ⟨rfl, rfl⟩, rfl, rfl⟩ hF).mono ?_
  rintro e w' ⟨rv, rfl, hb, hr⟩
  obtain ⟨ws, rfl, _, rfl, _⟩ := args1 hr
  exact ⟨rfl, hb⟩

theorem dec_any (n : Int) (h1 : -9223372036854775808 ≤ n) (h2 : n ≤ 9223372036854775807) (w : World) (hg : gW w) : Calls Tryz.prog 190 #[.int .i64 n] w fun e w' => e = .returned (.string ⟨(Lib.itoa n).toArray⟩) ∧ Below w.heap.size w w' := by
  have hF : i_Dec 0 (n, ()) = some (⟨(Lib.itoa n).toArray⟩, ()) := by
    unfold i_Dec g_strconv_Itoa
    simp [h1, h2]
  refine (ctr_use rfl (c_i_Dec 0) hg (args := (n, ())) (vals := [.int .i64 n]) ⟨[_], [], [], rfl, ⟨rfl, rfl⟩, rfl, rfl⟩ hF).mono ?_
  rintro e w' ⟨rv, rfl, hb, hr⟩
  obtain ⟨ws, rfl, _, rfl, _⟩ := args1 hr
  exact ⟨rfl, hb⟩

theorem gW_below {w w' : World} (hg : gW w) (h : Below w.heap.size w w') : gW w' := gW_loc w w' (fun b hb => h.block b (Nat.lt_of_lt_of_le hb (gW_size hg))) hg

theorem c_i_ReadDec (N : Nat) : Ctr Tryz.prog Vp 154 ⟨[.str], [(.int .i64), .bool], i_ReadDec N⟩ := by
  refine ctr_scal (c := (Tryz.f154.body).getD .skip) Tryz.func154 (by kernel_rfl) (by kernel_rfl) rfl rfl ?_
  intro w args vals r hg ha hF
  obtain ⟨ws, rfl, _, rfl, _⟩ := args1 ha
  obtain ⟨s, u⟩ := args
  have hg : gW w := hg
  show Calls Tryz.prog 154 #[.string s] w _
  unfold i_ReadDec at hF
  simp only at hF
  generalize hd : Lib.trimPrefix s.data.toList [45] = d at hF
  have hd' : Lib.trimPrefix s.data.toList (⟨#[45]⟩ : ByteArray).data.toList = d := hd
  have hsz : s.size = s.data.toList.length := by rw [Array.length_toList]; rfl
  by_cases hlen : 1 ≤ d.length ∧ d.length ≤ 9
  · rw [if_pos hlen] at hF
    have hs11 : s.size ≤ 10 := by
      rw [hsz]
      have : s.data.toList.length ≤ d.length + 1 := by
        rw [← hd]
        unfold Lib.trimPrefix
        split <;> simp <;> omega
      omega
    have hin : ∀ w : World, gW w → Calls Tryz.prog 107 #[.int .i64 d.length, .int .i64 1, .int .i64 9] w fun e w' => e = .returned (.bool true) ∧ Below w.heap.size w w' := fun w hg =>
      (inRange_any _ _ _ w hg).mono (by rintro e w1 ⟨rfl, h⟩; refine ⟨?_, h⟩; congr 2; simp; omega)
    cases hat : Lib.atoiAll s.data.toList
    · rename_i v
      have hv : -9223372036854775808 ≤ v ∧ v ≤ 9223372036854775807 := by
        unfold Lib.atoiAll at hat
        split at hat
        · cases hat
        · simp only at hat
          split at hat
          · cases hat
          · cases hat
          · split at hat
            · cases hat
            · split at hat
              · cases hat
              · cases hat
                split <;> omega
      rw [hat] at hF
      simp only at hF
      go_enter Tryz.func154, Tryz.ntmps154
      go_wp2_with (go_at_call 188; refine (Tryz.strings_TrimPrefix _ _ _).mono ?_; rintro e w' ⟨rfl, rfl⟩)
      refine (hin _ hg).mono ?_
      rintro e w1 ⟨rfl, hb1⟩
      have hg1 := gW_below hg hb1
      go_wp2_with (go_at_call 189; refine (Tryz.strconv_Atoi_ok s (by omega) v hat w1).mono ?_)
      rintro e w2 ⟨rfl, hw2⟩
      have hb2 : Below w1.heap.size w1 w2 := by
        rcases hw2 with rfl | ⟨t, rfl⟩
        · exact Below.refl _ _
        · exact ⟨rfl, rfl, rfl, by rw [Lib.bytesWorld_size]; omega, fun j hj => Lib.bytesWorld_at_old w1 5 t j hj⟩
      have hg2 := gW_below hg1 hb2
      go_wp2_with (go_at_call 190; refine (dec_any v hv.1 hv.2 w2 hg2).mono ?_)
      rintro e w3 ⟨rfl, hb3⟩
      go_wp2
      all_goals
        rename_i hne
        go_ret2
        rw [ByteArray.toList_eq] at hne
      · have hne' : ¬ Lib.itoa v = s.data.toList := by simpa using hne
        rw [if_neg hne'] at hF
        cases hF
        exact ⟨[.int .i64 0, .bool false], rfl, (hb1.trans (hb2.mono hb1.size)).trans (hb3.mono (Nat.le_trans hb1.size hb2.size)), [_], [], [], rfl, ⟨rfl, rfl⟩, rfl, [_], [], [], rfl, ⟨rfl, rfl⟩, rfl, rfl⟩
      · have hne' : Lib.itoa v = s.data.toList := by simpa using hne
        rw [if_pos hne'] at hF
        cases hF
        exact ⟨[.int .i64 v, .bool true], rfl, (hb1.trans (hb2.mono hb1.size)).trans (hb3.mono (Nat.le_trans hb1.size hb2.size)), [_], [], [], rfl, ⟨rfl, rfl⟩, rfl, [_], [], [], rfl, ⟨rfl, rfl⟩, rfl, rfl⟩
    · rw [hat] at hF
      simp only at hF
      cases hF
      go_enter Tryz.func154, Tryz.ntmps154
      go_wp2_with (go_at_call 188; refine (Tryz.strings_TrimPrefix _ _ _).mono ?_; rintro e w' ⟨rfl, rfl⟩)
      refine (hin _ hg).mono ?_
      rintro e w1 ⟨rfl, hb1⟩
      have hg1 := gW_below hg hb1
      obtain ⟨_, _, ⟨te, pe, hc⟩, _⟩ := hg1
      go_wp2_with (go_at_call 189; refine (Any.strconv_Atoi_syntax Tryz.laysC172 s (by omega) hat _ w1 hc (.inr ⟨te, pe, rfl⟩)).mono ?_)
      rintro e w2 ⟨N', rfl, _, _, hb2⟩
      go_wp2
      go_ret2
      exact ⟨[.int .i64 0, .bool false], rfl, hb1.trans (hb2.mono hb1.size), [_], [], [], rfl, ⟨rfl, rfl⟩, rfl, [_], [], [], rfl, ⟨rfl, rfl⟩, rfl, rfl⟩
    · rw [hat] at hF
      simp only at hF
      cases hF
      go_enter Tryz.func154, Tryz.ntmps154
      go_wp2_with (go_at_call 188; refine (Tryz.strings_TrimPrefix _ _ _).mono ?_; rintro e w' ⟨rfl, rfl⟩)
      refine (hin _ hg).mono ?_
      rintro e w1 ⟨rfl, hb1⟩
      have hg1 := gW_below hg hb1
      obtain ⟨_, _, _, ⟨te, pe, hc⟩⟩ := hg1
      go_wp2_with (go_at_call 189; refine (Tryz.strconv_Atoi_range s (by omega) hat _ w1 hc (.inr ⟨te, pe, rfl⟩)).mono ?_)
      rintro e w2 ⟨N', rfl, _, _, hb2⟩
      go_wp2
      go_ret2
      exact ⟨[.int .i64 0, .bool false], rfl, hb1.trans (hb2.mono hb1.size), [_], [], [], rfl, ⟨rfl, rfl⟩, rfl, [_], [], [], rfl, ⟨rfl, rfl⟩, rfl, rfl⟩
  · rw [if_neg hlen] at hF
    cases hF
    have hin : ∀ w : World, gW w → Calls Tryz.prog 107 #[.int .i64 d.length, .int .i64 1, .int .i64 9] w fun e w' => e = .returned (.bool false) ∧ Below w.heap.size w w' := fun w hg =>
      (inRange_any _ _ _ w hg).mono (by rintro e w1 ⟨rfl, h⟩; refine ⟨?_, h⟩; congr 2; simp; omega)
    go_enter Tryz.func154, Tryz.ntmps154
    go_wp2_with (go_at_call 188; refine (Tryz.strings_TrimPrefix _ _ _).mono ?_; rintro e w' ⟨rfl, rfl⟩)
    refine (hin _ hg).mono ?_
    rintro e w1 ⟨rfl, hb1⟩
    go_wp2
    go_ret2
    exact ⟨[.int .i64 0, .bool false], rfl, hb1, [_], [], [], rfl, ⟨rfl, rfl⟩, rfl, [_], [], [], rfl, ⟨rfl, rfl⟩, rfl, rfl⟩
end Go.Rf

namespace Go.Rf
open Go.Proofs Go.RowKit Go.Sort

/-! ## slices.Sort of strings -/
theorem str_rows {S : Stab} {H : Heap} : ∀ {xs : List ByteArray} {cs : List Value} {f : List Nat}, Rows (Rep S H .str) 1 cs xs f → cs.take xs.length = xs.map Value.string ∧ f = [] := by
  intro xs
  induction xs with
  | nil => intro cs f h; exact ⟨by simp, h⟩
  | cons x xs ih =>
    rintro cs f ⟨f1, f2, rfl, ⟨h1, rfl⟩, h2⟩
    obtain ⟨k1, rfl⟩ := ih h2
    cases cs with
    | nil => simp at h1
    | cons c cs =>
      simp only [List.take_succ_cons, List.take_zero, List.cons.injEq, and_true] at h1
      subst h1
      refine ⟨?_, rfl⟩
      simp only [List.length_cons, List.take_succ_cons, List.map_cons, List.cons.injEq, true_and]
      exact k1

theorem rows_str {S : Stab} {H : Heap} : ∀ {xs : List ByteArray} {cs : List Value}, cs.take xs.length = xs.map Value.string → Rows (Rep S H .str) 1 cs xs [] := by
  intro xs
  induction xs with
  | nil => intro cs _; rfl
  | cons x xs ih =>
    intro cs h
    cases cs with
    | nil => simp at h
    | cons c cs =>
      simp only [List.length_cons, List.take_succ_cons, List.map_cons, List.cons.injEq] at h
      exact ⟨[], [], rfl, ⟨by simp [h.1], rfl⟩, ih h.2⟩

theorem enters_of {P : Program} {fid : Nat} {fn : Func} (h : P.funcs[fid]? = some fn) {c : Code} (hb : fn.body = some c) (hname : (fn.name == "runtime.NumGoroutine") = false) : ∀ args w, (callFunc fid args).run P w = .ok (.enter fid args) w := by
  intro args w
  have h1 : fn.name ≠ "runtime.NumGoroutine" := by simpa using hname
  simp [callFunc, h, h1, hb, mark]

theorem sortL_length (xs : List ByteArray) : (sortL xs).length = xs.length := by simp [sortL]

theorem sort_ctr {P : Program} {V : Glb} {fid : Nat} {F : LD [.sl .own .str] → Option (LD [.sl .own .str])}
    (hs : ∀ (blk off cap : Nat) (ss : List (List UInt8)) (w : World), Sort.Holds encStr w blk off ss.toArray → blk < w.heap.size → ss.length < 4611686018427387904 →
      Calls P fid #[.slice (some ⟨blk, off, none⟩) ss.length cap] w fun e w' => e = .returned (.tuple #[]) ∧ ∃ n os, w' = grow (putRow encStr (Sort.ahead w n) blk off (ss.mergeSort fun x y => decide (x ≤ y)).toArray) os)
    (hn : ∀ (p : Option Addr) (cap : Nat) (w : World), Calls P fid #[.slice p 0 cap] w fun e w' => e = .returned (.tuple #[]) ∧ w' = w)
    (he : ∀ args w, (callFunc fid args).run P w = .ok (.enter fid args) w)
    (hF : F = fun x => if List.length x.1 ≤ 4294967296 then some (sortL x.1, ()) else none) : CtrX P V fid ⟨[.io true], [.sl .own .str], [.io], [.sl .own .str], F⟩ := by
  subst hF
  refine ⟨he, ?_⟩
  intro w S args vals qs fp r hstab hkl hglb ha hnd hfp hF
  obtain ⟨xs, u⟩ := args
  have hF : (if List.length (xs : List ByteArray) ≤ 4294967296 then some (sortL xs, ()) else none) = some r := hF
  split at hF
  rotate_left
  · cases hF
  rename_i hlen
  cases hF
  cases vals with
  | nil => cases qs <;> simp only [ParRel] at ha
  | cons v vals =>
  cases qs with
  | nil => simp only [ParRel] at ha
  | cons q qs =>
    obtain ⟨hsome, rfl, f1, f2, hh, rfl, ha⟩ := ha
    cases vals with
    | cons _ _ => simp only [ParRel] at ha
    | nil =>
    cases qs with
    | cons _ _ => simp only [ParRel] at ha
    | nil =>
    have ha : f2 = [] := ha
    subst ha
    obtain ⟨qB, qpre, qpost, qel, qfr, qhd⟩ := q
    cases qhd with
    | none => simp at hsome
    | some hd =>
      obtain ⟨ag, cells⟩ := hd
      obtain ⟨hrep, hag⟩ := hh
      simp only [Ty.isAgg] at hag
      subst hag
      obtain ⟨base, len, cap, hcells, hl, hc, hh⟩ := hrep
      simp only at hcells
      subst hcells
      simp only [Plc.ptr, Bool.false_eq_true, if_false, List.headD_cons, List.append_nil] at *
      have key : ∀ w', Frm w w' (Blk.of fun b => b ∈ f1) → Rep (fun _ _ => False) (hp w') (.sl .own .str) [.slice base len cap] (sortL xs) f1 →
          ∃ rv T g, Ending.returned (.tuple #[]) = .returned (retVal rv) ∧ Frm w w' (Blk.of fun b => b ∈ f1) ∧ OutRel (fun _ => T) (hp w') [.io] [.sl .own .str] rv [⟨qB, qpre, qpost, qel, qfr, some (false, [.slice base len cap])⟩] (sortL xs, ()) g ∧
            (∀ b, T b → b < w'.heap.size ∧ (S .keep b ∨ w.heap.size ≤ b ∨ b ∈ f1)) ∧ g.Nodup ∧ (∀ b ∈ g, b < w'.heap.size ∧ ¬ T b ∧ (w.heap.size ≤ b ∨ b ∈ f1)) := by
        intro w' hf hr
        refine ⟨[], fun _ => False, f1, rfl, hf, ⟨f1, [], ⟨hr, rfl⟩, by simp, rfl⟩, fun b h => h.elim, hnd, fun b hb => ⟨Nat.lt_of_lt_of_le (hfp b hb).1 hf.size, id, .inr hb⟩⟩
      rcases hh with ⟨hc0, rfl⟩ | ⟨b, off, c, el', fr, f2, rfl, hbb, hsz, hr, h⟩
      · have hl0 : len = 0 := by omega
        have hxs : (xs : List ByteArray) = [] := List.eq_nil_of_length_eq_zero (by omega)
        subst hxs hl0
        refine (hn base cap w).mono ?_
        rintro e w' ⟨rfl, rfl⟩
        exact key w' ⟨rfl, rfl, rfl, Nat.le_refl _, fun _ _ _ => rfl⟩ ⟨base, 0, cap, rfl, by simp [sortL], hc, .inl ⟨hc0, rfl⟩⟩
      · rcases h with ⟨h, _⟩ | ⟨_, hso, rfl⟩
        · simp at h
        obtain ⟨hrow, rfl⟩ := str_rows hr
        have hfit : off + cap ≤ c.size := by simpa [Ty.size] using hsz
        have hbs : b < w.heap.size := (hfp b (by simp)).1
        obtain ⟨ss, hss⟩ : ∃ ss : List (List UInt8), ss = (xs : List ByteArray).map fun s => s.data.toList := ⟨_, rfl⟩
        have hsl : ss.length = len := by rw [hss, hl]; simp
        have hcell : ∀ j, j < len → c[off + j]? = ((xs : List ByteArray)[j]?).map Value.string := by
          intro j hj
          have := congrArg (fun l => l[j]?) hrow
          simp only [List.getElem?_map, List.getElem?_take, ← hl, if_pos hj, List.getElem?_drop] at this
          rw [← this]; simp
        have hhold : Sort.Holds encStr w b off ss.toArray := by
          intro j hj
          have hj : j < len := by simpa [hsl] using hj
          refine ⟨?_, frozen_hp hbb hso (by omega)⟩
          rw [cell_hp hbb, hcell j hj]
          have hjx : j < (xs : List ByteArray).length := by omega
          have e1 : ss.toArray[j]! = (xs[j]).data.toList := by
            rw [getElem!_pos _ j (by simpa [hsl] using hj)]
            simp [hss]
          rw [e1, List.getElem?_eq_getElem hjx]
          simp [encStr]
        have hcall := hs b off cap ss w hhold hbs (by rw [hsl]; omega)
        rw [hsl] at hcall
        refine hcall.mono ?_
        rintro e w' ⟨rfl, n, os, rfl⟩
        have hlr : (ss.mergeSort fun x y => decide (x ≤ y)).length = len := by rw [List.length_mergeSort, hsl]
        have hoth : ∀ q, q < w.heap.size → q ≠ b → hp (grow (putRow encStr (Sort.ahead w n) b off (ss.mergeSort fun x y => decide (x ≤ y)).toArray) os) q = hp w q := by
          intro q hq hne
          simp only [hp, grow, putRow, mapBlock, Sort.ahead]
          rw [Array.getElem?_append_left (by simpa using hq), Array.getElem?_modify, if_neg (fun e => hne e.symm)]
        have hnew : hp (grow (putRow encStr (Sort.ahead w n) b off (ss.mergeSort fun x y => decide (x ≤ y)).toArray) os) b = some (.cells (putCells encStr off (ss.mergeSort fun x y => decide (x ≤ y)).toArray c) el' fr) := by
          have hbb' : w.heap[b]? = some (.cells c el' fr) := hbb
          simp only [hp, grow, putRow, mapBlock, Sort.ahead]
          rw [Array.getElem?_append_left (by simpa using hbs), Array.getElem?_modify, if_pos rfl, hbb']
          rfl
        refine key _ ⟨rfl, rfl, rfl, ?_, fun q hq hG => hoth q hq (fun e => hG (by subst e; show q ∈ [q]; simp))⟩ ?_
        · simp [grow, putRow, mapBlock, Sort.ahead]
        · refine ⟨some ⟨b, off, none⟩, len, cap, rfl, by rw [sortL_length, hl], hc, .inr ⟨b, off, _, el', fr, [], rfl, hnew, by simpa [putCells, Ty.size] using hfit, ?_, .inr ⟨rfl, by simpa [putCells] using hso, rfl⟩⟩⟩
          refine rows_str ?_
          apply List.ext_getElem?
          intro j
          rw [sortL_length, ← hl, List.getElem?_take, List.getElem?_drop, List.getElem?_map]
          by_cases hj : j < len
          · rw [if_pos hj]
            have hjc : off + j < c.size := by omega
            simp only [putCells, Array.getElem?_toList, Array.getElem?_mapIdx, Array.getElem?_eq_getElem hjc, Option.map_some, List.size_toArray, hlr]
            rw [if_pos ⟨by omega, by omega⟩, show off + j - off = j by omega]
            simp only [sortL, ← hss, List.getElem?_map]
            rw [List.getElem?_eq_getElem (by omega), getElem!_pos _ j (by simpa [hlr] using hj)]
            simp [encStr]
          · rw [if_neg hj, List.getElem?_eq_none (by rw [sortL_length]; omega)]; rfl

end Go.Rf

namespace Go.Rf
open Go.Proofs
set_option maxRecDepth 100000
theorem c_g_slices_Sort_string_string_ (N : Nat) : CtrX Tryz.prog Vp 94 ⟨[.io true], [(.sl .own .str)], [.io], [(.sl .own .str)], g_slices_Sort_string_string_ N⟩ :=
  sort_ctr (fun b off cap ss w h1 h2 h3 => Tryz.slices_Sort_string b off cap ss w h1 h2 h3) Tryz.slices_Sort_string_none (enters_of Tryz.func94 (c := (Tryz.f94.body).getD .skip) (by kernel_rfl) (by kernel_rfl)) rfl
end Go.Rf
