/-
  Functions of the library do what their plain functions say (contracts), where the library's variables hold what they are laid to hold.
-/
import Derived.Test.YtkifpahhppbdkaaGreatDoorUNat
import Derived.Test.YtkifpahhppbdkaaGreatDoorShelf
import Derived.WalkKit
import Derived.ProofKit
import Derived.KernelRfl
import Derived.Lib.AppendIntMem
import Derived.Test.YtkifpahhppbdkaaGreatDoorURfD
import Derived.Shelf.Spec.SlicesGrow
import Derived.Laws.AppendOwn
set_option linter.unusedSimpArgs false
set_option linter.unusedVariables false
set_option autoImplicit false
namespace Go.Rf
open Go.Proofs Go.RowKit

theorem args1 {S : Stab} {H : Heap} {τ : Ty} {vals : List Value} {x : LD [τ]} {g : List Nat} (h : ArgsRel S H [τ] vals x g) : ∃ ws, vals = [valOf τ ws] ∧ ∃ f, Rep S H τ ws x.1 f := by
  match vals, h with
  | [v], ⟨ws, f1, f2, e, hr, _, _⟩ => exact ⟨ws, by rw [e], f1, hr⟩
theorem args2 {S : Stab} {H : Heap} {τ σ : Ty} {vals : List Value} {x : LD [τ, σ]} {g : List Nat} (h : ArgsRel S H [τ, σ] vals x g) : ∃ ws us, vals = [valOf τ ws, valOf σ us] ∧ (∃ f, Rep S H τ ws x.1 f) ∧ ∃ f, Rep S H σ us x.2.1 f := by
  match vals, h with
  | [v, u], ⟨ws, f1, f2, e, hr, _, ⟨us, f3, f4, e2, hr2, _, _⟩⟩ => exact ⟨ws, us, by rw [e, e2], ⟨f1, hr⟩, f3, hr2⟩

theorem rstr {S : Stab} {H : Heap} {s : ByteArray} : Rep S H .str [.string s] s [] := ⟨rfl, rfl⟩

/-- what is known of the program's variables -/
def gW (w : World) : Prop :=
  (∃ m, w.cell? ⟨0, 0, none⟩ = some (.int .i64 m)) ∧ Lib.TabIs Tryz.prog w "internal/strconv.uint64pow10" IntKind.u64 Lib.pow10Tab ∧
  (∃ t p, w.cell? ⟨1, 0, none⟩ = some (.iface t p)) ∧ (∃ t p, w.cell? ⟨2, 0, none⟩ = some (.iface t p))

theorem cell_of_hp {w w' : World} {b : Nat} (h : hp w' b = hp w b) : w'.cell? ⟨b, 0, none⟩ = w.cell? ⟨b, 0, none⟩ := by
  simp only [hp] at h
  simp [World.cell?, h]

theorem gW_loc (w w' : World) (h : ∀ b, b < 4 → hp w' b = hp w b) (hg : gW w) : gW w' := by
  obtain ⟨h0, h1, h2, h3⟩ := hg
  refine ⟨?_, ?_, ?_, ?_⟩
  · rw [cell_of_hp (h 0 (by decide))]; exact h0
  · have hn : Tryz.prog.globalNamed "internal/strconv.uint64pow10" = some 3 := by kernel_rfl
    have h33 := h 3 (by decide)
    simp only [hp] at h33
    simp only [Lib.TabIs, World.var?, hn, Option.bind_some, h33] at h1 ⊢
    exact h1
  · rw [cell_of_hp (h 1 (by decide))]; exact h2
  · rw [cell_of_hp (h 2 (by decide))]; exact h3

def Vp : Glb := ⟨4, gW, gW_loc⟩

set_option maxRecDepth 100000

theorem c_g_strings_IndexByte (N : Nat) : Ctr Tryz.prog Vp 187 ⟨[.str, (.int .u8)], [(.int .i64)], g_strings_IndexByte N⟩ := by
  refine ctr_scal (c := (Tryz.f187.body).getD .skip) Tryz.func187 (by kernel_rfl) (by kernel_rfl) rfl rfl ?_
  intro w args vals r _ ha hF
  obtain ⟨ws, us, rfl, ⟨_, rfl, _⟩, _, rfl, _⟩ := args2 ha
  simp only [g_strings_IndexByte, Option.some.injEq] at hF
  subst hF
  refine (Tryz.strings_IndexByte _ _ w).mono ?_
  rintro e w' ⟨rfl, rfl⟩
  exact ⟨[_], rfl, Below.refl _ _, [_], [], [], rfl, ⟨rfl, rfl⟩, rfl, rfl⟩

theorem c_g_strings_TrimPrefix (N : Nat) : Ctr Tryz.prog Vp 188 ⟨[.str, .str], [.str], g_strings_TrimPrefix N⟩ := by
  refine ctr_scal (c := (Tryz.f188.body).getD .skip) Tryz.func188 (by kernel_rfl) (by kernel_rfl) rfl rfl ?_
  intro w args vals r _ ha hF
  obtain ⟨ws, us, rfl, ⟨_, rfl, _⟩, _, rfl, _⟩ := args2 ha
  simp only [g_strings_TrimPrefix, Option.some.injEq] at hF
  subst hF
  refine (Tryz.strings_TrimPrefix _ _ w).mono ?_
  rintro e w' ⟨rfl, rfl⟩
  exact ⟨[_], rfl, Below.refl _ _, [_], [], [], rfl, ⟨rfl, rfl⟩, rfl, rfl⟩

theorem c_g_strings_Contains (N : Nat) : Ctr Tryz.prog Vp 197 ⟨[.str, .str], [.bool], g_strings_Contains N⟩ := by
  refine ctr_scal (c := (Tryz.f197.body).getD .skip) Tryz.func197 (by kernel_rfl) (by kernel_rfl) rfl rfl ?_
  intro w args vals r hg ha hF
  obtain ⟨ws, us, rfl, ⟨_, rfl, _⟩, _, rfl, _⟩ := args2 ha
  simp only [g_strings_Contains] at hF
  split at hF
  · rename_i hlt
    cases hF
    obtain ⟨⟨m, hm⟩, _⟩ := hg
    refine (Tryz.strings_Contains _ _ m w hlt hm).mono ?_
    rintro e w' ⟨rfl, rfl⟩
    exact ⟨[_], rfl, Below.refl _ _, [_], [], [], rfl, ⟨rfl, rfl⟩, rfl, rfl⟩
  · cases hF

theorem c_g_strconv_Itoa (N : Nat) : Ctr Tryz.prog Vp 215 ⟨[(.int .i64)], [.str], g_strconv_Itoa N⟩ := by
  refine ctr_scal (c := (Tryz.f215.body).getD .skip) Tryz.func215 (by kernel_rfl) (by kernel_rfl) rfl rfl ?_
  intro w args vals r hg ha hF
  obtain ⟨ws, rfl, _, rfl, _⟩ := args1 ha
  simp only [g_strconv_Itoa] at hF
  split at hF
  · rename_i hlt
    cases hF
    obtain ⟨_, ht, _⟩ := hg
    refine (Tryz.strconv_Itoa _ hlt.1 hlt.2 w ht).mono ?_
    rintro e w' ⟨rfl, k, os, rfl⟩
    exact ⟨[_], rfl, Lib.below_grow _ w (Nat.le_refl _) k os, [_], [], [], rfl, ⟨rfl, rfl⟩, rfl, rfl⟩
  · cases hF
end Go.Rf

namespace Go.Rf
open Go.Proofs
set_option maxRecDepth 100000
abbrev t167o : Ty := (.pair (.int .i64) (.pair (.int .i64) (.pair .str (.pair (.sl .own .str) (.pair (.sl .own (.int .i64)) .unit)))))
abbrev t167k : Ty := (.pair (.int .i64) (.pair (.int .i64) (.pair .str (.pair (.sl .keep .str) (.pair (.sl .keep (.int .i64)) .unit)))))
abbrev t167l : Ty := (.pair (.int .i64) (.pair (.int .i64) (.pair .str (.pair (.sl .lend .str) (.pair (.sl .lend (.int .i64)) .unit)))))
abbrev t115o : Ty := (.pair (.sl .own t167o) (.pair (.int .i64) .unit))
abbrev t115k : Ty := (.pair (.sl .keep t167k) (.pair (.int .i64) .unit))
abbrev t115l : Ty := (.pair (.sl .lend t167l) (.pair (.int .i64) .unit))
abbrev t222o : Ty := (.pair (.sl .own t167o) (.pair (.sl .own .str) .unit))
abbrev t159o : Ty := (.pair .str (.pair t115o .unit))
abbrev t159k : Ty := (.pair .str (.pair t115k .unit))
abbrev t159l : Ty := (.pair .str (.pair t115l .unit))
abbrev t51o : Ty := (.pair .str (.pair (.sl .own .str) (.pair (.sl .own .str) (.pair (.sl .own (.pair .str (.pair (.int .i64) .unit))) (.pair (.sl .own t159o) (.pair (.sl .own t159o) .unit))))))
abbrev t51k : Ty := (.pair .str (.pair (.sl .keep .str) (.pair (.sl .keep .str) (.pair (.sl .keep (.pair .str (.pair (.int .i64) .unit))) (.pair (.sl .keep t159k) (.pair (.sl .keep t159k) .unit))))))
abbrev t51l : Ty := (.pair .str (.pair (.sl .lend .str) (.pair (.sl .lend .str) (.pair (.sl .lend (.pair .str (.pair (.int .i64) .unit))) (.pair (.sl .lend t159l) (.pair (.sl .lend t159l) .unit))))))
noncomputable def tabP : Nat → Option Ty := look [(3, (.int .i64)), (5, (.int .u8)), (9, .str), (22, (.sl .own (.int .u8))), (32, (.sl .own .str)), (49, (.sl .own (.pair .str (.pair (.int .i64) .unit)))), (50, (.sl .own t159o)), (52, t51o), (55, (.sl .own (.pair .str (.pair (.int .i64) .unit)))), (56, (.sl .own t159o)), (58, t51o), (67, (.sl .own (.sl .own .str))), (97, (.sl .own (.int .i64))), (111, (.sl .own t115o)), (114, (.sl .own t167o)), (116, t115o), (154, (.pair .str (.pair (.int .i64) .unit))), (156, (.sl .own t167o)), (158, t115o), (160, t159o), (163, (.pair .str (.pair (.int .i64) .unit))), (166, t159o), (168, t167o), (223, t222o), (237, t167o), (240, (.sl .own (.sl .own t159o)))]
theorem tabP_ok : TabOK Tryz.prog tabP := by
  refine look_all (Q := fun t s => RowOK Tryz.prog tabP t s) _ ?_
  intro p hp
  simp only [List.mem_cons, List.not_mem_nil, or_false] at hp
  rcases hp with rfl | rfl | rfl | rfl | rfl | rfl | rfl | rfl | rfl | rfl | rfl | rfl | rfl | rfl | rfl | rfl | rfl | rfl | rfl | rfl | rfl | rfl | rfl | rfl | rfl | rfl
  · exact rowOK_of (by kernel_rfl) (by kernel_rfl) (by kernel_rfl)
  · exact rowOK_of (by kernel_rfl) (by kernel_rfl) (by kernel_rfl)
  · exact rowOK_of (by kernel_rfl) (by kernel_rfl) (by kernel_rfl)
  · exact rowOK_of (by kernel_rfl) (by kernel_rfl) (by kernel_rfl)
  · exact rowOK_of (by kernel_rfl) (by kernel_rfl) (by kernel_rfl)
  · exact rowOK_of (by kernel_rfl) (by kernel_rfl) (by kernel_rfl)
  · exact rowOK_of (by kernel_rfl) (by kernel_rfl) (by kernel_rfl)
  · exact rowOK_of (by kernel_rfl) (by kernel_rfl) (by kernel_rfl)
  · exact rowOK_of (by kernel_rfl) (by kernel_rfl) (by kernel_rfl)
  · exact rowOK_of (by kernel_rfl) (by kernel_rfl) (by kernel_rfl)
  · exact rowOK_of (by kernel_rfl) (by kernel_rfl) (by kernel_rfl)
  · exact rowOK_of (by kernel_rfl) (by kernel_rfl) (by kernel_rfl)
  · exact rowOK_of (by kernel_rfl) (by kernel_rfl) (by kernel_rfl)
  · exact rowOK_of (by kernel_rfl) (by kernel_rfl) (by kernel_rfl)
  · exact rowOK_of (by kernel_rfl) (by kernel_rfl) (by kernel_rfl)
  · exact rowOK_of (by kernel_rfl) (by kernel_rfl) (by kernel_rfl)
  · exact rowOK_of (by kernel_rfl) (by kernel_rfl) (by kernel_rfl)
  · exact rowOK_of (by kernel_rfl) (by kernel_rfl) (by kernel_rfl)
  · exact rowOK_of (by kernel_rfl) (by kernel_rfl) (by kernel_rfl)
  · exact rowOK_of (by kernel_rfl) (by kernel_rfl) (by kernel_rfl)
  · exact rowOK_of (by kernel_rfl) (by kernel_rfl) (by kernel_rfl)
  · exact rowOK_of (by kernel_rfl) (by kernel_rfl) (by kernel_rfl)
  · exact rowOK_of (by kernel_rfl) (by kernel_rfl) (by kernel_rfl)
  · exact rowOK_of (by kernel_rfl) (by kernel_rfl) (by kernel_rfl)
  · exact rowOK_of (by kernel_rfl) (by kernel_rfl) (by kernel_rfl)
  · exact rowOK_of (by kernel_rfl) (by kernel_rfl) (by kernel_rfl)
noncomputable def E_i_inRange (N : Nat) : Cz := { tab := tabP, n := 15, V := Vp, ann := look [], fn := look [], fx := look [] }
def A_i_inRange : An := { join := look [], loop := look [], ret := [⟨6, .val, .bool⟩] }
theorem c_i_inRange (N : Nat) : Ctr Tryz.prog Vp 107 ⟨[(.int .i64), (.int .i64), (.int .i64)], [.bool], i_inRange N⟩ := by
  have hE : EnvOK Tryz.prog (E_i_inRange N) := ⟨tabP_ok, (fun _ _ h => by cases h), (fun _ _ h => by cases h)⟩
  have h := fn_sound hE (by kernel_rfl) (N := N) (A := A_i_inRange) (pl := [⟨0, .val, (.int .i64)⟩, ⟨1, .val, (.int .i64)⟩, ⟨2, .val, (.int .i64)⟩]) (fid := 107) (fn := Tryz.f107) (c := ((Tryz.f107.body).getD .skip)) ⟨Tryz.func107, by kernel_rfl, by kernel_rfl, by kernel_rfl, Nat.le_of_ble_eq_true (by kernel_rfl), by kernel_rfl, by kernel_rfl, Nat.le_of_ble_eq_true (by kernel_rfl), by kernel_rfl⟩
  have e : i_inRange N = evalF (E_i_inRange N) A_i_inRange N [⟨0, .val, (.int .i64)⟩, ⟨1, .val, (.int .i64)⟩, ⟨2, .val, (.int .i64)⟩] ((Tryz.f107.body).getD .skip) := funext fun x => by kernel_rfl
  rw [e]
  exact h
noncomputable def E_i_Dec (N : Nat) : Cz := { tab := tabP, n := 5, V := Vp, ann := look [], fn := look [(215, (⟨[(.int .i64)], [.str], g_strconv_Itoa N⟩ : Fn))], fx := look [] }
def A_i_Dec : An := { join := look [], loop := look [], ret := [⟨2, .val, .str⟩] }
theorem c_i_Dec (N : Nat) : Ctr Tryz.prog Vp 190 ⟨[(.int .i64)], [.str], i_Dec N⟩ := by
  have hE : EnvOK Tryz.prog (E_i_Dec N) := ⟨tabP_ok, look_all (Q := fun t s => Ctr Tryz.prog Vp t s) _ (by
    intro p hp
    simp only [List.mem_cons, List.not_mem_nil, or_false] at hp
    rcases hp with rfl
    · exact c_g_strconv_Itoa N), (fun _ _ h => by cases h)⟩
  have h := fn_sound hE (by kernel_rfl) (N := N) (A := A_i_Dec) (pl := [⟨0, .val, (.int .i64)⟩]) (fid := 190) (fn := Tryz.f190) (c := ((Tryz.f190.body).getD .skip)) ⟨Tryz.func190, by kernel_rfl, by kernel_rfl, by kernel_rfl, Nat.le_of_ble_eq_true (by kernel_rfl), by kernel_rfl, by kernel_rfl, Nat.le_of_ble_eq_true (by kernel_rfl), by kernel_rfl⟩
  have e : i_Dec N = evalF (E_i_Dec N) A_i_Dec N [⟨0, .val, (.int .i64)⟩] ((Tryz.f190.body).getD .skip) := funext fun x => by kernel_rfl
  rw [e]
  exact h
end Go.Rf

namespace Go.Rf
open Go.Proofs Go.RowKit
set_option maxRecDepth 100000

theorem gW_size {w : World} (h : gW w) : 4 ≤ w.heap.size := by
  obtain ⟨_, h1, _⟩ := h
  have hn : Tryz.prog.globalNamed "internal/strconv.uint64pow10" = some 3 := by kernel_rfl
  simp only [Lib.TabIs, World.var?, hn, Option.bind_some] at h1
  rcases Nat.lt_or_ge 3 w.heap.size with h | h
  · exact h
  · rw [Array.getElem?_eq_none h] at h1; cases h1

theorem ctr_use {fid : Nat} {ps rs : List Ty} {F : LD ps → Option (LD rs)} (hr1 : rs.all Ty.scal = true) (h : Ctr Tryz.prog Vp fid ⟨ps, rs, F⟩) {w : World} (hg : gW w) {args : LD ps} {vals : List Value} {r : LD rs}
    (ha : ArgsRel (fun _ b => b < w.heap.size) (hp w) ps vals args []) (hF : F args = some r) :
    Calls Tryz.prog fid vals.toArray w fun e w' => ∃ rv, e = .returned (retVal rv) ∧ Below w.heap.size w w' ∧ ArgsRel (fun _ _ => False) (fun _ => none) rs rv r [] := by
  refine (h.calls w (fun _ b => b < w.heap.size) args vals [] r (fun _ _ h => h) (fun _ h => h) ⟨fun b hb => Nat.lt_of_lt_of_le hb (gW_size hg), hg⟩ ha (by simp) (by simp) hF).mono ?_
  rintro e w' ⟨rv, T, g, rfl, hf, hr, _⟩
  exact ⟨rv, rfl, ⟨hf.os, hf.tape, hf.output, hf.size, fun b hb => hf.block b hb (by intro h; cases h)⟩, (hr.scal hr1).2⟩

theorem inRange_any (a b c : Int) (w : World) (hg : gW w) : Calls Tryz.prog 107 #[.int .i64 a, .int .i64 b, .int .i64 c] w fun e w' => e = .returned (.bool (decide (b ≤ a ∧ a ≤ c))) ∧ Below w.heap.size w w' := by
  have hF : i_inRange 0 (a, b, c, ()) = some (decide (b ≤ a ∧ a ≤ c), ()) := by
    unfold i_inRange
    by_cases h1 : b ≤ a <;> by_cases h2 : a ≤ c <;> simp [h1, h2]
  refine (ctr_use rfl (c_i_inRange 0) hg (args := (a, b, c, ())) (vals := [.int .i64 a, .int .i64 b, .int .i64 c]) ⟨[_], [], [], rfl, ⟨rfl, rfl⟩, rfl, [_], [], [], rfl, ⟨rfl, rfl⟩, rfl, [_], [], [], rfl, ⟨rfl, rfl⟩, rfl, rfl⟩ hF).mono ?_
  rintro e w' ⟨rv, rfl, hb, hr⟩
  obtain ⟨ws, rfl, _, rfl, _⟩ := args1 hr
  exact ⟨rfl, hb⟩

theorem dec_any (n : Int) (h1 : -9223372036854775808 ≤ n) (h2 : n ≤ 9223372036854775807) (w : World) (hg : gW w) : Calls Tryz.prog 190 #[.int .i64 n] w fun e w' => e = .returned (.string ⟨(Lib.itoa n).toArray⟩) ∧ Below w.heap.size w w' := by
  have hF : i_Dec 0 (n, ()) = some (⟨(Lib.itoa n).toArray⟩, ()) := by
    unfold i_Dec g_strconv_Itoa
    simp [h1, h2]
  refine (ctr_use rfl (c_i_Dec 0) hg (args := (n, ())) (vals := [.int .i64 n]) ⟨[_], [], [], rfl, ⟨rfl, rfl⟩, rfl, rfl⟩ hF).mono ?_
  rintro e w' ⟨rv, rfl, hb, hr⟩
  obtain ⟨ws, rfl, _, rfl, _⟩ := args1 hr
  exact ⟨rfl, hb⟩

theorem gW_below {w w' : World} (hg : gW w) (h : Below w.heap.size w w') : gW w' := gW_loc w w' (fun b hb => h.block b (Nat.lt_of_lt_of_le hb (gW_size hg))) hg

theorem c_i_ReadDec (N : Nat) : Ctr Tryz.prog Vp 154 ⟨[.str], [(.int .i64), .bool], i_ReadDec N⟩ := by
  refine ctr_scal (c := (Tryz.f154.body).getD .skip) Tryz.func154 (by kernel_rfl) (by kernel_rfl) rfl rfl ?_
  intro w args vals r hg ha hF
  obtain ⟨ws, rfl, _, rfl, _⟩ := args1 ha
  obtain ⟨s, u⟩ := args
  have hg : gW w := hg
  show Calls Tryz.prog 154 #[.string s] w _
  unfold i_ReadDec at hF
  simp only at hF
  generalize hd : Lib.trimPrefix s.data.toList [45] = d at hF
  have hd' : Lib.trimPrefix s.data.toList (⟨#[45]⟩ : ByteArray).data.toList = d := hd
  have hsz : s.size = s.data.toList.length := by rw [Array.length_toList]; rfl
  by_cases hlen : 1 ≤ d.length ∧ d.length ≤ 9
  · rw [if_pos hlen] at hF
    have hs11 : s.size ≤ 10 := by
      rw [hsz]
      have : s.data.toList.length ≤ d.length + 1 := by
        rw [← hd]
        unfold Lib.trimPrefix
        split <;> simp <;> omega
      omega
    have hin : ∀ w : World, gW w → Calls Tryz.prog 107 #[.int .i64 d.length, .int .i64 1, .int .i64 9] w fun e w' => e = .returned (.bool true) ∧ Below w.heap.size w w' := fun w hg =>
      (inRange_any _ _ _ w hg).mono (by rintro e w1 ⟨rfl, h⟩; refine ⟨?_, h⟩; congr 2; simp; omega)
    cases hat : Lib.atoiAll s.data.toList
    · rename_i v
      have hv : -9223372036854775808 ≤ v ∧ v ≤ 9223372036854775807 := by
        unfold Lib.atoiAll at hat
        split at hat
        · cases hat
        · simp only at hat
          split at hat
          · cases hat
          · cases hat
          · split at hat
            · cases hat
            · split at hat
              · cases hat
              · cases hat
                split <;> omega
      rw [hat] at hF
      simp only at hF
      go_enter Tryz.func154, Tryz.ntmps154
      go_wp2_with (go_at_call 188; refine (Tryz.strings_TrimPrefix _ _ _).mono ?_; rintro e w' ⟨rfl, rfl⟩)
      refine (hin _ hg).mono ?_
      rintro e w1 ⟨rfl, hb1⟩
      have hg1 := gW_below hg hb1
      go_wp2_with (go_at_call 189; refine (Tryz.strconv_Atoi_ok s (by omega) v hat w1).mono ?_)
      rintro e w2 ⟨rfl, hw2⟩
      have hb2 : Below w1.heap.size w1 w2 := by
        rcases hw2 with rfl | ⟨t, rfl⟩
        · exact Below.refl _ _
        · exact ⟨rfl, rfl, rfl, by rw [Lib.bytesWorld_size]; omega, fun j hj => Lib.bytesWorld_at_old w1 5 t j hj⟩
      have hg2 := gW_below hg1 hb2
      go_wp2_with (go_at_call 190; refine (dec_any v hv.1 hv.2 w2 hg2).mono ?_)
      rintro e w3 ⟨rfl, hb3⟩
      go_wp2
      all_goals
        rename_i hne
        go_ret2
        rw [ByteArray.toList_eq] at hne
      · have hne' : ¬ Lib.itoa v = s.data.toList := by simpa using hne
        rw [if_neg hne'] at hF
        cases hF
        exact ⟨[.int .i64 0, .bool false], rfl, (hb1.trans (hb2.mono hb1.size)).trans (hb3.mono (Nat.le_trans hb1.size hb2.size)), [_], [], [], rfl, ⟨rfl, rfl⟩, rfl, [_], [], [], rfl, ⟨rfl, rfl⟩, rfl, rfl⟩
      · have hne' : Lib.itoa v = s.data.toList := by simpa using hne
        rw [if_pos hne'] at hF
        cases hF
        exact ⟨[.int .i64 v, .bool true], rfl, (hb1.trans (hb2.mono hb1.size)).trans (hb3.mono (Nat.le_trans hb1.size hb2.size)), [_], [], [], rfl, ⟨rfl, rfl⟩, rfl, [_], [], [], rfl, ⟨rfl, rfl⟩, rfl, rfl⟩
    · rw [hat] at hF
      simp only at hF
      cases hF
      go_enter Tryz.func154, Tryz.ntmps154
      go_wp2_with (go_at_call 188; refine (Tryz.strings_TrimPrefix _ _ _).mono ?_; rintro e w' ⟨rfl, rfl⟩)
      refine (hin _ hg).mono ?_
      rintro e w1 ⟨rfl, hb1⟩
      have hg1 := gW_below hg hb1
      obtain ⟨_, _, ⟨te, pe, hc⟩, _⟩ := hg1
      go_wp2_with (go_at_call 189; refine (Any.strconv_Atoi_syntax Tryz.laysC172 s (by omega) hat _ w1 hc (.inr ⟨te, pe, rfl⟩)).mono ?_)
      rintro e w2 ⟨N', rfl, _, _, hb2⟩
      go_wp2
      go_ret2
      exact ⟨[.int .i64 0, .bool false], rfl, hb1.trans (hb2.mono hb1.size), [_], [], [], rfl, ⟨rfl, rfl⟩, rfl, [_], [], [], rfl, ⟨rfl, rfl⟩, rfl, rfl⟩
    · rw [hat] at hF
      simp only at hF
      cases hF
      go_enter Tryz.func154, Tryz.ntmps154
      go_wp2_with (go_at_call 188; refine (Tryz.strings_TrimPrefix _ _ _).mono ?_; rintro e w' ⟨rfl, rfl⟩)
      refine (hin _ hg).mono ?_
      rintro e w1 ⟨rfl, hb1⟩
      have hg1 := gW_below hg hb1
      obtain ⟨_, _, _, ⟨te, pe, hc⟩⟩ := hg1
      go_wp2_with (go_at_call 189; refine (Tryz.strconv_Atoi_range s (by omega) hat _ w1 hc (.inr ⟨te, pe, rfl⟩)).mono ?_)
      rintro e w2 ⟨N', rfl, _, _, hb2⟩
      go_wp2
      go_ret2
      exact ⟨[.int .i64 0, .bool false], rfl, hb1.trans (hb2.mono hb1.size), [_], [], [], rfl, ⟨rfl, rfl⟩, rfl, [_], [], [], rfl, ⟨rfl, rfl⟩, rfl, rfl⟩
  · rw [if_neg hlen] at hF
    cases hF
    have hin : ∀ w : World, gW w → Calls Tryz.prog 107 #[.int .i64 d.length, .int .i64 1, .int .i64 9] w fun e w' => e = .returned (.bool false) ∧ Below w.heap.size w w' := fun w hg =>
      (inRange_any _ _ _ w hg).mono (by rintro e w1 ⟨rfl, h⟩; refine ⟨?_, h⟩; congr 2; simp; omega)
    go_enter Tryz.func154, Tryz.ntmps154
    go_wp2_with (go_at_call 188; refine (Tryz.strings_TrimPrefix _ _ _).mono ?_; rintro e w' ⟨rfl, rfl⟩)
    refine (hin _ hg).mono ?_
    rintro e w1 ⟨rfl, hb1⟩
    go_wp2
    go_ret2
    exact ⟨[.int .i64 0, .bool false], rfl, hb1, [_], [], [], rfl, ⟨rfl, rfl⟩, rfl, [_], [], [], rfl, ⟨rfl, rfl⟩, rfl, rfl⟩
end Go.Rf

namespace Go.Rf
open Go.Proofs Go.RowKit

/-! ## slices.Grow of nothing -/
theorem zeroCells_size (z : Array Value) (n : Nat) : (Builtin.zeroCells z n).size = n * z.size := by simp [Builtin.zeroCells]

theorem grow_ctr {P : Program} {ρ : Go.Shelf.Ren} {V : Glb} {tab : Nat → Option Ty} {s e : Ty} {fid : Nat} {F : LD [.nil, .int .i64] → Option (LD [.sl .own e])} (L : Lays8.n4 P ρ) (hfid : ρ.f 4 = fid)
    (hF : F = fun x => if 0 ≤ x.2.1 ∧ x.2.1 ≤ 4294967296 then some ([], ()) else none) (hr : RowOK P tab (ρ.t 25) s) (hse : s.size = e.size) (hs0 : Nat.blt 0 s.size = true) : Ctr P V fid ⟨[.nil, .int .i64], [.sl .own e], F⟩ := by
  subst hF hfid
  have hs0 : 0 < s.size := Nat.le_of_ble_eq_true hs0
  refine ⟨?_, ?_⟩
  · exact L.f4.enters rfl
  · intro w S args vals fp r hstab hkl hglb ha hnd hfp hF
    obtain ⟨x1, n, u⟩ := args
    match vals, ha with
    | [v1, v2], ha =>
      obtain ⟨ws1, f1, f2, rfl, ⟨⟨a, rfl⟩, rfl⟩, rfl, ws2, f3, f4, rfl, ⟨rfl, rfl⟩, rfl, hfp2⟩ := ha
      have hF : (if 0 ≤ (n : Int) ∧ (n : Int) ≤ 4294967296 then some (([] : List e.D), ()) else none) = some r := hF
      split at hF
      rotate_left
      · cases hF
      rename_i hn
      have hn : 0 ≤ n ∧ n ≤ 4294967296 := hn
      cases hF
      obtain ⟨m, hm0⟩ : ∃ m : Nat, (n : Int) = (m : Int) := ⟨Int.toNat n, (Int.toNat_of_nonneg hn.1).symm⟩
      subst hm0
      have hm : m ≤ 4294967296 := by have h : (m : Int) ≤ (4294967296 : Int) := hn.2; omega
      have e1 : valOf .nil [.slice a 0 0] = .slice a 0 0 := rfl
      have e2 : valOf (.int .i64) [.int .i64 (m : Int)] = .int .i64 (m : Int) := rfl
      rw [e1, e2]
      rcases Nat.eq_zero_or_pos m with h0 | h0
      · subst h0
        refine (Any8.slices_Grow_room L a 0 0 0 w (by omega) (by omega) (by omega) (by omega)).mono ?_
        rintro e w' ⟨rfl, rfl⟩
        exact ⟨[.slice a 0 0], fun _ => False, [], rfl, ⟨rfl, rfl, rfl, Nat.le_refl _, fun _ _ _ => rfl⟩, ⟨[.slice a 0 0], [], [], rfl, ⟨a, 0, 0, rfl, rfl, Nat.le_refl _, .inl ⟨rfl, rfl⟩⟩, rfl, rfl⟩, fun b h => h.elim, by simp, by simp⟩
      · obtain ⟨nb, hnb, hinfo⟩ := hr.info
        obtain ⟨i0, hi0, hi1⟩ := Option.map_eq_some_iff.1 hinfo
        simp only [Prod.mk.injEq] at hi1
        obtain ⟨k1, k2, k3⟩ := hi1
        have hz := zero_rep (fun _ _ => False) (hp w) s
        have hc : (valOf s (zeroC s)).cells = (zeroC s).toArray := by rw [valOf_like (skel_agg (zero_skel s)).symm]; exact valOf_cells hz.length hz.oneCell
        have hzl : (zeroC s).length = s.size := by rw [hz.length, skel_size_eq (zero_skel s)]
        have hzs : (valOf s (zeroC s)).cells.size = s.size := by rw [hc]; simpa using hzl
        have hmul : (0 + m) * i0.bytes ≤ 140737488355328 := by
          rw [k2]
          have := Nat.mul_le_mul hm hnb
          rw [Nat.zero_add]; omega
        refine (Any8.slices_Grow_grow L i0 (valOf s (zeroC s)) hi0 k3 (by omega) a 0 0 m [] w (by omega) (by omega) hmul (by omega) (by simp) (fun _ => rfl) (fun _ _ j v h => by simp at h)).mono ?_
        rintro e w' ⟨rfl, rfl⟩
        have hge := grownCap_ge w (0 + m) 0 (ρ.t 25)
        generalize grownCap w (0 + m) 0 (ρ.t 25) = cap at hge ⊢
        generalize hcs : (([] : List Value).toArray ++ Builtin.zeroCells (valOf s (zeroC s)).cells (0 + m - 0) ++ Builtin.zeroCells (valOf s (zeroC s)).cells (cap - (0 + m))) = cs
        have hcl : cs.size = cap * s.size := by
          rw [← hcs]
          simp only [Array.size_append, zeroCells_size, hzs, List.size_toArray, List.length_nil, Nat.zero_add, Nat.sub_zero]
          rw [← Nat.add_mul]
          congr 1; omega
        have hnew : hp (w.drew.alloc (.cells cs (ρ.t 25))) w.heap.size = some (.cells cs (ρ.t 25)) := hp_alloc_new (w := w.drew)
        have hsz : (w.drew.alloc (.cells cs (ρ.t 25))).heap.size = w.heap.size + 1 := by show (w.heap.push _).size = w.heap.size + 1; simp
        refine ⟨[.slice (some ⟨w.heap.size, 0, none⟩) 0 cap], fun _ => False, [w.heap.size], rfl, ⟨rfl, rfl, rfl, by rw [hsz]; omega, fun b hb _ => hp_alloc_old (w := w.drew) hb⟩,
          ⟨[.slice (some ⟨w.heap.size, 0, none⟩) 0 cap], [w.heap.size], [], rfl, ⟨some ⟨w.heap.size, 0, none⟩, 0, cap, rfl, rfl, Nat.zero_le _, .inr ⟨w.heap.size, 0, cs, ρ.t 25, (0, 0), [], rfl, hnew, ?_, rfl, .inr ⟨rfl, ?_, rfl⟩⟩⟩, rfl, rfl⟩, fun b h => h.elim, by simp, fun b hb => ?_⟩
        · rw [hcl, hse]; omega
        · intro o _; simp
        · simp only [List.mem_singleton] at hb
          subst hb
          exact ⟨by rw [hsz]; omega, fun h => h, .inl (Nat.le_refl _)⟩
end Go.Rf

namespace Go.Rf
open Go.Proofs
set_option maxRecDepth 100000
def grow220_ren : Go.Shelf.Ren := ⟨fun | 4 => 220 | n => n, fun | 0 => 0 | 3 => 3 | 4 => 4 | 9 => 9 | 20 => 20 | 22 => 56 | 25 => 166 | n => n, fun n => n⟩
theorem grow220_lays : Go.Proofs.Lays8.n4 Tryz.prog grow220_ren := {
  mixed := by kernel_rfl
  f4 := ⟨Tryz.f220.name, by kernel_rfl, Tryz.func220.trans (congrArg some (by kernel_rfl))⟩
  t0 := Tryz.underlying0
  a0 := Tryz.isAgg0
  z0 := Tryz.sizeOf0
  v0 := Tryz.zeroValue0
  t3 := Tryz.underlying3
  a3 := Tryz.isAgg3
  z3 := Tryz.sizeOf3
  v3 := Tryz.zeroValue3
  t4 := Tryz.underlying4
  a4 := Tryz.isAgg4
  z4 := Tryz.sizeOf4
  v4 := Tryz.zeroValue4
  t9 := Tryz.underlying9
  a9 := Tryz.isAgg9
  z9 := Tryz.sizeOf9
  v9 := Tryz.zeroValue9
  t20 := Tryz.underlying20
  a20 := Tryz.isAgg20
  z20 := Tryz.sizeOf20
  v20 := Tryz.zeroValue20
  t22 := Tryz.underlying56
  a22 := Tryz.isAgg56
  z22 := Tryz.sizeOf56
  v22 := Tryz.zeroValue56 }
theorem c_g_slices_Grow_loop_example_g00765_impl_Def_loop_example_g00765_impl_Def_ (N : Nat) : Ctr Tryz.prog Vp 220 ⟨[.nil, (.int .i64)], [(.sl .own t159k)], g_slices_Grow_loop_example_g00765_impl_Def_loop_example_g00765_impl_Def_ N⟩ := by
  have hsz : (tabP 166) = some t159o := by kernel_rfl
  exact grow_ctr grow220_lays rfl (by kernel_rfl) (tabP_ok _ _ hsz) rfl rfl
def grow242_ren : Go.Shelf.Ren := ⟨fun | 4 => 242 | n => n, fun | 0 => 0 | 3 => 3 | 4 => 4 | 9 => 9 | 20 => 20 | 22 => 32 | 25 => 9 | n => n, fun n => n⟩
theorem grow242_lays : Go.Proofs.Lays8.n4 Tryz.prog grow242_ren := {
  mixed := by kernel_rfl
  f4 := ⟨Tryz.f242.name, by kernel_rfl, Tryz.func242.trans (congrArg some (by kernel_rfl))⟩
  t0 := Tryz.underlying0
  a0 := Tryz.isAgg0
  z0 := Tryz.sizeOf0
  v0 := Tryz.zeroValue0
  t3 := Tryz.underlying3
  a3 := Tryz.isAgg3
  z3 := Tryz.sizeOf3
  v3 := Tryz.zeroValue3
  t4 := Tryz.underlying4
  a4 := Tryz.isAgg4
  z4 := Tryz.sizeOf4
  v4 := Tryz.zeroValue4
  t9 := Tryz.underlying9
  a9 := Tryz.isAgg9
  z9 := Tryz.sizeOf9
  v9 := Tryz.zeroValue9
  t20 := Tryz.underlying20
  a20 := Tryz.isAgg20
  z20 := Tryz.sizeOf20
  v20 := Tryz.zeroValue20
  t22 := Tryz.underlying32
  a22 := Tryz.isAgg32
  z22 := Tryz.sizeOf32
  v22 := Tryz.zeroValue32 }
theorem c_g_slices_Grow_string_string_ (N : Nat) : Ctr Tryz.prog Vp 242 ⟨[.nil, (.int .i64)], [(.sl .own .str)], g_slices_Grow_string_string_ N⟩ := by
  have hsz : (tabP 9) = some .str := by kernel_rfl
  exact grow_ctr grow242_lays rfl (by kernel_rfl) (tabP_ok _ _ hsz) rfl rfl
end Go.Rf
