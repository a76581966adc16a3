/-
  Functions of the program do what their plain functions say (contracts), where the library's variables hold what they are laid to hold.
-/
import Derived.Test.YtkifpahhppbdkaaDoorANat
import Derived.Test.YtkifpahhppbdkaaDoorShelf
import Derived.WalkKit
import Derived.ProofKit
import Derived.KernelRfl
import Derived.Lib.AppendIntMem
set_option linter.unusedSimpArgs false
set_option linter.unusedVariables false
set_option autoImplicit false
namespace Go.Rf
open Go.Proofs Go.RowKit

theorem args1 {S : Stab} {H : Heap} {τ : Ty} {vals : List Value} {x : LD [τ]} {g : List Nat} (h : ArgsRel S H [τ] vals x g) : ∃ ws, vals = [valOf τ ws] ∧ ∃ f, Rep S H τ ws x.1 f := by
  match vals, h with
  | [v], ⟨ws, f1, f2, e, hr, _, _⟩ => exact ⟨ws, by rw [e], f1, hr⟩
theorem args2 {S : Stab} {H : Heap} {τ σ : Ty} {vals : List Value} {x : LD [τ, σ]} {g : List Nat} (h : ArgsRel S H [τ, σ] vals x g) : ∃ ws us, vals = [valOf τ ws, valOf σ us] ∧ (∃ f, Rep S H τ ws x.1 f) ∧ ∃ f, Rep S H σ us x.2.1 f := by
  match vals, h with
  | [v, u], ⟨ws, f1, f2, e, hr, _, ⟨us, f3, f4, e2, hr2, _, _⟩⟩ => exact ⟨ws, us, by rw [e, e2], ⟨f1, hr⟩, f3, hr2⟩

theorem rstr {S : Stab} {H : Heap} {s : ByteArray} : Rep S H .str [.string s] s [] := ⟨rfl, rfl⟩

/-- what is known of the program's variables -/
def gW (w : World) : Prop :=
  (∃ m, w.cell? ⟨0, 0, none⟩ = some (.int .i64 m)) ∧ Lib.TabIs Tryd.prog w "internal/strconv.uint64pow10" IntKind.u64 Lib.pow10Tab ∧
  (∃ t p, w.cell? ⟨1, 0, none⟩ = some (.iface t p)) ∧ (∃ t p, w.cell? ⟨2, 0, none⟩ = some (.iface t p))

theorem cell_of_hp {w w' : World} {b : Nat} (h : hp w' b = hp w b) : w'.cell? ⟨b, 0, none⟩ = w.cell? ⟨b, 0, none⟩ := by
  simp only [hp] at h
  simp [World.cell?, h]

theorem gW_loc (w w' : World) (h : ∀ b, b < 4 → hp w' b = hp w b) (hg : gW w) : gW w' := by
  obtain ⟨h0, h1, h2, h3⟩ := hg
  refine ⟨?_, ?_, ?_, ?_⟩
  · rw [cell_of_hp (h 0 (by decide))]; exact h0
  · have hn : Tryd.prog.globalNamed "internal/strconv.uint64pow10" = some 3 := by kernel_rfl
    have h33 := h 3 (by decide)
    simp only [hp] at h33
    simp only [Lib.TabIs, World.var?, hn, Option.bind_some, h33] at h1 ⊢
    exact h1
  · rw [cell_of_hp (h 1 (by decide))]; exact h2
  · rw [cell_of_hp (h 2 (by decide))]; exact h3

def Vp : Glb := ⟨4, gW, gW_loc⟩

set_option maxRecDepth 100000

theorem c_g_strings_IndexByte (N : Nat) : Ctr Tryd.prog Vp 75 ⟨[.str, (.int .u8)], [(.int .i64)], g_strings_IndexByte N⟩ := by
  refine ctr_scal (c := (Tryd.f75.body).getD .skip) Tryd.func75 (by kernel_rfl) (by kernel_rfl) rfl rfl ?_
  intro w args vals r _ ha hF
  obtain ⟨ws, us, rfl, ⟨_, rfl, _⟩, _, rfl, _⟩ := args2 ha
  simp only [g_strings_IndexByte, Option.some.injEq] at hF
  subst hF
  refine (Tryd.strings_IndexByte _ _ w).mono ?_
  rintro e w' ⟨rfl, rfl⟩
  exact ⟨[_], rfl, Below.refl _ _, [_], [], [], rfl, ⟨rfl, rfl⟩, rfl, rfl⟩

theorem c_g_strings_TrimPrefix (N : Nat) : Ctr Tryd.prog Vp 76 ⟨[.str, .str], [.str], g_strings_TrimPrefix N⟩ := by
  refine ctr_scal (c := (Tryd.f76.body).getD .skip) Tryd.func76 (by kernel_rfl) (by kernel_rfl) rfl rfl ?_
  intro w args vals r _ ha hF
  obtain ⟨ws, us, rfl, ⟨_, rfl, _⟩, _, rfl, _⟩ := args2 ha
  simp only [g_strings_TrimPrefix, Option.some.injEq] at hF
  subst hF
  refine (Tryd.strings_TrimPrefix _ _ w).mono ?_
  rintro e w' ⟨rfl, rfl⟩
  exact ⟨[_], rfl, Below.refl _ _, [_], [], [], rfl, ⟨rfl, rfl⟩, rfl, rfl⟩

theorem c_g_strings_Contains (N : Nat) : Ctr Tryd.prog Vp 87 ⟨[.str, .str], [.bool], g_strings_Contains N⟩ := by
  refine ctr_scal (c := (Tryd.f87.body).getD .skip) Tryd.func87 (by kernel_rfl) (by kernel_rfl) rfl rfl ?_
  intro w args vals r hg ha hF
  obtain ⟨ws, us, rfl, ⟨_, rfl, _⟩, _, rfl, _⟩ := args2 ha
  simp only [g_strings_Contains] at hF
  split at hF
  · rename_i hlt
    cases hF
    obtain ⟨⟨m, hm⟩, _⟩ := hg
    refine (Tryd.strings_Contains _ _ m w hlt hm).mono ?_
    rintro e w' ⟨rfl, rfl⟩
    exact ⟨[_], rfl, Below.refl _ _, [_], [], [], rfl, ⟨rfl, rfl⟩, rfl, rfl⟩
  · cases hF

theorem c_g_strconv_Itoa (N : Nat) : Ctr Tryd.prog Vp 86 ⟨[(.int .i64)], [.str], g_strconv_Itoa N⟩ := by
  refine ctr_scal (c := (Tryd.f86.body).getD .skip) Tryd.func86 (by kernel_rfl) (by kernel_rfl) rfl rfl ?_
  intro w args vals r hg ha hF
  obtain ⟨ws, rfl, _, rfl, _⟩ := args1 ha
  simp only [g_strconv_Itoa] at hF
  split at hF
  · rename_i hlt
    cases hF
    obtain ⟨_, ht, _⟩ := hg
    refine (Tryd.strconv_Itoa _ hlt.1 hlt.2 w ht).mono ?_
    rintro e w' ⟨rfl, k, os, rfl⟩
    exact ⟨[_], rfl, Lib.below_grow _ w (Nat.le_refl _) k os, [_], [], [], rfl, ⟨rfl, rfl⟩, rfl, rfl⟩
  · cases hF
end Go.Rf

namespace Go.Rf
open Go.Proofs
set_option maxRecDepth 100000
noncomputable def tabP : Nat → Option Ty := look [(3, (.int .i64)), (4, .bool), (5, (.int .u8)), (9, .str), (22, (.sl .own (.int .u8))), (24, (.sl .own (.pair (.int .i64) (.pair .str (.pair (.int .i64) (.pair (.int .i64) (.pair (.sl .own .str) (.pair (.sl .own (.pair (.int .i64) (.pair (.int .i64) (.pair .str .unit)))) .unit)))))))), (26, (.pair (.int .i64) (.pair (.int .i64) (.pair .str .unit)))), (32, (.sl .own .str)), (33, (.sl .own (.pair (.int .i64) (.pair (.int .i64) (.pair .str .unit))))), (35, (.pair (.int .i64) (.pair .str (.pair (.int .i64) (.pair (.int .i64) (.pair (.sl .own .str) (.pair (.sl .own (.pair (.int .i64) (.pair (.int .i64) (.pair .str .unit)))) .unit))))))), (36, (.sl .own (.pair (.int .i64) (.pair .str (.pair (.int .i64) (.pair (.int .i64) (.pair (.sl .own .str) (.pair (.sl .own (.pair (.int .i64) (.pair (.int .i64) (.pair .str .unit)))) .unit)))))))), (37, (.pair (.int .i64) (.pair (.int .i64) (.pair .str .unit)))), (55, (.sl .own (.int .i64))), (62, (.sl .own (.pair (.int .i64) (.pair (.int .i64) (.pair .str .unit))))), (64, (.pair (.int .i64) (.pair .str (.pair (.int .i64) (.pair (.int .i64) (.pair (.sl .own .str) (.pair (.sl .own (.pair (.int .i64) (.pair (.int .i64) (.pair .str .unit)))) .unit))))))), (75, (.pair (.sl .own (.int .u8)) (.pair (.int .i64) (.pair (.int .i64) .unit)))), (92, (.sl .own .bool))]
theorem tabP_ok : TabOK Tryd.prog tabP := by
  refine look_all (Q := fun t s => RowOK Tryd.prog tabP t s) _ ?_
  intro p hp
  simp only [List.mem_cons, List.not_mem_nil, or_false] at hp
  rcases hp with rfl | rfl | rfl | rfl | rfl | rfl | rfl | rfl | rfl | rfl | rfl | rfl | rfl | rfl | rfl | rfl | rfl
  · exact rowOK_of (by kernel_rfl) (by kernel_rfl) (by kernel_rfl)
  · exact rowOK_of (by kernel_rfl) (by kernel_rfl) (by kernel_rfl)
  · exact rowOK_of (by kernel_rfl) (by kernel_rfl) (by kernel_rfl)
  · exact rowOK_of (by kernel_rfl) (by kernel_rfl) (by kernel_rfl)
  · exact rowOK_of (by kernel_rfl) (by kernel_rfl) (by kernel_rfl)
  · exact rowOK_of (by kernel_rfl) (by kernel_rfl) (by kernel_rfl)
  · exact rowOK_of (by kernel_rfl) (by kernel_rfl) (by kernel_rfl)
  · exact rowOK_of (by kernel_rfl) (by kernel_rfl) (by kernel_rfl)
  · exact rowOK_of (by kernel_rfl) (by kernel_rfl) (by kernel_rfl)
  · exact rowOK_of (by kernel_rfl) (by kernel_rfl) (by kernel_rfl)
  · exact rowOK_of (by kernel_rfl) (by kernel_rfl) (by kernel_rfl)
  · exact rowOK_of (by kernel_rfl) (by kernel_rfl) (by kernel_rfl)
  · exact rowOK_of (by kernel_rfl) (by kernel_rfl) (by kernel_rfl)
  · exact rowOK_of (by kernel_rfl) (by kernel_rfl) (by kernel_rfl)
  · exact rowOK_of (by kernel_rfl) (by kernel_rfl) (by kernel_rfl)
  · exact rowOK_of (by kernel_rfl) (by kernel_rfl) (by kernel_rfl)
  · exact rowOK_of (by kernel_rfl) (by kernel_rfl) (by kernel_rfl)
noncomputable def E_i_inRange (N : Nat) : Cz := { tab := tabP, n := 15, V := Vp, ann := look [], fn := look [], fx := look [] }
def A_i_inRange : An := { join := look [], loop := look [], ret := [⟨6, .val, .bool⟩] }
theorem c_i_inRange (N : Nat) : Ctr Tryd.prog Vp 49 ⟨[(.int .i64), (.int .i64), (.int .i64)], [.bool], i_inRange N⟩ := by
  have hE : EnvOK Tryd.prog (E_i_inRange N) := ⟨tabP_ok, (fun _ _ h => by cases h), (fun _ _ h => by cases h)⟩
  have h := fn_sound hE (by kernel_rfl) (N := N) (A := A_i_inRange) (pl := [⟨0, .val, (.int .i64)⟩, ⟨1, .val, (.int .i64)⟩, ⟨2, .val, (.int .i64)⟩]) (fid := 49) (fn := Tryd.f49) (c := ((Tryd.f49.body).getD .skip)) ⟨Tryd.func49, by kernel_rfl, by kernel_rfl, by kernel_rfl, Nat.le_of_ble_eq_true (by kernel_rfl), by kernel_rfl, by kernel_rfl, Nat.le_of_ble_eq_true (by kernel_rfl), by kernel_rfl⟩
  have e : i_inRange N = evalF (E_i_inRange N) A_i_inRange N [⟨0, .val, (.int .i64)⟩, ⟨1, .val, (.int .i64)⟩, ⟨2, .val, (.int .i64)⟩] ((Tryd.f49.body).getD .skip) := funext fun x => by kernel_rfl
  rw [e]
  exact h
noncomputable def E_i_Dec (N : Nat) : Cz := { tab := tabP, n := 5, V := Vp, ann := look [], fn := look [(86, (⟨[(.int .i64)], [.str], g_strconv_Itoa N⟩ : Fn))], fx := look [] }
def A_i_Dec : An := { join := look [], loop := look [], ret := [⟨2, .val, .str⟩] }
theorem c_i_Dec (N : Nat) : Ctr Tryd.prog Vp 78 ⟨[(.int .i64)], [.str], i_Dec N⟩ := by
  have hE : EnvOK Tryd.prog (E_i_Dec N) := ⟨tabP_ok, look_all (Q := fun t s => Ctr Tryd.prog Vp t s) _ (by
    intro p hp
    simp only [List.mem_cons, List.not_mem_nil, or_false] at hp
    rcases hp with rfl
    · exact c_g_strconv_Itoa N), (fun _ _ h => by cases h)⟩
  have h := fn_sound hE (by kernel_rfl) (N := N) (A := A_i_Dec) (pl := [⟨0, .val, (.int .i64)⟩]) (fid := 78) (fn := Tryd.f78) (c := ((Tryd.f78.body).getD .skip)) ⟨Tryd.func78, by kernel_rfl, by kernel_rfl, by kernel_rfl, Nat.le_of_ble_eq_true (by kernel_rfl), by kernel_rfl, by kernel_rfl, Nat.le_of_ble_eq_true (by kernel_rfl), by kernel_rfl⟩
  have e : i_Dec N = evalF (E_i_Dec N) A_i_Dec N [⟨0, .val, (.int .i64)⟩] ((Tryd.f78.body).getD .skip) := funext fun x => by kernel_rfl
  rw [e]
  exact h
end Go.Rf

namespace Go.Rf
open Go.Proofs Go.RowKit
set_option maxRecDepth 100000

theorem gW_size {w : World} (h : gW w) : 4 ≤ w.heap.size := by
  obtain ⟨_, h1, _⟩ := h
  have hn : Tryd.prog.globalNamed "internal/strconv.uint64pow10" = some 3 := by kernel_rfl
  simp only [Lib.TabIs, World.var?, hn, Option.bind_some] at h1
  rcases Nat.lt_or_ge 3 w.heap.size with h | h
  · exact h
  · rw [Array.getElem?_eq_none h] at h1; cases h1

theorem ctr_use {fid : Nat} {ps rs : List Ty} {F : LD ps → Option (LD rs)} (hr1 : rs.all Ty.scal = true) (h : Ctr Tryd.prog Vp fid ⟨ps, rs, F⟩) {w : World} (hg : gW w) {args : LD ps} {vals : List Value} {r : LD rs}
    (ha : ArgsRel (fun _ b => b < w.heap.size) (hp w) ps vals args []) (hF : F args = some r) :
    Calls Tryd.prog fid vals.toArray w fun e w' => ∃ rv, e = .returned (retVal rv) ∧ Below w.heap.size w w' ∧ ArgsRel (fun _ _ => False) (fun _ => none) rs rv r [] := by
  refine (h.calls w (fun _ b => b < w.heap.size) args vals [] r (fun _ _ h => h) (fun _ h => h) ⟨fun b hb => Nat.lt_of_lt_of_le hb (gW_size hg), hg⟩ ha (by simp) (by simp) hF).mono ?_
  rintro e w' ⟨rv, T, g, rfl, hf, hr, _⟩
  exact ⟨rv, rfl, ⟨hf.os, hf.tape, hf.output, hf.size, fun b hb => hf.block b hb (by intro h; cases h)⟩, (hr.scal hr1).2⟩

theorem inRange_any (a b c : Int) (w : World) (hg : gW w) : Calls Tryd.prog 49 #[.int .i64 a, .int .i64 b, .int .i64 c] w fun e w' => e = .returned (.bool (decide (b ≤ a ∧ a ≤ c))) ∧ Below w.heap.size w w' := by
  have hF : i_inRange 0 (a, b, c, ()) = some (decide (b ≤ a ∧ a ≤ c), ()) := by
    unfold i_inRange
    by_cases h1 : b ≤ a <;> by_cases h2 : a ≤ c <;> simp [h1, h2]
  refine (ctr_use rfl (c_i_inRange 0) hg (args := (a, b, c, ())) (vals := [.int .i64 a, .int .i64 b, .int .i64 c]) ⟨[_], [], [], rfl, ⟨rfl, rfl⟩, rfl, [_], [], [], rfl, ⟨rfl, rfl⟩, rfl, [_], [], [], rfl, ⟨rfl, rfl⟩, rfl, rfl⟩ hF).mono ?_
  rintro e w' ⟨rv, rfl, hb, hr⟩
  obtain ⟨ws, rfl, _, rfl, _⟩ := args1 hr
  exact ⟨rfl, hb⟩

theorem dec_any (n : Int) (h1 : -9223372036854775808 ≤ n) (h2 : n ≤ 9223372036854775807) (w : World) (hg : gW w) : Calls Tryd.prog 78 #[.int .i64 n] w fun e w' => e = .returned (.string ⟨(Lib.itoa n).toArray⟩) ∧ Below w.heap.size w w' := by
  have hF : i_Dec 0 (n, ()) = some (⟨(Lib.itoa n).toArray⟩, ()) := by
    unfold i_Dec g_strconv_Itoa
    simp [h1, h2]
  refine (ctr_use rfl (c_i_Dec 0) hg (args := (n, ())) (vals := [.int .i64 n]) ⟨[_], [], [], rfl, ⟨rfl, rfl⟩, rfl, rfl⟩ hF).mono ?_
  rintro e w' ⟨rv, rfl, hb, hr⟩
  obtain ⟨ws, rfl, _, rfl, _⟩ := args1 hr
  exact ⟨rfl, hb⟩

theorem gW_below {w w' : World} (hg : gW w) (h : Below w.heap.size w w') : gW w' := gW_loc w w' (fun b hb => h.block b (Nat.lt_of_lt_of_le hb (gW_size hg))) hg

theorem c_i_ReadDec (N : Nat) : Ctr Tryd.prog Vp 68 ⟨[.str], [(.int .i64), .bool], i_ReadDec N⟩ := by
  refine ctr_scal (c := (Tryd.f68.body).getD .skip) Tryd.func68 (by kernel_rfl) (by kernel_rfl) rfl rfl ?_
  intro w args vals r hg ha hF
  obtain ⟨ws, rfl, _, rfl, _⟩ := args1 ha
  obtain ⟨s, u⟩ := args
  have hg : gW w := hg
  show Calls Tryd.prog 68 #[.string s] w _
  unfold i_ReadDec at hF
  simp only at hF
  generalize hd : Lib.trimPrefix s.data.toList [45] = d at hF
  have hd' : Lib.trimPrefix s.data.toList (⟨#[45]⟩ : ByteArray).data.toList = d := hd
  have hsz : s.size = s.data.toList.length := by rw [Array.length_toList]; rfl
  by_cases hlen : 1 ≤ d.length ∧ d.length ≤ 9
  · rw [if_pos hlen] at hF
    have hs11 : s.size ≤ 10 := by
      rw [hsz]
      have : s.data.toList.length ≤ d.length + 1 := by
        rw [← hd]
        unfold Lib.trimPrefix
        split <;> simp <;> omega
      omega
    have hin : ∀ w : World, gW w → Calls Tryd.prog 49 #[.int .i64 d.length, .int .i64 1, .int .i64 9] w fun e w' => e = .returned (.bool true) ∧ Below w.heap.size w w' := fun w hg =>
      (inRange_any _ _ _ w hg).mono (by rintro e w1 ⟨rfl, h⟩; refine ⟨?_, h⟩; congr 2; simp; omega)
    cases hat : Lib.atoiAll s.data.toList
    · rename_i v
      have hv : -9223372036854775808 ≤ v ∧ v ≤ 9223372036854775807 := by
        unfold Lib.atoiAll at hat
        split at hat
        · cases hat
        · simp only at hat
          split at hat
          · cases hat
          · cases hat
          · split at hat
            · cases hat
            · split at hat
              · cases hat
              · cases hat
                split <;> omega
      rw [hat] at hF
      simp only at hF
      go_enter Tryd.func68, Tryd.ntmps68
      go_wp2_with (go_at_call 76; refine (Tryd.strings_TrimPrefix _ _ _).mono ?_; rintro e w' ⟨rfl, rfl⟩)
      refine (hin _ hg).mono ?_
      rintro e w1 ⟨rfl, hb1⟩
      have hg1 := gW_below hg hb1
      go_wp2_with (go_at_call 77; refine (Tryd.strconv_Atoi_ok s (by omega) v hat w1).mono ?_)
      rintro e w2 ⟨rfl, hw2⟩
      have hb2 : Below w1.heap.size w1 w2 := by
        rcases hw2 with rfl | ⟨t, rfl⟩
        · exact Below.refl _ _
        · exact ⟨rfl, rfl, rfl, by rw [Lib.bytesWorld_size]; omega, fun j hj => Lib.bytesWorld_at_old w1 5 t j hj⟩
      have hg2 := gW_below hg1 hb2
      go_wp2_with (go_at_call 78; refine (dec_any v hv.1 hv.2 w2 hg2).mono ?_)
      rintro e w3 ⟨rfl, hb3⟩
      go_wp2
      all_goals
        rename_i hne
        go_ret2
        rw [ByteArray.toList_eq] at hne
      · have hne' : ¬ Lib.itoa v = s.data.toList := by simpa using hne
        rw [if_neg hne'] at hF
        cases hF
        exact ⟨[.int .i64 0, .bool false], rfl, (hb1.trans (hb2.mono hb1.size)).trans (hb3.mono (Nat.le_trans hb1.size hb2.size)), [_], [], [], rfl, ⟨rfl, rfl⟩, rfl, [_], [], [], rfl, ⟨rfl, rfl⟩, rfl, rfl⟩
      · have hne' : Lib.itoa v = s.data.toList := by simpa using hne
        rw [if_pos hne'] at hF
        cases hF
        exact ⟨[.int .i64 v, .bool true], rfl, (hb1.trans (hb2.mono hb1.size)).trans (hb3.mono (Nat.le_trans hb1.size hb2.size)), [_], [], [], rfl, ⟨rfl, rfl⟩, rfl, [_], [], [], rfl, ⟨rfl, rfl⟩, rfl, rfl⟩
    · rw [hat] at hF
      simp only at hF
      cases hF
      go_enter Tryd.func68, Tryd.ntmps68
      go_wp2_with (go_at_call 76; refine (Tryd.strings_TrimPrefix _ _ _).mono ?_; rintro e w' ⟨rfl, rfl⟩)
      refine (hin _ hg).mono ?_
      rintro e w1 ⟨rfl, hb1⟩
      have hg1 := gW_below hg hb1
      obtain ⟨_, _, ⟨te, pe, hc⟩, _⟩ := hg1
      go_wp2_with (go_at_call 77; refine (Any.strconv_Atoi_syntax Tryd.laysC172 s (by omega) hat _ w1 hc (.inr ⟨te, pe, rfl⟩)).mono ?_)
      rintro e w2 ⟨N', rfl, _, _, hb2⟩
      go_wp2
      go_ret2
      exact ⟨[.int .i64 0, .bool false], rfl, hb1.trans (hb2.mono hb1.size), [_], [], [], rfl, ⟨rfl, rfl⟩, rfl, [_], [], [], rfl, ⟨rfl, rfl⟩, rfl, rfl⟩
    · rw [hat] at hF
      simp only at hF
      cases hF
      go_enter Tryd.func68, Tryd.ntmps68
      go_wp2_with (go_at_call 76; refine (Tryd.strings_TrimPrefix _ _ _).mono ?_; rintro e w' ⟨rfl, rfl⟩)
      refine (hin _ hg).mono ?_
      rintro e w1 ⟨rfl, hb1⟩
      have hg1 := gW_below hg hb1
      obtain ⟨_, _, _, ⟨te, pe, hc⟩⟩ := hg1
      go_wp2_with (go_at_call 77; refine (Tryd.strconv_Atoi_range s (by omega) hat _ w1 hc (.inr ⟨te, pe, rfl⟩)).mono ?_)
      rintro e w2 ⟨N', rfl, _, _, hb2⟩
      go_wp2
      go_ret2
      exact ⟨[.int .i64 0, .bool false], rfl, hb1.trans (hb2.mono hb1.size), [_], [], [], rfl, ⟨rfl, rfl⟩, rfl, [_], [], [], rfl, ⟨rfl, rfl⟩, rfl, rfl⟩
  · rw [if_neg hlen] at hF
    cases hF
    have hin : ∀ w : World, gW w → Calls Tryd.prog 49 #[.int .i64 d.length, .int .i64 1, .int .i64 9] w fun e w' => e = .returned (.bool false) ∧ Below w.heap.size w w' := fun w hg =>
      (inRange_any _ _ _ w hg).mono (by rintro e w1 ⟨rfl, h⟩; refine ⟨?_, h⟩; congr 2; simp; omega)
    go_enter Tryd.func68, Tryd.ntmps68
    go_wp2_with (go_at_call 76; refine (Tryd.strings_TrimPrefix _ _ _).mono ?_; rintro e w' ⟨rfl, rfl⟩)
    refine (hin _ hg).mono ?_
    rintro e w1 ⟨rfl, hb1⟩
    go_wp2
    go_ret2
    exact ⟨[.int .i64 0, .bool false], rfl, hb1, [_], [], [], rfl, ⟨rfl, rfl⟩, rfl, [_], [], [], rfl, ⟨rfl, rfl⟩, rfl, rfl⟩
end Go.Rf

namespace Go.Rf
open Go.Proofs
set_option maxRecDepth 100000
noncomputable def E_i_isSymByte (N : Nat) : Cz := { tab := tabP, n := 22, V := Vp, ann := look [], fn := look [(75, (⟨[.str, (.int .u8)], [(.int .i64)], g_strings_IndexByte N⟩ : Fn))], fx := look [] }
def A_i_isSymByte : An := { join := look [], loop := look [], ret := [⟨2, .val, .bool⟩] }
theorem c_i_isSymByte (N : Nat) : Ctr Tryd.prog Vp 67 ⟨[(.int .u8)], [.bool], i_isSymByte N⟩ := by
  have hE : EnvOK Tryd.prog (E_i_isSymByte N) := ⟨tabP_ok, look_all (Q := fun t s => Ctr Tryd.prog Vp t s) _ (by
    intro p hp
    simp only [List.mem_cons, List.not_mem_nil, or_false] at hp
    rcases hp with rfl
    · exact c_g_strings_IndexByte N), (fun _ _ h => by cases h)⟩
  have h := fn_sound hE (by kernel_rfl) (N := N) (A := A_i_isSymByte) (pl := [⟨0, .val, (.int .u8)⟩]) (fid := 67) (fn := Tryd.f67) (c := ((Tryd.f67.body).getD .skip)) ⟨Tryd.func67, by kernel_rfl, by kernel_rfl, by kernel_rfl, Nat.le_of_ble_eq_true (by kernel_rfl), by kernel_rfl, by kernel_rfl, Nat.le_of_ble_eq_true (by kernel_rfl), by kernel_rfl⟩
  have e : i_isSymByte N = evalF (E_i_isSymByte N) A_i_isSymByte N [⟨0, .val, (.int .u8)⟩] ((Tryd.f67.body).getD .skip) := funext fun x => by kernel_rfl
  rw [e]
  exact h
noncomputable def E_i_symOk (N : Nat) : Cz := { tab := tabP, n := 38, V := Vp, ann := look [], fn := look [(49, (⟨[(.int .i64), (.int .i64), (.int .i64)], [.bool], i_inRange N⟩ : Fn)), (67, (⟨[(.int .u8)], [.bool], i_isSymByte N⟩ : Fn)), (68, (⟨[.str], [(.int .i64), .bool], i_ReadDec N⟩ : Fn))], fx := look [] }
def A_i_symOk : An := { join := look [], loop := look [(0, ⟨[⟨3, .val, (.int .i64)⟩], [], [2, 3, 6, 7, 8, 9, 10, 11, 12, 13, 14, 15, 16]⟩)], ret := [⟨2, .val, .bool⟩] }
theorem c_i_symOk (N : Nat) : Ctr Tryd.prog Vp 50 ⟨[.str], [.bool], i_symOk N⟩ := by
  have hE : EnvOK Tryd.prog (E_i_symOk N) := ⟨tabP_ok, look_all (Q := fun t s => Ctr Tryd.prog Vp t s) _ (by
    intro p hp
    simp only [List.mem_cons, List.not_mem_nil, or_false] at hp
    rcases hp with rfl | rfl | rfl
    · exact c_i_inRange N
    · exact c_i_isSymByte N
    · exact c_i_ReadDec N), (fun _ _ h => by cases h)⟩
  have h := fn_sound hE (by kernel_rfl) (N := N) (A := A_i_symOk) (pl := [⟨0, .val, .str⟩]) (fid := 50) (fn := Tryd.f50) (c := ((Tryd.f50.body).getD .skip)) ⟨Tryd.func50, by kernel_rfl, by kernel_rfl, by kernel_rfl, Nat.le_of_ble_eq_true (by kernel_rfl), by kernel_rfl, by kernel_rfl, Nat.le_of_ble_eq_true (by kernel_rfl), by kernel_rfl⟩
  have e : i_symOk N = evalF (E_i_symOk N) A_i_symOk N [⟨0, .val, .str⟩] ((Tryd.f50.body).getD .skip) := funext fun x => by kernel_rfl
  rw [e]
  exact h
noncomputable def E_i_isOneOf (N : Nat) : Cz := { tab := tabP, n := 21, V := Vp, ann := look [], fn := look [(87, (⟨[.str, .str], [.bool], g_strings_Contains N⟩ : Fn))], fx := look [] }
def A_i_isOneOf : An := { join := look [], loop := look [], ret := [⟨4, .val, .bool⟩] }
theorem c_i_isOneOf (N : Nat) : Ctr Tryd.prog Vp 80 ⟨[.str, .str], [.bool], i_isOneOf N⟩ := by
  have hE : EnvOK Tryd.prog (E_i_isOneOf N) := ⟨tabP_ok, look_all (Q := fun t s => Ctr Tryd.prog Vp t s) _ (by
    intro p hp
    simp only [List.mem_cons, List.not_mem_nil, or_false] at hp
    rcases hp with rfl
    · exact c_g_strings_Contains N), (fun _ _ h => by cases h)⟩
  have h := fn_sound hE (by kernel_rfl) (N := N) (A := A_i_isOneOf) (pl := [⟨0, .val, .str⟩, ⟨1, .val, .str⟩]) (fid := 80) (fn := Tryd.f80) (c := ((Tryd.f80.body).getD .skip)) ⟨Tryd.func80, by kernel_rfl, by kernel_rfl, by kernel_rfl, Nat.le_of_ble_eq_true (by kernel_rfl), by kernel_rfl, by kernel_rfl, Nat.le_of_ble_eq_true (by kernel_rfl), by kernel_rfl⟩
  have e : i_isOneOf N = evalF (E_i_isOneOf N) A_i_isOneOf N [⟨0, .val, .str⟩, ⟨1, .val, .str⟩] ((Tryd.f80.body).getD .skip) := funext fun x => by kernel_rfl
  rw [e]
  exact h
noncomputable def E_i_Arity (N : Nat) : Cz := { tab := tabP, n := 12, V := Vp, ann := look [], fn := look [(80, (⟨[.str, .str], [.bool], i_isOneOf N⟩ : Fn))], fx := look [] }
def A_i_Arity : An := { join := look [], loop := look [], ret := [⟨2, .val, (.int .i64)⟩] }
theorem c_i_Arity (N : Nat) : Ctr Tryd.prog Vp 81 ⟨[.str], [(.int .i64)], i_Arity N⟩ := by
  have hE : EnvOK Tryd.prog (E_i_Arity N) := ⟨tabP_ok, look_all (Q := fun t s => Ctr Tryd.prog Vp t s) _ (by
    intro p hp
    simp only [List.mem_cons, List.not_mem_nil, or_false] at hp
    rcases hp with rfl
    · exact c_i_isOneOf N), (fun _ _ h => by cases h)⟩
  have h := fn_sound hE (by kernel_rfl) (N := N) (A := A_i_Arity) (pl := [⟨0, .val, .str⟩]) (fid := 81) (fn := Tryd.f81) (c := ((Tryd.f81.body).getD .skip)) ⟨Tryd.func81, by kernel_rfl, by kernel_rfl, by kernel_rfl, Nat.le_of_ble_eq_true (by kernel_rfl), by kernel_rfl, by kernel_rfl, Nat.le_of_ble_eq_true (by kernel_rfl), by kernel_rfl⟩
  have e : i_Arity N = evalF (E_i_Arity N) A_i_Arity N [⟨0, .val, .str⟩] ((Tryd.f81.body).getD .skip) := funext fun x => by kernel_rfl
  rw [e]
  exact h
noncomputable def E_i_IsName (N : Nat) : Cz := { tab := tabP, n := 17, V := Vp, ann := look [], fn := look [(50, (⟨[.str], [.bool], i_symOk N⟩ : Fn)), (80, (⟨[.str, .str], [.bool], i_isOneOf N⟩ : Fn)), (81, (⟨[.str], [(.int .i64)], i_Arity N⟩ : Fn))], fx := look [] }
def A_i_IsName : An := { join := look [], loop := look [], ret := [⟨2, .val, .bool⟩] }
theorem c_i_IsName (N : Nat) : Ctr Tryd.prog Vp 74 ⟨[.str], [.bool], i_IsName N⟩ := by
  have hE : EnvOK Tryd.prog (E_i_IsName N) := ⟨tabP_ok, look_all (Q := fun t s => Ctr Tryd.prog Vp t s) _ (by
    intro p hp
    simp only [List.mem_cons, List.not_mem_nil, or_false] at hp
    rcases hp with rfl | rfl | rfl
    · exact c_i_symOk N
    · exact c_i_isOneOf N
    · exact c_i_Arity N), (fun _ _ h => by cases h)⟩
  have h := fn_sound hE (by kernel_rfl) (N := N) (A := A_i_IsName) (pl := [⟨0, .val, .str⟩]) (fid := 74) (fn := Tryd.f74) (c := ((Tryd.f74.body).getD .skip)) ⟨Tryd.func74, by kernel_rfl, by kernel_rfl, by kernel_rfl, Nat.le_of_ble_eq_true (by kernel_rfl), by kernel_rfl, by kernel_rfl, Nat.le_of_ble_eq_true (by kernel_rfl), by kernel_rfl⟩
  have e : i_IsName N = evalF (E_i_IsName N) A_i_IsName N [⟨0, .val, .str⟩] ((Tryd.f74.body).getD .skip) := funext fun x => by kernel_rfl
  rw [e]
  exact h
noncomputable def E_i_allNames (N : Nat) : Cz := { tab := tabP, n := 15, V := Vp, ann := look [], fn := look [(74, (⟨[.str], [.bool], i_IsName N⟩ : Fn))], fx := look [] }
def A_i_allNames : An := { join := look [], loop := look [(0, ⟨[⟨7, .val, (.int .i64)⟩], [], [2, 4, 7, 8, 9, 10, 11, 12, 13, 14]⟩)], ret := [⟨2, .val, .bool⟩] }
theorem c_i_allNames (N : Nat) : Ctr Tryd.prog Vp 66 ⟨[(.sl .lend .str)], [.bool], i_allNames N⟩ := by
  have hE : EnvOK Tryd.prog (E_i_allNames N) := ⟨tabP_ok, look_all (Q := fun t s => Ctr Tryd.prog Vp t s) _ (by
    intro p hp
    simp only [List.mem_cons, List.not_mem_nil, or_false] at hp
    rcases hp with rfl
    · exact c_i_IsName N), (fun _ _ h => by cases h)⟩
  have h := fn_sound hE (by kernel_rfl) (N := N) (A := A_i_allNames) (pl := [⟨0, .val, (.sl .lend .str)⟩]) (fid := 66) (fn := Tryd.f66) (c := ((Tryd.f66.body).getD .skip)) ⟨Tryd.func66, by kernel_rfl, by kernel_rfl, by kernel_rfl, Nat.le_of_ble_eq_true (by kernel_rfl), by kernel_rfl, by kernel_rfl, Nat.le_of_ble_eq_true (by kernel_rfl), by kernel_rfl⟩
  have e : i_allNames N = evalF (E_i_allNames N) A_i_allNames N [⟨0, .val, (.sl .lend .str)⟩] ((Tryd.f66.body).getD .skip) := funext fun x => by kernel_rfl
  rw [e]
  exact h
noncomputable def E_i_cellOk (N : Nat) : Cz := { tab := tabP, n := 88, V := Vp, ann := look [], fn := look [(49, (⟨[(.int .i64), (.int .i64), (.int .i64)], [.bool], i_inRange N⟩ : Fn)), (66, (⟨[(.sl .lend .str)], [.bool], i_allNames N⟩ : Fn))], fx := look [] }
def A_i_cellOk : An := { join := look [], loop := look [], ret := [⟨2, .val, .bool⟩] }
theorem c_i_cellOk (N : Nat) : Ctr Tryd.prog Vp 46 ⟨[(.pair (.int .i64) (.pair .str (.pair (.int .i64) (.pair (.int .i64) (.pair (.sl .lend .str) (.pair (.sl .lend (.pair (.int .i64) (.pair (.int .i64) (.pair .str .unit)))) .unit))))))], [.bool], i_cellOk N⟩ := by
  have hE : EnvOK Tryd.prog (E_i_cellOk N) := ⟨tabP_ok, look_all (Q := fun t s => Ctr Tryd.prog Vp t s) _ (by
    intro p hp
    simp only [List.mem_cons, List.not_mem_nil, or_false] at hp
    rcases hp with rfl | rfl
    · exact c_i_inRange N
    · exact c_i_allNames N), (fun _ _ h => by cases h)⟩
  have h := fn_sound hE (by kernel_rfl) (N := N) (A := A_i_cellOk) (pl := [⟨0, .val, (.pair (.int .i64) (.pair .str (.pair (.int .i64) (.pair (.int .i64) (.pair (.sl .lend .str) (.pair (.sl .lend (.pair (.int .i64) (.pair (.int .i64) (.pair .str .unit)))) .unit))))))⟩]) (fid := 46) (fn := Tryd.f46) (c := ((Tryd.f46.body).getD .skip)) ⟨Tryd.func46, by kernel_rfl, by kernel_rfl, by kernel_rfl, Nat.le_of_ble_eq_true (by kernel_rfl), by kernel_rfl, by kernel_rfl, Nat.le_of_ble_eq_true (by kernel_rfl), by kernel_rfl⟩
  have e : i_cellOk N = evalF (E_i_cellOk N) A_i_cellOk N [⟨0, .val, (.pair (.int .i64) (.pair .str (.pair (.int .i64) (.pair (.int .i64) (.pair (.sl .lend .str) (.pair (.sl .lend (.pair (.int .i64) (.pair (.int .i64) (.pair .str .unit)))) .unit))))))⟩] ((Tryd.f46.body).getD .skip) := funext fun x => by kernel_rfl
  rw [e]
  exact h
noncomputable def E_i_cellKind (N : Nat) : Cz := { tab := tabP, n := 10, V := Vp, ann := look [], fn := look [], fx := look [] }
def A_i_cellKind : An := { join := look [], loop := look [], ret := [⟨2, .val, (.int .i64)⟩] }
theorem c_i_cellKind (N : Nat) : Ctr Tryd.prog Vp 51 ⟨[(.int .i64)], [(.int .i64)], i_cellKind N⟩ := by
  have hE : EnvOK Tryd.prog (E_i_cellKind N) := ⟨tabP_ok, (fun _ _ h => by cases h), (fun _ _ h => by cases h)⟩
  have h := fn_sound hE (by kernel_rfl) (N := N) (A := A_i_cellKind) (pl := [⟨0, .val, (.int .i64)⟩]) (fid := 51) (fn := Tryd.f51) (c := ((Tryd.f51.body).getD .skip)) ⟨Tryd.func51, by kernel_rfl, by kernel_rfl, by kernel_rfl, Nat.le_of_ble_eq_true (by kernel_rfl), by kernel_rfl, by kernel_rfl, Nat.le_of_ble_eq_true (by kernel_rfl), by kernel_rfl⟩
  have e : i_cellKind N = evalF (E_i_cellKind N) A_i_cellKind N [⟨0, .val, (.int .i64)⟩] ((Tryd.f51.body).getD .skip) := funext fun x => by kernel_rfl
  rw [e]
  exact h
noncomputable def E_i_ValueOk (N : Nat) : Cz := { tab := tabP, n := 74, V := Vp, ann := look [], fn := look [(49, (⟨[(.int .i64), (.int .i64), (.int .i64)], [.bool], i_inRange N⟩ : Fn)), (50, (⟨[.str], [.bool], i_symOk N⟩ : Fn)), (51, (⟨[(.int .i64)], [(.int .i64)], i_cellKind N⟩ : Fn))], fx := look [] }
def A_i_ValueOk : An := { join := look [(47, ([⟨3, .box false, (.pair (.int .i64) (.pair (.int .i64) (.pair .str .unit)))⟩, ⟨47, .val, .bool⟩], [47, 49, 50]))], loop := look [], ret := [⟨4, .val, .bool⟩] }
theorem c_i_ValueOk (N : Nat) : Ctr Tryd.prog Vp 28 ⟨[(.sl .lend (.pair (.int .i64) (.pair .str (.pair (.int .i64) (.pair (.int .i64) (.pair (.sl .lend .str) (.pair (.sl .lend (.pair (.int .i64) (.pair (.int .i64) (.pair .str .unit)))) .unit))))))), (.pair (.int .i64) (.pair (.int .i64) (.pair .str .unit)))], [.bool], i_ValueOk N⟩ := by
  have hE : EnvOK Tryd.prog (E_i_ValueOk N) := ⟨tabP_ok, look_all (Q := fun t s => Ctr Tryd.prog Vp t s) _ (by
    intro p hp
    simp only [List.mem_cons, List.not_mem_nil, or_false] at hp
    rcases hp with rfl | rfl | rfl
    · exact c_i_inRange N
    · exact c_i_symOk N
    · exact c_i_cellKind N), (fun _ _ h => by cases h)⟩
  have h := fn_sound hE (by kernel_rfl) (N := N) (A := A_i_ValueOk) (pl := [⟨0, .val, (.sl .lend (.pair (.int .i64) (.pair .str (.pair (.int .i64) (.pair (.int .i64) (.pair (.sl .lend .str) (.pair (.sl .lend (.pair (.int .i64) (.pair (.int .i64) (.pair .str .unit)))) .unit)))))))⟩, ⟨1, .val, (.pair (.int .i64) (.pair (.int .i64) (.pair .str .unit)))⟩]) (fid := 28) (fn := Tryd.f28) (c := ((Tryd.f28.body).getD .skip)) ⟨Tryd.func28, by kernel_rfl, by kernel_rfl, by kernel_rfl, Nat.le_of_ble_eq_true (by kernel_rfl), by kernel_rfl, by kernel_rfl, Nat.le_of_ble_eq_true (by kernel_rfl), by kernel_rfl⟩
  have e : i_ValueOk N = evalF (E_i_ValueOk N) A_i_ValueOk N [⟨0, .val, (.sl .lend (.pair (.int .i64) (.pair .str (.pair (.int .i64) (.pair (.int .i64) (.pair (.sl .lend .str) (.pair (.sl .lend (.pair (.int .i64) (.pair (.int .i64) (.pair .str .unit)))) .unit)))))))⟩, ⟨1, .val, (.pair (.int .i64) (.pair (.int .i64) (.pair .str .unit)))⟩] ((Tryd.f28.body).getD .skip) := funext fun x => by kernel_rfl
  rw [e]
  exact h
noncomputable def E_i_valuesOk (N : Nat) : Cz := { tab := tabP, n := 18, V := Vp, ann := look [], fn := look [(28, (⟨[(.sl .lend (.pair (.int .i64) (.pair .str (.pair (.int .i64) (.pair (.int .i64) (.pair (.sl .lend .str) (.pair (.sl .lend (.pair (.int .i64) (.pair (.int .i64) (.pair .str .unit)))) .unit))))))), (.pair (.int .i64) (.pair (.int .i64) (.pair .str .unit)))], [.bool], i_ValueOk N⟩ : Fn))], fx := look [] }
def A_i_valuesOk : An := { join := look [], loop := look [(0, ⟨[⟨9, .val, (.int .i64)⟩], [], [4, 6, 9, 10, 11, 12, 13, 14, 15, 16, 17]⟩)], ret := [⟨4, .val, .bool⟩] }
theorem c_i_valuesOk (N : Nat) : Ctr Tryd.prog Vp 47 ⟨[(.sl .lend (.pair (.int .i64) (.pair .str (.pair (.int .i64) (.pair (.int .i64) (.pair (.sl .lend .str) (.pair (.sl .lend (.pair (.int .i64) (.pair (.int .i64) (.pair .str .unit)))) .unit))))))), (.sl .lend (.pair (.int .i64) (.pair (.int .i64) (.pair .str .unit))))], [.bool], i_valuesOk N⟩ := by
  have hE : EnvOK Tryd.prog (E_i_valuesOk N) := ⟨tabP_ok, look_all (Q := fun t s => Ctr Tryd.prog Vp t s) _ (by
    intro p hp
    simp only [List.mem_cons, List.not_mem_nil, or_false] at hp
    rcases hp with rfl
    · exact c_i_ValueOk N), (fun _ _ h => by cases h)⟩
  have h := fn_sound hE (by kernel_rfl) (N := N) (A := A_i_valuesOk) (pl := [⟨0, .val, (.sl .lend (.pair (.int .i64) (.pair .str (.pair (.int .i64) (.pair (.int .i64) (.pair (.sl .lend .str) (.pair (.sl .lend (.pair (.int .i64) (.pair (.int .i64) (.pair .str .unit)))) .unit)))))))⟩, ⟨1, .val, (.sl .lend (.pair (.int .i64) (.pair (.int .i64) (.pair .str .unit))))⟩]) (fid := 47) (fn := Tryd.f47) (c := ((Tryd.f47.body).getD .skip)) ⟨Tryd.func47, by kernel_rfl, by kernel_rfl, by kernel_rfl, Nat.le_of_ble_eq_true (by kernel_rfl), by kernel_rfl, by kernel_rfl, Nat.le_of_ble_eq_true (by kernel_rfl), by kernel_rfl⟩
  have e : i_valuesOk N = evalF (E_i_valuesOk N) A_i_valuesOk N [⟨0, .val, (.sl .lend (.pair (.int .i64) (.pair .str (.pair (.int .i64) (.pair (.int .i64) (.pair (.sl .lend .str) (.pair (.sl .lend (.pair (.int .i64) (.pair (.int .i64) (.pair .str .unit)))) .unit)))))))⟩, ⟨1, .val, (.sl .lend (.pair (.int .i64) (.pair (.int .i64) (.pair .str .unit))))⟩] ((Tryd.f47.body).getD .skip) := funext fun x => by kernel_rfl
  rw [e]
  exact h
noncomputable def E_i_areBelow (N : Nat) : Cz := { tab := tabP, n := 24, V := Vp, ann := look [], fn := look [(51, (⟨[(.int .i64)], [(.int .i64)], i_cellKind N⟩ : Fn))], fx := look [] }
def A_i_areBelow : An := { join := look [], loop := look [(0, ⟨[⟨9, .val, (.int .i64)⟩], [], [4, 6, 9, 10, 11, 12, 13, 14, 15, 16, 17, 18, 19, 20, 21, 22, 23]⟩)], ret := [⟨4, .val, .bool⟩] }
theorem c_i_areBelow (N : Nat) : Ctr Tryd.prog Vp 48 ⟨[(.sl .lend (.pair (.int .i64) (.pair (.int .i64) (.pair .str .unit)))), (.int .i64)], [.bool], i_areBelow N⟩ := by
  have hE : EnvOK Tryd.prog (E_i_areBelow N) := ⟨tabP_ok, look_all (Q := fun t s => Ctr Tryd.prog Vp t s) _ (by
    intro p hp
    simp only [List.mem_cons, List.not_mem_nil, or_false] at hp
    rcases hp with rfl
    · exact c_i_cellKind N), (fun _ _ h => by cases h)⟩
  have h := fn_sound hE (by kernel_rfl) (N := N) (A := A_i_areBelow) (pl := [⟨0, .val, (.sl .lend (.pair (.int .i64) (.pair (.int .i64) (.pair .str .unit))))⟩, ⟨1, .val, (.int .i64)⟩]) (fid := 48) (fn := Tryd.f48) (c := ((Tryd.f48.body).getD .skip)) ⟨Tryd.func48, by kernel_rfl, by kernel_rfl, by kernel_rfl, Nat.le_of_ble_eq_true (by kernel_rfl), by kernel_rfl, by kernel_rfl, Nat.le_of_ble_eq_true (by kernel_rfl), by kernel_rfl⟩
  have e : i_areBelow N = evalF (E_i_areBelow N) A_i_areBelow N [⟨0, .val, (.sl .lend (.pair (.int .i64) (.pair (.int .i64) (.pair .str .unit))))⟩, ⟨1, .val, (.int .i64)⟩] ((Tryd.f48.body).getD .skip) := funext fun x => by kernel_rfl
  rw [e]
  exact h
noncomputable def E_i_HeapOk (N : Nat) : Cz := { tab := tabP, n := 38, V := Vp, ann := look [], fn := look [(46, (⟨[(.pair (.int .i64) (.pair .str (.pair (.int .i64) (.pair (.int .i64) (.pair (.sl .lend .str) (.pair (.sl .lend (.pair (.int .i64) (.pair (.int .i64) (.pair .str .unit)))) .unit))))))], [.bool], i_cellOk N⟩ : Fn)), (47, (⟨[(.sl .lend (.pair (.int .i64) (.pair .str (.pair (.int .i64) (.pair (.int .i64) (.pair (.sl .lend .str) (.pair (.sl .lend (.pair (.int .i64) (.pair (.int .i64) (.pair .str .unit)))) .unit))))))), (.sl .lend (.pair (.int .i64) (.pair (.int .i64) (.pair .str .unit))))], [.bool], i_valuesOk N⟩ : Fn)), (48, (⟨[(.sl .lend (.pair (.int .i64) (.pair (.int .i64) (.pair .str .unit)))), (.int .i64)], [.bool], i_areBelow N⟩ : Fn))], fx := look [] }
def A_i_HeapOk : An := { join := look [], loop := look [(0, ⟨[⟨10, .val, (.int .i64)⟩], [], [2, 3, 4, 10, 11, 12, 13, 14, 15, 16, 17, 18, 19, 20, 21, 22, 23, 24, 25, 26, 27, 28, 29, 30, 31, 32, 33, 34, 35, 36, 37]⟩)], ret := [⟨2, .val, .bool⟩] }
theorem c_i_HeapOk (N : Nat) : Ctr Tryd.prog Vp 27 ⟨[(.sl .lend (.pair (.int .i64) (.pair .str (.pair (.int .i64) (.pair (.int .i64) (.pair (.sl .lend .str) (.pair (.sl .lend (.pair (.int .i64) (.pair (.int .i64) (.pair .str .unit)))) .unit)))))))], [.bool], i_HeapOk N⟩ := by
  have hE : EnvOK Tryd.prog (E_i_HeapOk N) := ⟨tabP_ok, look_all (Q := fun t s => Ctr Tryd.prog Vp t s) _ (by
    intro p hp
    simp only [List.mem_cons, List.not_mem_nil, or_false] at hp
    rcases hp with rfl | rfl | rfl
    · exact c_i_cellOk N
    · exact c_i_valuesOk N
    · exact c_i_areBelow N), (fun _ _ h => by cases h)⟩
  have h := fn_sound hE (by kernel_rfl) (N := N) (A := A_i_HeapOk) (pl := [⟨0, .val, (.sl .lend (.pair (.int .i64) (.pair .str (.pair (.int .i64) (.pair (.int .i64) (.pair (.sl .lend .str) (.pair (.sl .lend (.pair (.int .i64) (.pair (.int .i64) (.pair .str .unit)))) .unit)))))))⟩]) (fid := 27) (fn := Tryd.f27) (c := ((Tryd.f27.body).getD .skip)) ⟨Tryd.func27, by kernel_rfl, by kernel_rfl, by kernel_rfl, Nat.le_of_ble_eq_true (by kernel_rfl), by kernel_rfl, by kernel_rfl, Nat.le_of_ble_eq_true (by kernel_rfl), by kernel_rfl⟩
  have e : i_HeapOk N = evalF (E_i_HeapOk N) A_i_HeapOk N [⟨0, .val, (.sl .lend (.pair (.int .i64) (.pair .str (.pair (.int .i64) (.pair (.int .i64) (.pair (.sl .lend .str) (.pair (.sl .lend (.pair (.int .i64) (.pair (.int .i64) (.pair .str .unit)))) .unit)))))))⟩] ((Tryd.f27.body).getD .skip) := funext fun x => by kernel_rfl
  rw [e]
  exact h
noncomputable def E_i_Weight (N : Nat) : Cz := { tab := tabP, n := 71, V := Vp, ann := look [(26, (.int .i64))], fn := look [(27, (⟨[(.sl .lend (.pair (.int .i64) (.pair .str (.pair (.int .i64) (.pair (.int .i64) (.pair (.sl .lend .str) (.pair (.sl .lend (.pair (.int .i64) (.pair (.int .i64) (.pair .str .unit)))) .unit)))))))], [.bool], i_HeapOk N⟩ : Fn)), (28, (⟨[(.sl .lend (.pair (.int .i64) (.pair .str (.pair (.int .i64) (.pair (.int .i64) (.pair (.sl .lend .str) (.pair (.sl .lend (.pair (.int .i64) (.pair (.int .i64) (.pair .str .unit)))) .unit))))))), (.pair (.int .i64) (.pair (.int .i64) (.pair .str .unit)))], [.bool], i_ValueOk N⟩ : Fn))], fx := look [] }
def A_i_Weight : An := { join := look [(49, ([⟨3, .box false, (.pair (.int .i64) (.pair (.int .i64) (.pair .str .unit)))⟩, ⟨5, .own false, (.sl .own (.int .i64))⟩], [50, 51, 52, 53, 54, 55, 56, 57, 58, 59, 60, 61, 62, 63]))], loop := look [(2, ⟨[⟨3, .box false, (.pair (.int .i64) (.pair (.int .i64) (.pair .str .unit)))⟩, ⟨5, .own false, (.sl .own (.int .i64))⟩, ⟨43, .val, (.int .i64)⟩], [⟨3, .box false, (.pair (.int .i64) (.pair (.int .i64) (.pair .str .unit)))⟩, ⟨5, .own false, (.sl .own (.int .i64))⟩], [9, 43, 44, 45, 46, 47, 48, 49, 50, 51, 52, 53, 54, 55, 56, 57, 58, 59, 60, 61, 62, 63, 64]⟩), (0, ⟨[⟨3, .box false, (.pair (.int .i64) (.pair (.int .i64) (.pair .str .unit)))⟩, ⟨5, .own false, (.sl .own (.int .i64))⟩, ⟨29, .val, (.int .i64)⟩], [⟨3, .box false, (.pair (.int .i64) (.pair (.int .i64) (.pair .str .unit)))⟩, ⟨5, .own false, (.sl .own (.int .i64))⟩], [6, 7, 9, 29, 30, 31, 32, 33, 34, 35, 36, 37, 38, 39, 40, 41, 42, 43, 44, 45, 46, 47, 48, 49, 50, 51, 52, 53, 54, 55, 56, 57, 58, 59, 60, 61, 62, 63, 64, 65]⟩)], ret := [⟨4, .val, (.int .i64)⟩] }
theorem c_i_Weight (N : Nat) : Ctr Tryd.prog Vp 9 ⟨[(.sl .lend (.pair (.int .i64) (.pair .str (.pair (.int .i64) (.pair (.int .i64) (.pair (.sl .lend .str) (.pair (.sl .lend (.pair (.int .i64) (.pair (.int .i64) (.pair .str .unit)))) .unit))))))), (.pair (.int .i64) (.pair (.int .i64) (.pair .str .unit)))], [(.int .i64)], i_Weight N⟩ := by
  have hE : EnvOK Tryd.prog (E_i_Weight N) := ⟨tabP_ok, look_all (Q := fun t s => Ctr Tryd.prog Vp t s) _ (by
    intro p hp
    simp only [List.mem_cons, List.not_mem_nil, or_false] at hp
    rcases hp with rfl | rfl
    · exact c_i_HeapOk N
    · exact c_i_ValueOk N), (fun _ _ h => by cases h)⟩
  have h := fn_sound hE (by kernel_rfl) (N := N) (A := A_i_Weight) (pl := [⟨0, .val, (.sl .lend (.pair (.int .i64) (.pair .str (.pair (.int .i64) (.pair (.int .i64) (.pair (.sl .lend .str) (.pair (.sl .lend (.pair (.int .i64) (.pair (.int .i64) (.pair .str .unit)))) .unit)))))))⟩, ⟨1, .val, (.pair (.int .i64) (.pair (.int .i64) (.pair .str .unit)))⟩]) (fid := 9) (fn := Tryd.f9) (c := ((Tryd.f9.body).getD .skip)) ⟨Tryd.func9, by kernel_rfl, by kernel_rfl, by kernel_rfl, Nat.le_of_ble_eq_true (by kernel_rfl), by kernel_rfl, by kernel_rfl, Nat.le_of_ble_eq_true (by kernel_rfl), by kernel_rfl⟩
  have e : i_Weight N = evalF (E_i_Weight N) A_i_Weight N [⟨0, .val, (.sl .lend (.pair (.int .i64) (.pair .str (.pair (.int .i64) (.pair (.int .i64) (.pair (.sl .lend .str) (.pair (.sl .lend (.pair (.int .i64) (.pair (.int .i64) (.pair .str .unit)))) .unit)))))))⟩, ⟨1, .val, (.pair (.int .i64) (.pair (.int .i64) (.pair .str .unit)))⟩] ((Tryd.f9.body).getD .skip) := funext fun x => by kernel_rfl
  rw [e]
  exact h
noncomputable def E_s_l1In (N : Nat) : Cz := { tab := tabP, n := 15, V := Vp, ann := look [], fn := look [], fx := look [] }
def A_s_l1In : An := { join := look [], loop := look [], ret := [⟨6, .val, .bool⟩] }
theorem c_s_l1In (N : Nat) : Ctr Tryd.prog Vp 31 ⟨[(.int .i64), (.int .i64), (.int .i64)], [.bool], s_l1In N⟩ := by
  have hE : EnvOK Tryd.prog (E_s_l1In N) := ⟨tabP_ok, (fun _ _ h => by cases h), (fun _ _ h => by cases h)⟩
  have h := fn_sound hE (by kernel_rfl) (N := N) (A := A_s_l1In) (pl := [⟨0, .val, (.int .i64)⟩, ⟨1, .val, (.int .i64)⟩, ⟨2, .val, (.int .i64)⟩]) (fid := 31) (fn := Tryd.f31) (c := ((Tryd.f31.body).getD .skip)) ⟨Tryd.func31, by kernel_rfl, by kernel_rfl, by kernel_rfl, Nat.le_of_ble_eq_true (by kernel_rfl), by kernel_rfl, by kernel_rfl, Nat.le_of_ble_eq_true (by kernel_rfl), by kernel_rfl⟩
  have e : s_l1In N = evalF (E_s_l1In N) A_s_l1In N [⟨0, .val, (.int .i64)⟩, ⟨1, .val, (.int .i64)⟩, ⟨2, .val, (.int .i64)⟩] ((Tryd.f31.body).getD .skip) := funext fun x => by kernel_rfl
  rw [e]
  exact h
noncomputable def E_s_l2Digit (N : Nat) : Cz := { tab := tabP, n := 9, V := Vp, ann := look [], fn := look [], fx := look [] }
def A_s_l2Digit : An := { join := look [], loop := look [], ret := [⟨2, .val, .bool⟩] }
theorem c_s_l2Digit (N : Nat) : Ctr Tryd.prog Vp 54 ⟨[(.int .u8)], [.bool], s_l2Digit N⟩ := by
  have hE : EnvOK Tryd.prog (E_s_l2Digit N) := ⟨tabP_ok, (fun _ _ h => by cases h), (fun _ _ h => by cases h)⟩
  have h := fn_sound hE (by kernel_rfl) (N := N) (A := A_s_l2Digit) (pl := [⟨0, .val, (.int .u8)⟩]) (fid := 54) (fn := Tryd.f54) (c := ((Tryd.f54.body).getD .skip)) ⟨Tryd.func54, by kernel_rfl, by kernel_rfl, by kernel_rfl, Nat.le_of_ble_eq_true (by kernel_rfl), by kernel_rfl, by kernel_rfl, Nat.le_of_ble_eq_true (by kernel_rfl), by kernel_rfl⟩
  have e : s_l2Digit N = evalF (E_s_l2Digit N) A_s_l2Digit N [⟨0, .val, (.int .u8)⟩] ((Tryd.f54.body).getD .skip) := funext fun x => by kernel_rfl
  rw [e]
  exact h
noncomputable def E_s_l2In (N : Nat) : Cz := { tab := tabP, n := 17, V := Vp, ann := look [], fn := look [], fx := look [] }
def A_s_l2In : An := { join := look [], loop := look [(0, ⟨[⟨5, .val, (.int .i64)⟩], [], [4, 5, 6, 7, 8, 9, 10, 11, 12, 13, 14, 15, 16]⟩)], ret := [⟨4, .val, .bool⟩] }
theorem c_s_l2In (N : Nat) : Ctr Tryd.prog Vp 71 ⟨[(.int .u8), .str], [.bool], s_l2In N⟩ := by
  have hE : EnvOK Tryd.prog (E_s_l2In N) := ⟨tabP_ok, (fun _ _ h => by cases h), (fun _ _ h => by cases h)⟩
  have h := fn_sound hE (by kernel_rfl) (N := N) (A := A_s_l2In) (pl := [⟨0, .val, (.int .u8)⟩, ⟨1, .val, .str⟩]) (fid := 71) (fn := Tryd.f71) (c := ((Tryd.f71.body).getD .skip)) ⟨Tryd.func71, by kernel_rfl, by kernel_rfl, by kernel_rfl, Nat.le_of_ble_eq_true (by kernel_rfl), by kernel_rfl, by kernel_rfl, Nat.le_of_ble_eq_true (by kernel_rfl), by kernel_rfl⟩
  have e : s_l2In N = evalF (E_s_l2In N) A_s_l2In N [⟨0, .val, (.int .u8)⟩, ⟨1, .val, .str⟩] ((Tryd.f71.body).getD .skip) := funext fun x => by kernel_rfl
  rw [e]
  exact h
noncomputable def E_s_l2Sign (N : Nat) : Cz := { tab := tabP, n := 17, V := Vp, ann := look [], fn := look [(54, (⟨[(.int .u8)], [.bool], s_l2Digit N⟩ : Fn)), (71, (⟨[(.int .u8), .str], [.bool], s_l2In N⟩ : Fn))], fx := look [] }
def A_s_l2Sign : An := { join := look [], loop := look [], ret := [⟨2, .val, .bool⟩] }
theorem c_s_l2Sign (N : Nat) : Ctr Tryd.prog Vp 55 ⟨[(.int .u8)], [.bool], s_l2Sign N⟩ := by
  have hE : EnvOK Tryd.prog (E_s_l2Sign N) := ⟨tabP_ok, look_all (Q := fun t s => Ctr Tryd.prog Vp t s) _ (by
    intro p hp
    simp only [List.mem_cons, List.not_mem_nil, or_false] at hp
    rcases hp with rfl | rfl
    · exact c_s_l2Digit N
    · exact c_s_l2In N), (fun _ _ h => by cases h)⟩
  have h := fn_sound hE (by kernel_rfl) (N := N) (A := A_s_l2Sign) (pl := [⟨0, .val, (.int .u8)⟩]) (fid := 55) (fn := Tryd.f55) (c := ((Tryd.f55.body).getD .skip)) ⟨Tryd.func55, by kernel_rfl, by kernel_rfl, by kernel_rfl, Nat.le_of_ble_eq_true (by kernel_rfl), by kernel_rfl, by kernel_rfl, Nat.le_of_ble_eq_true (by kernel_rfl), by kernel_rfl⟩
  have e : s_l2Sign N = evalF (E_s_l2Sign N) A_s_l2Sign N [⟨0, .val, (.int .u8)⟩] ((Tryd.f55.body).getD .skip) := funext fun x => by kernel_rfl
  rw [e]
  exact h
noncomputable def E_s_Dec (N : Nat) : Cz := { tab := tabP, n := 31, V := Vp, ann := look [(21, (.int .u8))], fn := look [], fx := look [] }
def A_s_Dec : An := { join := look [(15, ([⟨5, .val, (.int .i64)⟩], [5, 16, 17]))], loop := look [(0, ⟨[⟨0, .val, (.int .i64)⟩, ⟨3, .val, .str⟩], [⟨3, .val, .str⟩], [0, 3, 5, 10, 11, 12, 13, 14, 15, 16, 17, 18, 19, 20, 21, 22, 23, 24, 25, 26]⟩)], ret := [⟨2, .val, .str⟩] }
theorem c_s_Dec (N : Nat) : Ctr Tryd.prog Vp 72 ⟨[(.int .i64)], [.str], s_Dec N⟩ := by
  have hE : EnvOK Tryd.prog (E_s_Dec N) := ⟨tabP_ok, (fun _ _ h => by cases h), (fun _ _ h => by cases h)⟩
  have h := fn_sound hE (by kernel_rfl) (N := N) (A := A_s_Dec) (pl := [⟨0, .val, (.int .i64)⟩]) (fid := 72) (fn := Tryd.f72) (c := ((Tryd.f72.body).getD .skip)) ⟨Tryd.func72, by kernel_rfl, by kernel_rfl, by kernel_rfl, Nat.le_of_ble_eq_true (by kernel_rfl), by kernel_rfl, by kernel_rfl, Nat.le_of_ble_eq_true (by kernel_rfl), by kernel_rfl⟩
  have e : s_Dec N = evalF (E_s_Dec N) A_s_Dec N [⟨0, .val, (.int .i64)⟩] ((Tryd.f72.body).getD .skip) := funext fun x => by kernel_rfl
  rw [e]
  exact h
noncomputable def E_s_ReadDec (N : Nat) : Cz := { tab := tabP, n := 61, V := Vp, ann := look [], fn := look [(72, (⟨[(.int .i64)], [.str], s_Dec N⟩ : Fn))], fx := look [] }
def A_s_ReadDec : An := { join := look [(26, ([⟨4, .val, (.int .i64)⟩, ⟨5, .val, (.int .i64)⟩], [4, 5, 27, 28, 29, 30, 31, 32, 33, 34, 35, 36])), (44, ([⟨4, .val, (.int .i64)⟩], [4, 45, 46]))], loop := look [(0, ⟨[⟨4, .val, (.int .i64)⟩, ⟨5, .val, (.int .i64)⟩, ⟨6, .val, (.int .i64)⟩], [⟨4, .val, (.int .i64)⟩, ⟨5, .val, (.int .i64)⟩], [4, 5, 6, 7, 8, 9, 10, 11, 12, 13, 14, 15, 16, 17, 18, 19, 20, 21, 22, 23, 24, 25, 26, 27, 28, 29, 30, 31, 32, 33, 34, 35, 36]⟩)], ret := [⟨2, .val, (.int .i64)⟩, ⟨3, .val, .bool⟩] }
theorem c_s_ReadDec (N : Nat) : Ctr Tryd.prog Vp 56 ⟨[.str], [(.int .i64), .bool], s_ReadDec N⟩ := by
  have hE : EnvOK Tryd.prog (E_s_ReadDec N) := ⟨tabP_ok, look_all (Q := fun t s => Ctr Tryd.prog Vp t s) _ (by
    intro p hp
    simp only [List.mem_cons, List.not_mem_nil, or_false] at hp
    rcases hp with rfl
    · exact c_s_Dec N), (fun _ _ h => by cases h)⟩
  have h := fn_sound hE (by kernel_rfl) (N := N) (A := A_s_ReadDec) (pl := [⟨0, .val, .str⟩]) (fid := 56) (fn := Tryd.f56) (c := ((Tryd.f56.body).getD .skip)) ⟨Tryd.func56, by kernel_rfl, by kernel_rfl, by kernel_rfl, Nat.le_of_ble_eq_true (by kernel_rfl), by kernel_rfl, by kernel_rfl, Nat.le_of_ble_eq_true (by kernel_rfl), by kernel_rfl⟩
  have e : s_ReadDec N = evalF (E_s_ReadDec N) A_s_ReadDec N [⟨0, .val, .str⟩] ((Tryd.f56.body).getD .skip) := funext fun x => by kernel_rfl
  rw [e]
  exact h
noncomputable def E_s_l2Sym (N : Nat) : Cz := { tab := tabP, n := 33, V := Vp, ann := look [], fn := look [(31, (⟨[(.int .i64), (.int .i64), (.int .i64)], [.bool], s_l1In N⟩ : Fn)), (54, (⟨[(.int .u8)], [.bool], s_l2Digit N⟩ : Fn)), (55, (⟨[(.int .u8)], [.bool], s_l2Sign N⟩ : Fn)), (56, (⟨[.str], [(.int .i64), .bool], s_ReadDec N⟩ : Fn))], fx := look [] }
def A_s_l2Sym : An := { join := look [], loop := look [(0, ⟨[⟨3, .val, (.int .i64)⟩], [], [2, 3, 15, 16, 17, 18, 19, 20, 21, 22, 23, 24, 25]⟩)], ret := [⟨2, .val, .bool⟩] }
theorem c_s_l2Sym (N : Nat) : Ctr Tryd.prog Vp 32 ⟨[.str], [.bool], s_l2Sym N⟩ := by
  have hE : EnvOK Tryd.prog (E_s_l2Sym N) := ⟨tabP_ok, look_all (Q := fun t s => Ctr Tryd.prog Vp t s) _ (by
    intro p hp
    simp only [List.mem_cons, List.not_mem_nil, or_false] at hp
    rcases hp with rfl | rfl | rfl | rfl
    · exact c_s_l1In N
    · exact c_s_l2Digit N
    · exact c_s_l2Sign N
    · exact c_s_ReadDec N), (fun _ _ h => by cases h)⟩
  have h := fn_sound hE (by kernel_rfl) (N := N) (A := A_s_l2Sym) (pl := [⟨0, .val, .str⟩]) (fid := 32) (fn := Tryd.f32) (c := ((Tryd.f32.body).getD .skip)) ⟨Tryd.func32, by kernel_rfl, by kernel_rfl, by kernel_rfl, Nat.le_of_ble_eq_true (by kernel_rfl), by kernel_rfl, by kernel_rfl, Nat.le_of_ble_eq_true (by kernel_rfl), by kernel_rfl⟩
  have e : s_l2Sym N = evalF (E_s_l2Sym N) A_s_l2Sym N [⟨0, .val, .str⟩] ((Tryd.f32.body).getD .skip) := funext fun x => by kernel_rfl
  rw [e]
  exact h
noncomputable def E_s_l6Cell (N : Nat) : Cz := { tab := tabP, n := 24, V := Vp, ann := look [], fn := look [], fx := look [] }
def A_s_l6Cell : An := { join := look [], loop := look [], ret := [⟨6, .val, .bool⟩] }
theorem c_s_l6Cell (N : Nat) : Ctr Tryd.prog Vp 33 ⟨[(.sl .lend (.pair (.int .i64) (.pair .str (.pair (.int .i64) (.pair (.int .i64) (.pair (.sl .lend .str) (.pair (.sl .lend (.pair (.int .i64) (.pair (.int .i64) (.pair .str .unit)))) .unit))))))), (.int .i64), (.int .i64)], [.bool], s_l6Cell N⟩ := by
  have hE : EnvOK Tryd.prog (E_s_l6Cell N) := ⟨tabP_ok, (fun _ _ h => by cases h), (fun _ _ h => by cases h)⟩
  have h := fn_sound hE (by kernel_rfl) (N := N) (A := A_s_l6Cell) (pl := [⟨0, .val, (.sl .lend (.pair (.int .i64) (.pair .str (.pair (.int .i64) (.pair (.int .i64) (.pair (.sl .lend .str) (.pair (.sl .lend (.pair (.int .i64) (.pair (.int .i64) (.pair .str .unit)))) .unit)))))))⟩, ⟨1, .val, (.int .i64)⟩, ⟨2, .val, (.int .i64)⟩]) (fid := 33) (fn := Tryd.f33) (c := ((Tryd.f33.body).getD .skip)) ⟨Tryd.func33, by kernel_rfl, by kernel_rfl, by kernel_rfl, Nat.le_of_ble_eq_true (by kernel_rfl), by kernel_rfl, by kernel_rfl, Nat.le_of_ble_eq_true (by kernel_rfl), by kernel_rfl⟩
  have e : s_l6Cell N = evalF (E_s_l6Cell N) A_s_l6Cell N [⟨0, .val, (.sl .lend (.pair (.int .i64) (.pair .str (.pair (.int .i64) (.pair (.int .i64) (.pair (.sl .lend .str) (.pair (.sl .lend (.pair (.int .i64) (.pair (.int .i64) (.pair .str .unit)))) .unit)))))))⟩, ⟨1, .val, (.int .i64)⟩, ⟨2, .val, (.int .i64)⟩] ((Tryd.f33.body).getD .skip) := funext fun x => by kernel_rfl
  rw [e]
  exact h
noncomputable def E_s_ValueOk (N : Nat) : Cz := { tab := tabP, n := 58, V := Vp, ann := look [], fn := look [(31, (⟨[(.int .i64), (.int .i64), (.int .i64)], [.bool], s_l1In N⟩ : Fn)), (32, (⟨[.str], [.bool], s_l2Sym N⟩ : Fn)), (33, (⟨[(.sl .lend (.pair (.int .i64) (.pair .str (.pair (.int .i64) (.pair (.int .i64) (.pair (.sl .lend .str) (.pair (.sl .lend (.pair (.int .i64) (.pair (.int .i64) (.pair .str .unit)))) .unit))))))), (.int .i64), (.int .i64)], [.bool], s_l6Cell N⟩ : Fn))], fx := look [] }
def A_s_ValueOk : An := { join := look [], loop := look [], ret := [⟨4, .val, .bool⟩] }
theorem c_s_ValueOk (N : Nat) : Ctr Tryd.prog Vp 12 ⟨[(.sl .lend (.pair (.int .i64) (.pair .str (.pair (.int .i64) (.pair (.int .i64) (.pair (.sl .lend .str) (.pair (.sl .lend (.pair (.int .i64) (.pair (.int .i64) (.pair .str .unit)))) .unit))))))), (.pair (.int .i64) (.pair (.int .i64) (.pair .str .unit)))], [.bool], s_ValueOk N⟩ := by
  have hE : EnvOK Tryd.prog (E_s_ValueOk N) := ⟨tabP_ok, look_all (Q := fun t s => Ctr Tryd.prog Vp t s) _ (by
    intro p hp
    simp only [List.mem_cons, List.not_mem_nil, or_false] at hp
    rcases hp with rfl | rfl | rfl
    · exact c_s_l1In N
    · exact c_s_l2Sym N
    · exact c_s_l6Cell N), (fun _ _ h => by cases h)⟩
  have h := fn_sound hE (by kernel_rfl) (N := N) (A := A_s_ValueOk) (pl := [⟨0, .val, (.sl .lend (.pair (.int .i64) (.pair .str (.pair (.int .i64) (.pair (.int .i64) (.pair (.sl .lend .str) (.pair (.sl .lend (.pair (.int .i64) (.pair (.int .i64) (.pair .str .unit)))) .unit)))))))⟩, ⟨1, .val, (.pair (.int .i64) (.pair (.int .i64) (.pair .str .unit)))⟩]) (fid := 12) (fn := Tryd.f12) (c := ((Tryd.f12.body).getD .skip)) ⟨Tryd.func12, by kernel_rfl, by kernel_rfl, by kernel_rfl, Nat.le_of_ble_eq_true (by kernel_rfl), by kernel_rfl, by kernel_rfl, Nat.le_of_ble_eq_true (by kernel_rfl), by kernel_rfl⟩
  have e : s_ValueOk N = evalF (E_s_ValueOk N) A_s_ValueOk N [⟨0, .val, (.sl .lend (.pair (.int .i64) (.pair .str (.pair (.int .i64) (.pair (.int .i64) (.pair (.sl .lend .str) (.pair (.sl .lend (.pair (.int .i64) (.pair (.int .i64) (.pair .str .unit)))) .unit)))))))⟩, ⟨1, .val, (.pair (.int .i64) (.pair (.int .i64) (.pair .str .unit)))⟩] ((Tryd.f12.body).getD .skip) := funext fun x => by kernel_rfl
  rw [e]
  exact h
noncomputable def E_s_l6Points (N : Nat) : Cz := { tab := tabP, n := 6, V := Vp, ann := look [], fn := look [(31, (⟨[(.int .i64), (.int .i64), (.int .i64)], [.bool], s_l1In N⟩ : Fn))], fx := look [] }
def A_s_l6Points : An := { join := look [], loop := look [], ret := [⟨2, .val, .bool⟩] }
theorem c_s_l6Points (N : Nat) : Ctr Tryd.prog Vp 52 ⟨[(.pair (.int .i64) (.pair (.int .i64) (.pair .str .unit)))], [.bool], s_l6Points N⟩ := by
  have hE : EnvOK Tryd.prog (E_s_l6Points N) := ⟨tabP_ok, look_all (Q := fun t s => Ctr Tryd.prog Vp t s) _ (by
    intro p hp
    simp only [List.mem_cons, List.not_mem_nil, or_false] at hp
    rcases hp with rfl
    · exact c_s_l1In N), (fun _ _ h => by cases h)⟩
  have h := fn_sound hE (by kernel_rfl) (N := N) (A := A_s_l6Points) (pl := [⟨0, .val, (.pair (.int .i64) (.pair (.int .i64) (.pair .str .unit)))⟩]) (fid := 52) (fn := Tryd.f52) (c := ((Tryd.f52.body).getD .skip)) ⟨Tryd.func52, by kernel_rfl, by kernel_rfl, by kernel_rfl, Nat.le_of_ble_eq_true (by kernel_rfl), by kernel_rfl, by kernel_rfl, Nat.le_of_ble_eq_true (by kernel_rfl), by kernel_rfl⟩
  have e : s_l6Points N = evalF (E_s_l6Points N) A_s_l6Points N [⟨0, .val, (.pair (.int .i64) (.pair (.int .i64) (.pair .str .unit)))⟩] ((Tryd.f52.body).getD .skip) := funext fun x => by kernel_rfl
  rw [e]
  exact h
noncomputable def E_s_l3In (N : Nat) : Cz := { tab := tabP, n := 18, V := Vp, ann := look [], fn := look [], fx := look [] }
def A_s_l3In : An := { join := look [], loop := look [(0, ⟨[⟨5, .val, (.int .i64)⟩], [], [4, 5, 6, 7, 8, 9, 10, 11, 12, 13, 14, 15, 16, 17]⟩)], ret := [⟨4, .val, .bool⟩] }
theorem c_s_l3In (N : Nat) : Ctr Tryd.prog Vp 79 ⟨[(.sl .lend .str), .str], [.bool], s_l3In N⟩ := by
  have hE : EnvOK Tryd.prog (E_s_l3In N) := ⟨tabP_ok, (fun _ _ h => by cases h), (fun _ _ h => by cases h)⟩
  have h := fn_sound hE (by kernel_rfl) (N := N) (A := A_s_l3In) (pl := [⟨0, .val, (.sl .lend .str)⟩, ⟨1, .val, .str⟩]) (fid := 79) (fn := Tryd.f79) (c := ((Tryd.f79.body).getD .skip)) ⟨Tryd.func79, by kernel_rfl, by kernel_rfl, by kernel_rfl, Nat.le_of_ble_eq_true (by kernel_rfl), by kernel_rfl, by kernel_rfl, Nat.le_of_ble_eq_true (by kernel_rfl), by kernel_rfl⟩
  have e : s_l3In N = evalF (E_s_l3In N) A_s_l3In N [⟨0, .val, (.sl .lend .str)⟩, ⟨1, .val, .str⟩] ((Tryd.f79.body).getD .skip) := funext fun x => by kernel_rfl
  rw [e]
  exact h
noncomputable def E_s_l3Word (N : Nat) : Cz := { tab := tabP, n := 6, V := Vp, ann := look [(3, .str)], fn := look [(79, (⟨[(.sl .lend .str), .str], [.bool], s_l3In N⟩ : Fn))], fx := look [] }
def A_s_l3Word : An := { join := look [], loop := look [], ret := [⟨2, .val, .bool⟩] }
theorem c_s_l3Word (N : Nat) : Ctr Tryd.prog Vp 69 ⟨[.str], [.bool], s_l3Word N⟩ := by
  have hE : EnvOK Tryd.prog (E_s_l3Word N) := ⟨tabP_ok, look_all (Q := fun t s => Ctr Tryd.prog Vp t s) _ (by
    intro p hp
    simp only [List.mem_cons, List.not_mem_nil, or_false] at hp
    rcases hp with rfl
    · exact c_s_l3In N), (fun _ _ h => by cases h)⟩
  have h := fn_sound hE (by kernel_rfl) (N := N) (A := A_s_l3Word) (pl := [⟨0, .val, .str⟩]) (fid := 69) (fn := Tryd.f69) (c := ((Tryd.f69.body).getD .skip)) ⟨Tryd.func69, by kernel_rfl, by kernel_rfl, by kernel_rfl, Nat.le_of_ble_eq_true (by kernel_rfl), by kernel_rfl, by kernel_rfl, Nat.le_of_ble_eq_true (by kernel_rfl), by kernel_rfl⟩
  have e : s_l3Word N = evalF (E_s_l3Word N) A_s_l3Word N [⟨0, .val, .str⟩] ((Tryd.f69.body).getD .skip) := funext fun x => by kernel_rfl
  rw [e]
  exact h
noncomputable def E_s_Arity (N : Nat) : Cz := { tab := tabP, n := 24, V := Vp, ann := look [], fn := look [], fx := look [] }
def A_s_Arity : An := { join := look [(4, ([⟨4, .val, .bool⟩], [4, 6, 7, 8, 9, 10, 11])), (12, ([⟨12, .val, .bool⟩], [12, 14, 15, 16, 17, 18, 19, 20, 21]))], loop := look [], ret := [⟨2, .val, (.int .i64)⟩] }
theorem c_s_Arity (N : Nat) : Ctr Tryd.prog Vp 70 ⟨[.str], [(.int .i64)], s_Arity N⟩ := by
  have hE : EnvOK Tryd.prog (E_s_Arity N) := ⟨tabP_ok, (fun _ _ h => by cases h), (fun _ _ h => by cases h)⟩
  have h := fn_sound hE (by kernel_rfl) (N := N) (A := A_s_Arity) (pl := [⟨0, .val, .str⟩]) (fid := 70) (fn := Tryd.f70) (c := ((Tryd.f70.body).getD .skip)) ⟨Tryd.func70, by kernel_rfl, by kernel_rfl, by kernel_rfl, Nat.le_of_ble_eq_true (by kernel_rfl), by kernel_rfl, by kernel_rfl, Nat.le_of_ble_eq_true (by kernel_rfl), by kernel_rfl⟩
  have e : s_Arity N = evalF (E_s_Arity N) A_s_Arity N [⟨0, .val, .str⟩] ((Tryd.f70.body).getD .skip) := funext fun x => by kernel_rfl
  rw [e]
  exact h
noncomputable def E_s_IsName (N : Nat) : Cz := { tab := tabP, n := 19, V := Vp, ann := look [], fn := look [(32, (⟨[.str], [.bool], s_l2Sym N⟩ : Fn)), (69, (⟨[.str], [.bool], s_l3Word N⟩ : Fn)), (70, (⟨[.str], [(.int .i64)], s_Arity N⟩ : Fn))], fx := look [] }
def A_s_IsName : An := { join := look [], loop := look [], ret := [⟨2, .val, .bool⟩] }
theorem c_s_IsName (N : Nat) : Ctr Tryd.prog Vp 53 ⟨[.str], [.bool], s_IsName N⟩ := by
  have hE : EnvOK Tryd.prog (E_s_IsName N) := ⟨tabP_ok, look_all (Q := fun t s => Ctr Tryd.prog Vp t s) _ (by
    intro p hp
    simp only [List.mem_cons, List.not_mem_nil, or_false] at hp
    rcases hp with rfl | rfl | rfl
    · exact c_s_l2Sym N
    · exact c_s_l3Word N
    · exact c_s_Arity N), (fun _ _ h => by cases h)⟩
  have h := fn_sound hE (by kernel_rfl) (N := N) (A := A_s_IsName) (pl := [⟨0, .val, .str⟩]) (fid := 53) (fn := Tryd.f53) (c := ((Tryd.f53.body).getD .skip)) ⟨Tryd.func53, by kernel_rfl, by kernel_rfl, by kernel_rfl, Nat.le_of_ble_eq_true (by kernel_rfl), by kernel_rfl, by kernel_rfl, Nat.le_of_ble_eq_true (by kernel_rfl), by kernel_rfl⟩
  have e : s_IsName N = evalF (E_s_IsName N) A_s_IsName N [⟨0, .val, .str⟩] ((Tryd.f53.body).getD .skip) := funext fun x => by kernel_rfl
  rw [e]
  exact h
noncomputable def E_s_l6CellOk (N : Nat) : Cz := { tab := tabP, n := 144, V := Vp, ann := look [], fn := look [(12, (⟨[(.sl .lend (.pair (.int .i64) (.pair .str (.pair (.int .i64) (.pair (.int .i64) (.pair (.sl .lend .str) (.pair (.sl .lend (.pair (.int .i64) (.pair (.int .i64) (.pair .str .unit)))) .unit))))))), (.pair (.int .i64) (.pair (.int .i64) (.pair .str .unit)))], [.bool], s_ValueOk N⟩ : Fn)), (31, (⟨[(.int .i64), (.int .i64), (.int .i64)], [.bool], s_l1In N⟩ : Fn)), (52, (⟨[(.pair (.int .i64) (.pair (.int .i64) (.pair .str .unit)))], [.bool], s_l6Points N⟩ : Fn)), (53, (⟨[.str], [.bool], s_IsName N⟩ : Fn))], fx := look [] }
def A_s_l6CellOk : An := { join := look [], loop := look [(0, ⟨[⟨5, .box false, (.pair (.int .i64) (.pair .str (.pair (.int .i64) (.pair (.int .i64) (.pair (.sl .lend .str) (.pair (.sl .lend (.pair (.int .i64) (.pair (.int .i64) (.pair .str .unit)))) .unit))))))⟩, ⟨6, .val, (.int .i64)⟩], [⟨5, .box false, (.pair (.int .i64) (.pair .str (.pair (.int .i64) (.pair (.int .i64) (.pair (.sl .lend .str) (.pair (.sl .lend (.pair (.int .i64) (.pair (.int .i64) (.pair .str .unit)))) .unit))))))⟩], [4, 6, 12, 13, 14, 15, 16, 17, 18, 19, 20, 21, 22, 23, 24, 25, 26, 27, 28, 29, 30, 31, 32, 33, 34, 35, 36, 37, 38, 39, 40, 41, 42, 43, 44, 45, 46, 47, 48, 49]⟩), (3, ⟨[⟨5, .box false, (.pair (.int .i64) (.pair .str (.pair (.int .i64) (.pair (.int .i64) (.pair (.sl .lend .str) (.pair (.sl .lend (.pair (.int .i64) (.pair (.int .i64) (.pair .str .unit)))) .unit))))))⟩, ⟨7, .val, (.int .i64)⟩], [⟨5, .box false, (.pair (.int .i64) (.pair .str (.pair (.int .i64) (.pair (.int .i64) (.pair (.sl .lend .str) (.pair (.sl .lend (.pair (.int .i64) (.pair (.int .i64) (.pair .str .unit)))) .unit))))))⟩], [4, 7, 81, 82, 83, 84, 85, 86, 87, 88, 89, 90, 91, 92, 93, 94]⟩)], ret := [⟨4, .val, .bool⟩] }
theorem c_s_l6CellOk (N : Nat) : Ctr Tryd.prog Vp 30 ⟨[(.sl .lend (.pair (.int .i64) (.pair .str (.pair (.int .i64) (.pair (.int .i64) (.pair (.sl .lend .str) (.pair (.sl .lend (.pair (.int .i64) (.pair (.int .i64) (.pair .str .unit)))) .unit))))))), (.int .i64)], [.bool], s_l6CellOk N⟩ := by
  have hE : EnvOK Tryd.prog (E_s_l6CellOk N) := ⟨tabP_ok, look_all (Q := fun t s => Ctr Tryd.prog Vp t s) _ (by
    intro p hp
    simp only [List.mem_cons, List.not_mem_nil, or_false] at hp
    rcases hp with rfl | rfl | rfl | rfl
    · exact c_s_ValueOk N
    · exact c_s_l1In N
    · exact c_s_l6Points N
    · exact c_s_IsName N), (fun _ _ h => by cases h)⟩
  have h := fn_sound hE (by kernel_rfl) (N := N) (A := A_s_l6CellOk) (pl := [⟨0, .val, (.sl .lend (.pair (.int .i64) (.pair .str (.pair (.int .i64) (.pair (.int .i64) (.pair (.sl .lend .str) (.pair (.sl .lend (.pair (.int .i64) (.pair (.int .i64) (.pair .str .unit)))) .unit)))))))⟩, ⟨1, .val, (.int .i64)⟩]) (fid := 30) (fn := Tryd.f30) (c := ((Tryd.f30.body).getD .skip)) ⟨Tryd.func30, by kernel_rfl, by kernel_rfl, by kernel_rfl, Nat.le_of_ble_eq_true (by kernel_rfl), by kernel_rfl, by kernel_rfl, Nat.le_of_ble_eq_true (by kernel_rfl), by kernel_rfl⟩
  have e : s_l6CellOk N = evalF (E_s_l6CellOk N) A_s_l6CellOk N [⟨0, .val, (.sl .lend (.pair (.int .i64) (.pair .str (.pair (.int .i64) (.pair (.int .i64) (.pair (.sl .lend .str) (.pair (.sl .lend (.pair (.int .i64) (.pair (.int .i64) (.pair .str .unit)))) .unit)))))))⟩, ⟨1, .val, (.int .i64)⟩] ((Tryd.f30.body).getD .skip) := funext fun x => by kernel_rfl
  rw [e]
  exact h
noncomputable def E_s_HeapOk (N : Nat) : Cz := { tab := tabP, n := 17, V := Vp, ann := look [], fn := look [(30, (⟨[(.sl .lend (.pair (.int .i64) (.pair .str (.pair (.int .i64) (.pair (.int .i64) (.pair (.sl .lend .str) (.pair (.sl .lend (.pair (.int .i64) (.pair (.int .i64) (.pair .str .unit)))) .unit))))))), (.int .i64)], [.bool], s_l6CellOk N⟩ : Fn))], fx := look [] }
def A_s_HeapOk : An := { join := look [], loop := look [(0, ⟨[⟨3, .val, (.int .i64)⟩], [], [2, 3, 7, 8, 9, 10, 11, 12, 13, 14, 15, 16]⟩)], ret := [⟨2, .val, .bool⟩] }
theorem c_s_HeapOk (N : Nat) : Ctr Tryd.prog Vp 11 ⟨[(.sl .lend (.pair (.int .i64) (.pair .str (.pair (.int .i64) (.pair (.int .i64) (.pair (.sl .lend .str) (.pair (.sl .lend (.pair (.int .i64) (.pair (.int .i64) (.pair .str .unit)))) .unit)))))))], [.bool], s_HeapOk N⟩ := by
  have hE : EnvOK Tryd.prog (E_s_HeapOk N) := ⟨tabP_ok, look_all (Q := fun t s => Ctr Tryd.prog Vp t s) _ (by
    intro p hp
    simp only [List.mem_cons, List.not_mem_nil, or_false] at hp
    rcases hp with rfl
    · exact c_s_l6CellOk N), (fun _ _ h => by cases h)⟩
  have h := fn_sound hE (by kernel_rfl) (N := N) (A := A_s_HeapOk) (pl := [⟨0, .val, (.sl .lend (.pair (.int .i64) (.pair .str (.pair (.int .i64) (.pair (.int .i64) (.pair (.sl .lend .str) (.pair (.sl .lend (.pair (.int .i64) (.pair (.int .i64) (.pair .str .unit)))) .unit)))))))⟩]) (fid := 11) (fn := Tryd.f11) (c := ((Tryd.f11.body).getD .skip)) ⟨Tryd.func11, by kernel_rfl, by kernel_rfl, by kernel_rfl, Nat.le_of_ble_eq_true (by kernel_rfl), by kernel_rfl, by kernel_rfl, Nat.le_of_ble_eq_true (by kernel_rfl), by kernel_rfl⟩
  have e : s_HeapOk N = evalF (E_s_HeapOk N) A_s_HeapOk N [⟨0, .val, (.sl .lend (.pair (.int .i64) (.pair .str (.pair (.int .i64) (.pair (.int .i64) (.pair (.sl .lend .str) (.pair (.sl .lend (.pair (.int .i64) (.pair (.int .i64) (.pair .str .unit)))) .unit)))))))⟩] ((Tryd.f11.body).getD .skip) := funext fun x => by kernel_rfl
  rw [e]
  exact h
noncomputable def E_s_l26Least (N : Nat) : Cz := { tab := tabP, n := 6, V := Vp, ann := look [], fn := look [], fx := look [] }
def A_s_l26Least : An := { join := look [], loop := look [], ret := [⟨2, .val, (.int .i64)⟩] }
theorem c_s_l26Least (N : Nat) : Ctr Tryd.prog Vp 29 ⟨[(.int .i64)], [(.int .i64)], s_l26Least N⟩ := by
  have hE : EnvOK Tryd.prog (E_s_l26Least N) := ⟨tabP_ok, (fun _ _ h => by cases h), (fun _ _ h => by cases h)⟩
  have h := fn_sound hE (by kernel_rfl) (N := N) (A := A_s_l26Least) (pl := [⟨0, .val, (.int .i64)⟩]) (fid := 29) (fn := Tryd.f29) (c := ((Tryd.f29.body).getD .skip)) ⟨Tryd.func29, by kernel_rfl, by kernel_rfl, by kernel_rfl, Nat.le_of_ble_eq_true (by kernel_rfl), by kernel_rfl, by kernel_rfl, Nat.le_of_ble_eq_true (by kernel_rfl), by kernel_rfl⟩
  have e : s_l26Least N = evalF (E_s_l26Least N) A_s_l26Least N [⟨0, .val, (.int .i64)⟩] ((Tryd.f29.body).getD .skip) := funext fun x => by kernel_rfl
  rw [e]
  exact h
noncomputable def E_s_Weight (N : Nat) : Cz := { tab := tabP, n := 80, V := Vp, ann := look [(24, (.int .i64))], fn := look [(11, (⟨[(.sl .lend (.pair (.int .i64) (.pair .str (.pair (.int .i64) (.pair (.int .i64) (.pair (.sl .lend .str) (.pair (.sl .lend (.pair (.int .i64) (.pair (.int .i64) (.pair .str .unit)))) .unit)))))))], [.bool], s_HeapOk N⟩ : Fn)), (12, (⟨[(.sl .lend (.pair (.int .i64) (.pair .str (.pair (.int .i64) (.pair (.int .i64) (.pair (.sl .lend .str) (.pair (.sl .lend (.pair (.int .i64) (.pair (.int .i64) (.pair .str .unit)))) .unit))))))), (.pair (.int .i64) (.pair (.int .i64) (.pair .str .unit)))], [.bool], s_ValueOk N⟩ : Fn)), (29, (⟨[(.int .i64)], [(.int .i64)], s_l26Least N⟩ : Fn))], fx := look [] }
def A_s_Weight : An := { join := look [(53, ([⟨3, .box false, (.pair (.int .i64) (.pair (.int .i64) (.pair .str .unit)))⟩, ⟨5, .own false, (.sl .own (.int .i64))⟩], [54, 55, 56, 57, 58, 59, 60, 61, 62, 63, 64, 65, 66, 67, 68, 69, 70, 71, 72, 73, 74]))], loop := look [(2, ⟨[⟨3, .box false, (.pair (.int .i64) (.pair (.int .i64) (.pair .str .unit)))⟩, ⟨5, .own false, (.sl .own (.int .i64))⟩, ⟨7, .val, (.int .i64)⟩], [⟨3, .box false, (.pair (.int .i64) (.pair (.int .i64) (.pair .str .unit)))⟩, ⟨5, .own false, (.sl .own (.int .i64))⟩], [7, 40, 41, 42, 43, 44, 45, 46, 47, 48, 49, 50, 51, 52, 53, 54, 55, 56, 57, 58, 59, 60, 61, 62, 63, 64, 65, 66, 67, 68, 69, 70, 71, 72, 73, 74]⟩), (0, ⟨[⟨3, .box false, (.pair (.int .i64) (.pair (.int .i64) (.pair .str .unit)))⟩, ⟨5, .own false, (.sl .own (.int .i64))⟩, ⟨6, .val, (.int .i64)⟩], [⟨3, .box false, (.pair (.int .i64) (.pair (.int .i64) (.pair .str .unit)))⟩, ⟨5, .own false, (.sl .own (.int .i64))⟩], [6, 7, 25, 26, 27, 28, 29, 30, 31, 32, 33, 34, 35, 36, 37, 38, 39, 40, 41, 42, 43, 44, 45, 46, 47, 48, 49, 50, 51, 52, 53, 54, 55, 56, 57, 58, 59, 60, 61, 62, 63, 64, 65, 66, 67, 68, 69, 70, 71, 72, 73, 74]⟩)], ret := [⟨4, .val, (.int .i64)⟩] }
theorem c_s_Weight (N : Nat) : Ctr Tryd.prog Vp 10 ⟨[(.sl .lend (.pair (.int .i64) (.pair .str (.pair (.int .i64) (.pair (.int .i64) (.pair (.sl .lend .str) (.pair (.sl .lend (.pair (.int .i64) (.pair (.int .i64) (.pair .str .unit)))) .unit))))))), (.pair (.int .i64) (.pair (.int .i64) (.pair .str .unit)))], [(.int .i64)], s_Weight N⟩ := by
  have hE : EnvOK Tryd.prog (E_s_Weight N) := ⟨tabP_ok, look_all (Q := fun t s => Ctr Tryd.prog Vp t s) _ (by
    intro p hp
    simp only [List.mem_cons, List.not_mem_nil, or_false] at hp
    rcases hp with rfl | rfl | rfl
    · exact c_s_HeapOk N
    · exact c_s_ValueOk N
    · exact c_s_l26Least N), (fun _ _ h => by cases h)⟩
  have h := fn_sound hE (by kernel_rfl) (N := N) (A := A_s_Weight) (pl := [⟨0, .val, (.sl .lend (.pair (.int .i64) (.pair .str (.pair (.int .i64) (.pair (.int .i64) (.pair (.sl .lend .str) (.pair (.sl .lend (.pair (.int .i64) (.pair (.int .i64) (.pair .str .unit)))) .unit)))))))⟩, ⟨1, .val, (.pair (.int .i64) (.pair (.int .i64) (.pair .str .unit)))⟩]) (fid := 10) (fn := Tryd.f10) (c := ((Tryd.f10.body).getD .skip)) ⟨Tryd.func10, by kernel_rfl, by kernel_rfl, by kernel_rfl, Nat.le_of_ble_eq_true (by kernel_rfl), by kernel_rfl, by kernel_rfl, Nat.le_of_ble_eq_true (by kernel_rfl), by kernel_rfl⟩
  have e : s_Weight N = evalF (E_s_Weight N) A_s_Weight N [⟨0, .val, (.sl .lend (.pair (.int .i64) (.pair .str (.pair (.int .i64) (.pair (.int .i64) (.pair (.sl .lend .str) (.pair (.sl .lend (.pair (.int .i64) (.pair (.int .i64) (.pair .str .unit)))) .unit)))))))⟩, ⟨1, .val, (.pair (.int .i64) (.pair (.int .i64) (.pair .str .unit)))⟩] ((Tryd.f10.body).getD .skip) := funext fun x => by kernel_rfl
  rw [e]
  exact h
noncomputable def E_l_szStringS (N : Nat) : Cz := { tab := tabP, n := 28, V := Vp, ann := look [], fn := look [], fx := look [] }
def A_l_szStringS : An := { join := look [], loop := look [(0, ⟨[⟨1, .val, (.int .i64)⟩, ⟨5, .val, (.int .i64)⟩], [⟨1, .val, (.int .i64)⟩], [1, 4, 5, 12, 13, 14, 15, 16, 17, 18, 19, 20, 21, 22, 23, 24, 25, 26]⟩)], ret := [⟨4, .val, (.int .i64)⟩] }
theorem c_l_szStringS (N : Nat) : Ctr Tryd.prog Vp 57 ⟨[(.sl .lend .str), (.int .i64)], [(.int .i64)], l_szStringS N⟩ := by
  have hE : EnvOK Tryd.prog (E_l_szStringS N) := ⟨tabP_ok, (fun _ _ h => by cases h), (fun _ _ h => by cases h)⟩
  have h := fn_sound hE (by kernel_rfl) (N := N) (A := A_l_szStringS) (pl := [⟨0, .val, (.sl .lend .str)⟩, ⟨1, .val, (.int .i64)⟩]) (fid := 57) (fn := Tryd.f57) (c := ((Tryd.f57.body).getD .skip)) ⟨Tryd.func57, by kernel_rfl, by kernel_rfl, by kernel_rfl, Nat.le_of_ble_eq_true (by kernel_rfl), by kernel_rfl, by kernel_rfl, Nat.le_of_ble_eq_true (by kernel_rfl), by kernel_rfl⟩
  have e : l_szStringS N = evalF (E_l_szStringS N) A_l_szStringS N [⟨0, .val, (.sl .lend .str)⟩, ⟨1, .val, (.int .i64)⟩] ((Tryd.f57.body).getD .skip) := funext fun x => by kernel_rfl
  rw [e]
  exact h
noncomputable def E_l_szValue (N : Nat) : Cz := { tab := tabP, n := 13, V := Vp, ann := look [], fn := look [], fx := look [] }
def A_l_szValue : An := { join := look [], loop := look [], ret := [⟨4, .val, (.int .i64)⟩] }
theorem c_l_szValue (N : Nat) : Ctr Tryd.prog Vp 14 ⟨[(.pair (.int .i64) (.pair (.int .i64) (.pair .str .unit))), (.int .i64)], [(.int .i64)], l_szValue N⟩ := by
  have hE : EnvOK Tryd.prog (E_l_szValue N) := ⟨tabP_ok, (fun _ _ h => by cases h), (fun _ _ h => by cases h)⟩
  have h := fn_sound hE (by kernel_rfl) (N := N) (A := A_l_szValue) (pl := [⟨0, .val, (.pair (.int .i64) (.pair (.int .i64) (.pair .str .unit)))⟩, ⟨1, .val, (.int .i64)⟩]) (fid := 14) (fn := Tryd.f14) (c := ((Tryd.f14.body).getD .skip)) ⟨Tryd.func14, by kernel_rfl, by kernel_rfl, by kernel_rfl, Nat.le_of_ble_eq_true (by kernel_rfl), by kernel_rfl, by kernel_rfl, Nat.le_of_ble_eq_true (by kernel_rfl), by kernel_rfl⟩
  have e : l_szValue N = evalF (E_l_szValue N) A_l_szValue N [⟨0, .val, (.pair (.int .i64) (.pair (.int .i64) (.pair .str .unit)))⟩, ⟨1, .val, (.int .i64)⟩] ((Tryd.f14.body).getD .skip) := funext fun x => by kernel_rfl
  rw [e]
  exact h
noncomputable def E_l_szValueS (N : Nat) : Cz := { tab := tabP, n := 27, V := Vp, ann := look [], fn := look [(14, (⟨[(.pair (.int .i64) (.pair (.int .i64) (.pair .str .unit))), (.int .i64)], [(.int .i64)], l_szValue N⟩ : Fn))], fx := look [] }
def A_l_szValueS : An := { join := look [], loop := look [(0, ⟨[⟨1, .val, (.int .i64)⟩, ⟨5, .val, (.int .i64)⟩], [⟨1, .val, (.int .i64)⟩], [1, 4, 5, 12, 13, 14, 15, 16, 17, 18, 19, 20, 21, 22, 23, 24, 25]⟩)], ret := [⟨4, .val, (.int .i64)⟩] }
theorem c_l_szValueS (N : Nat) : Ctr Tryd.prog Vp 58 ⟨[(.sl .lend (.pair (.int .i64) (.pair (.int .i64) (.pair .str .unit)))), (.int .i64)], [(.int .i64)], l_szValueS N⟩ := by
  have hE : EnvOK Tryd.prog (E_l_szValueS N) := ⟨tabP_ok, look_all (Q := fun t s => Ctr Tryd.prog Vp t s) _ (by
    intro p hp
    simp only [List.mem_cons, List.not_mem_nil, or_false] at hp
    rcases hp with rfl
    · exact c_l_szValue N), (fun _ _ h => by cases h)⟩
  have h := fn_sound hE (by kernel_rfl) (N := N) (A := A_l_szValueS) (pl := [⟨0, .val, (.sl .lend (.pair (.int .i64) (.pair (.int .i64) (.pair .str .unit))))⟩, ⟨1, .val, (.int .i64)⟩]) (fid := 58) (fn := Tryd.f58) (c := ((Tryd.f58.body).getD .skip)) ⟨Tryd.func58, by kernel_rfl, by kernel_rfl, by kernel_rfl, Nat.le_of_ble_eq_true (by kernel_rfl), by kernel_rfl, by kernel_rfl, Nat.le_of_ble_eq_true (by kernel_rfl), by kernel_rfl⟩
  have e : l_szValueS N = evalF (E_l_szValueS N) A_l_szValueS N [⟨0, .val, (.sl .lend (.pair (.int .i64) (.pair (.int .i64) (.pair .str .unit))))⟩, ⟨1, .val, (.int .i64)⟩] ((Tryd.f58.body).getD .skip) := funext fun x => by kernel_rfl
  rw [e]
  exact h
noncomputable def E_l_szCell (N : Nat) : Cz := { tab := tabP, n := 25, V := Vp, ann := look [], fn := look [(57, (⟨[(.sl .lend .str), (.int .i64)], [(.int .i64)], l_szStringS N⟩ : Fn)), (58, (⟨[(.sl .lend (.pair (.int .i64) (.pair (.int .i64) (.pair .str .unit)))), (.int .i64)], [(.int .i64)], l_szValueS N⟩ : Fn))], fx := look [] }
def A_l_szCell : An := { join := look [], loop := look [], ret := [⟨4, .val, (.int .i64)⟩] }
theorem c_l_szCell (N : Nat) : Ctr Tryd.prog Vp 34 ⟨[(.pair (.int .i64) (.pair .str (.pair (.int .i64) (.pair (.int .i64) (.pair (.sl .lend .str) (.pair (.sl .lend (.pair (.int .i64) (.pair (.int .i64) (.pair .str .unit)))) .unit)))))), (.int .i64)], [(.int .i64)], l_szCell N⟩ := by
  have hE : EnvOK Tryd.prog (E_l_szCell N) := ⟨tabP_ok, look_all (Q := fun t s => Ctr Tryd.prog Vp t s) _ (by
    intro p hp
    simp only [List.mem_cons, List.not_mem_nil, or_false] at hp
    rcases hp with rfl | rfl
    · exact c_l_szStringS N
    · exact c_l_szValueS N), (fun _ _ h => by cases h)⟩
  have h := fn_sound hE (by kernel_rfl) (N := N) (A := A_l_szCell) (pl := [⟨0, .val, (.pair (.int .i64) (.pair .str (.pair (.int .i64) (.pair (.int .i64) (.pair (.sl .lend .str) (.pair (.sl .lend (.pair (.int .i64) (.pair (.int .i64) (.pair .str .unit)))) .unit))))))⟩, ⟨1, .val, (.int .i64)⟩]) (fid := 34) (fn := Tryd.f34) (c := ((Tryd.f34.body).getD .skip)) ⟨Tryd.func34, by kernel_rfl, by kernel_rfl, by kernel_rfl, Nat.le_of_ble_eq_true (by kernel_rfl), by kernel_rfl, by kernel_rfl, Nat.le_of_ble_eq_true (by kernel_rfl), by kernel_rfl⟩
  have e : l_szCell N = evalF (E_l_szCell N) A_l_szCell N [⟨0, .val, (.pair (.int .i64) (.pair .str (.pair (.int .i64) (.pair (.int .i64) (.pair (.sl .lend .str) (.pair (.sl .lend (.pair (.int .i64) (.pair (.int .i64) (.pair .str .unit)))) .unit))))))⟩, ⟨1, .val, (.int .i64)⟩] ((Tryd.f34.body).getD .skip) := funext fun x => by kernel_rfl
  rw [e]
  exact h
noncomputable def E_l_szCellS (N : Nat) : Cz := { tab := tabP, n := 27, V := Vp, ann := look [], fn := look [(34, (⟨[(.pair (.int .i64) (.pair .str (.pair (.int .i64) (.pair (.int .i64) (.pair (.sl .lend .str) (.pair (.sl .lend (.pair (.int .i64) (.pair (.int .i64) (.pair .str .unit)))) .unit)))))), (.int .i64)], [(.int .i64)], l_szCell N⟩ : Fn))], fx := look [] }
def A_l_szCellS : An := { join := look [], loop := look [(0, ⟨[⟨1, .val, (.int .i64)⟩, ⟨5, .val, (.int .i64)⟩], [⟨1, .val, (.int .i64)⟩], [1, 4, 5, 12, 13, 14, 15, 16, 17, 18, 19, 20, 21, 22, 23, 24, 25]⟩)], ret := [⟨4, .val, (.int .i64)⟩] }
theorem c_l_szCellS (N : Nat) : Ctr Tryd.prog Vp 13 ⟨[(.sl .lend (.pair (.int .i64) (.pair .str (.pair (.int .i64) (.pair (.int .i64) (.pair (.sl .lend .str) (.pair (.sl .lend (.pair (.int .i64) (.pair (.int .i64) (.pair .str .unit)))) .unit))))))), (.int .i64)], [(.int .i64)], l_szCellS N⟩ := by
  have hE : EnvOK Tryd.prog (E_l_szCellS N) := ⟨tabP_ok, look_all (Q := fun t s => Ctr Tryd.prog Vp t s) _ (by
    intro p hp
    simp only [List.mem_cons, List.not_mem_nil, or_false] at hp
    rcases hp with rfl
    · exact c_l_szCell N), (fun _ _ h => by cases h)⟩
  have h := fn_sound hE (by kernel_rfl) (N := N) (A := A_l_szCellS) (pl := [⟨0, .val, (.sl .lend (.pair (.int .i64) (.pair .str (.pair (.int .i64) (.pair (.int .i64) (.pair (.sl .lend .str) (.pair (.sl .lend (.pair (.int .i64) (.pair (.int .i64) (.pair .str .unit)))) .unit)))))))⟩, ⟨1, .val, (.int .i64)⟩]) (fid := 13) (fn := Tryd.f13) (c := ((Tryd.f13.body).getD .skip)) ⟨Tryd.func13, by kernel_rfl, by kernel_rfl, by kernel_rfl, Nat.le_of_ble_eq_true (by kernel_rfl), by kernel_rfl, by kernel_rfl, Nat.le_of_ble_eq_true (by kernel_rfl), by kernel_rfl⟩
  have e : l_szCellS N = evalF (E_l_szCellS N) A_l_szCellS N [⟨0, .val, (.sl .lend (.pair (.int .i64) (.pair .str (.pair (.int .i64) (.pair (.int .i64) (.pair (.sl .lend .str) (.pair (.sl .lend (.pair (.int .i64) (.pair (.int .i64) (.pair .str .unit)))) .unit)))))))⟩, ⟨1, .val, (.int .i64)⟩] ((Tryd.f13.body).getD .skip) := funext fun x => by kernel_rfl
  rw [e]
  exact h
noncomputable def E_l_toStringS (N : Nat) : Cz := { tab := tabP, n := 22, V := Vp, ann := look [(7, .str)], fn := look [], fx := look [] }
def A_l_toStringS : An := { join := look [], loop := look [(0, ⟨[⟨3, .own false, (.sl .own .str)⟩, ⟨4, .val, (.int .i64)⟩], [⟨3, .own false, (.sl .own .str)⟩], [4, 8, 9, 10, 11, 12, 13, 14, 15, 16, 17, 18, 19, 20]⟩)], ret := [⟨2, .own false, (.sl .own .str)⟩] }
theorem c_l_toStringS (N : Nat) : Ctr Tryd.prog Vp 59 ⟨[(.sl .lend .str)], [(.sl .own .str)], l_toStringS N⟩ := by
  have hE : EnvOK Tryd.prog (E_l_toStringS N) := ⟨tabP_ok, (fun _ _ h => by cases h), (fun _ _ h => by cases h)⟩
  have h := fn_sound hE (by kernel_rfl) (N := N) (A := A_l_toStringS) (pl := [⟨0, .val, (.sl .lend .str)⟩]) (fid := 59) (fn := Tryd.f59) (c := ((Tryd.f59.body).getD .skip)) ⟨Tryd.func59, by kernel_rfl, by kernel_rfl, by kernel_rfl, Nat.le_of_ble_eq_true (by kernel_rfl), by kernel_rfl, by kernel_rfl, Nat.le_of_ble_eq_true (by kernel_rfl), by kernel_rfl⟩
  have e : l_toStringS N = evalF (E_l_toStringS N) A_l_toStringS N [⟨0, .val, (.sl .lend .str)⟩] ((Tryd.f59.body).getD .skip) := funext fun x => by kernel_rfl
  rw [e]
  exact h
noncomputable def E_l_toValue (N : Nat) : Cz := { tab := tabP, n := 14, V := Vp, ann := look [], fn := look [], fx := look [] }
def A_l_toValue : An := { join := look [], loop := look [], ret := [⟨2, .box false, (.pair (.int .i64) (.pair (.int .i64) (.pair .str .unit)))⟩] }
theorem c_l_toValue (N : Nat) : Ctr Tryd.prog Vp 16 ⟨[(.pair (.int .i64) (.pair (.int .i64) (.pair .str .unit)))], [(.pair (.int .i64) (.pair (.int .i64) (.pair .str .unit)))], l_toValue N⟩ := by
  have hE : EnvOK Tryd.prog (E_l_toValue N) := ⟨tabP_ok, (fun _ _ h => by cases h), (fun _ _ h => by cases h)⟩
  have h := fn_sound hE (by kernel_rfl) (N := N) (A := A_l_toValue) (pl := [⟨0, .val, (.pair (.int .i64) (.pair (.int .i64) (.pair .str .unit)))⟩]) (fid := 16) (fn := Tryd.f16) (c := ((Tryd.f16.body).getD .skip)) ⟨Tryd.func16, by kernel_rfl, by kernel_rfl, by kernel_rfl, Nat.le_of_ble_eq_true (by kernel_rfl), by kernel_rfl, by kernel_rfl, Nat.le_of_ble_eq_true (by kernel_rfl), by kernel_rfl⟩
  have e : l_toValue N = evalF (E_l_toValue N) A_l_toValue N [⟨0, .val, (.pair (.int .i64) (.pair (.int .i64) (.pair .str .unit)))⟩] ((Tryd.f16.body).getD .skip) := funext fun x => by kernel_rfl
  rw [e]
  exact h
noncomputable def E_l_toValueS (N : Nat) : Cz := { tab := tabP, n := 23, V := Vp, ann := look [(7, (.pair (.int .i64) (.pair (.int .i64) (.pair .str .unit))))], fn := look [(16, (⟨[(.pair (.int .i64) (.pair (.int .i64) (.pair .str .unit)))], [(.pair (.int .i64) (.pair (.int .i64) (.pair .str .unit)))], l_toValue N⟩ : Fn))], fx := look [] }
def A_l_toValueS : An := { join := look [], loop := look [(0, ⟨[⟨3, .own false, (.sl .own (.pair (.int .i64) (.pair (.int .i64) (.pair .str .unit))))⟩, ⟨4, .val, (.int .i64)⟩], [⟨3, .own false, (.sl .own (.pair (.int .i64) (.pair (.int .i64) (.pair .str .unit))))⟩], [4, 8, 9, 10, 11, 12, 13, 14, 15, 16, 17, 18, 19, 20, 21]⟩)], ret := [⟨2, .own false, (.sl .own (.pair (.int .i64) (.pair (.int .i64) (.pair .str .unit))))⟩] }
theorem c_l_toValueS (N : Nat) : Ctr Tryd.prog Vp 60 ⟨[(.sl .lend (.pair (.int .i64) (.pair (.int .i64) (.pair .str .unit))))], [(.sl .own (.pair (.int .i64) (.pair (.int .i64) (.pair .str .unit))))], l_toValueS N⟩ := by
  have hE : EnvOK Tryd.prog (E_l_toValueS N) := ⟨tabP_ok, look_all (Q := fun t s => Ctr Tryd.prog Vp t s) _ (by
    intro p hp
    simp only [List.mem_cons, List.not_mem_nil, or_false] at hp
    rcases hp with rfl
    · exact c_l_toValue N), (fun _ _ h => by cases h)⟩
  have h := fn_sound hE (by kernel_rfl) (N := N) (A := A_l_toValueS) (pl := [⟨0, .val, (.sl .lend (.pair (.int .i64) (.pair (.int .i64) (.pair .str .unit))))⟩]) (fid := 60) (fn := Tryd.f60) (c := ((Tryd.f60.body).getD .skip)) ⟨Tryd.func60, by kernel_rfl, by kernel_rfl, by kernel_rfl, Nat.le_of_ble_eq_true (by kernel_rfl), by kernel_rfl, by kernel_rfl, Nat.le_of_ble_eq_true (by kernel_rfl), by kernel_rfl⟩
  have e : l_toValueS N = evalF (E_l_toValueS N) A_l_toValueS N [⟨0, .val, (.sl .lend (.pair (.int .i64) (.pair (.int .i64) (.pair .str .unit))))⟩] ((Tryd.f60.body).getD .skip) := funext fun x => by kernel_rfl
  rw [e]
  exact h
noncomputable def E_l_toCell (N : Nat) : Cz := { tab := tabP, n := 25, V := Vp, ann := look [], fn := look [(59, (⟨[(.sl .lend .str)], [(.sl .own .str)], l_toStringS N⟩ : Fn)), (60, (⟨[(.sl .lend (.pair (.int .i64) (.pair (.int .i64) (.pair .str .unit))))], [(.sl .own (.pair (.int .i64) (.pair (.int .i64) (.pair .str .unit))))], l_toValueS N⟩ : Fn))], fx := look [] }
def A_l_toCell : An := { join := look [], loop := look [], ret := [⟨2, .box false, (.pair (.int .i64) (.pair .str (.pair (.int .i64) (.pair (.int .i64) (.pair (.sl .own .str) (.pair (.sl .own (.pair (.int .i64) (.pair (.int .i64) (.pair .str .unit)))) .unit))))))⟩] }
theorem c_l_toCell (N : Nat) : Ctr Tryd.prog Vp 35 ⟨[(.pair (.int .i64) (.pair .str (.pair (.int .i64) (.pair (.int .i64) (.pair (.sl .lend .str) (.pair (.sl .lend (.pair (.int .i64) (.pair (.int .i64) (.pair .str .unit)))) .unit))))))], [(.pair (.int .i64) (.pair .str (.pair (.int .i64) (.pair (.int .i64) (.pair (.sl .own .str) (.pair (.sl .own (.pair (.int .i64) (.pair (.int .i64) (.pair .str .unit)))) .unit))))))], l_toCell N⟩ := by
  have hE : EnvOK Tryd.prog (E_l_toCell N) := ⟨tabP_ok, look_all (Q := fun t s => Ctr Tryd.prog Vp t s) _ (by
    intro p hp
    simp only [List.mem_cons, List.not_mem_nil, or_false] at hp
    rcases hp with rfl | rfl
    · exact c_l_toStringS N
    · exact c_l_toValueS N), (fun _ _ h => by cases h)⟩
  have h := fn_sound hE (by kernel_rfl) (N := N) (A := A_l_toCell) (pl := [⟨0, .val, (.pair (.int .i64) (.pair .str (.pair (.int .i64) (.pair (.int .i64) (.pair (.sl .lend .str) (.pair (.sl .lend (.pair (.int .i64) (.pair (.int .i64) (.pair .str .unit)))) .unit))))))⟩]) (fid := 35) (fn := Tryd.f35) (c := ((Tryd.f35.body).getD .skip)) ⟨Tryd.func35, by kernel_rfl, by kernel_rfl, by kernel_rfl, Nat.le_of_ble_eq_true (by kernel_rfl), by kernel_rfl, by kernel_rfl, Nat.le_of_ble_eq_true (by kernel_rfl), by kernel_rfl⟩
  have e : l_toCell N = evalF (E_l_toCell N) A_l_toCell N [⟨0, .val, (.pair (.int .i64) (.pair .str (.pair (.int .i64) (.pair (.int .i64) (.pair (.sl .lend .str) (.pair (.sl .lend (.pair (.int .i64) (.pair (.int .i64) (.pair .str .unit)))) .unit))))))⟩] ((Tryd.f35.body).getD .skip) := funext fun x => by kernel_rfl
  rw [e]
  exact h
noncomputable def E_l_toCellS (N : Nat) : Cz := { tab := tabP, n := 23, V := Vp, ann := look [(7, (.pair (.int .i64) (.pair .str (.pair (.int .i64) (.pair (.int .i64) (.pair (.sl .own .str) (.pair (.sl .own (.pair (.int .i64) (.pair (.int .i64) (.pair .str .unit)))) .unit)))))))], fn := look [(35, (⟨[(.pair (.int .i64) (.pair .str (.pair (.int .i64) (.pair (.int .i64) (.pair (.sl .lend .str) (.pair (.sl .lend (.pair (.int .i64) (.pair (.int .i64) (.pair .str .unit)))) .unit))))))], [(.pair (.int .i64) (.pair .str (.pair (.int .i64) (.pair (.int .i64) (.pair (.sl .own .str) (.pair (.sl .own (.pair (.int .i64) (.pair (.int .i64) (.pair .str .unit)))) .unit))))))], l_toCell N⟩ : Fn))], fx := look [] }
def A_l_toCellS : An := { join := look [], loop := look [(0, ⟨[⟨3, .own false, (.sl .own (.pair (.int .i64) (.pair .str (.pair (.int .i64) (.pair (.int .i64) (.pair (.sl .own .str) (.pair (.sl .own (.pair (.int .i64) (.pair (.int .i64) (.pair .str .unit)))) .unit)))))))⟩, ⟨4, .val, (.int .i64)⟩], [⟨3, .own false, (.sl .own (.pair (.int .i64) (.pair .str (.pair (.int .i64) (.pair (.int .i64) (.pair (.sl .own .str) (.pair (.sl .own (.pair (.int .i64) (.pair (.int .i64) (.pair .str .unit)))) .unit)))))))⟩], [4, 8, 9, 10, 11, 12, 13, 14, 15, 16, 17, 18, 19, 20, 21]⟩)], ret := [⟨2, .own false, (.sl .own (.pair (.int .i64) (.pair .str (.pair (.int .i64) (.pair (.int .i64) (.pair (.sl .own .str) (.pair (.sl .own (.pair (.int .i64) (.pair (.int .i64) (.pair .str .unit)))) .unit)))))))⟩] }
theorem c_l_toCellS (N : Nat) : Ctr Tryd.prog Vp 15 ⟨[(.sl .lend (.pair (.int .i64) (.pair .str (.pair (.int .i64) (.pair (.int .i64) (.pair (.sl .lend .str) (.pair (.sl .lend (.pair (.int .i64) (.pair (.int .i64) (.pair .str .unit)))) .unit)))))))], [(.sl .own (.pair (.int .i64) (.pair .str (.pair (.int .i64) (.pair (.int .i64) (.pair (.sl .own .str) (.pair (.sl .own (.pair (.int .i64) (.pair (.int .i64) (.pair .str .unit)))) .unit)))))))], l_toCellS N⟩ := by
  have hE : EnvOK Tryd.prog (E_l_toCellS N) := ⟨tabP_ok, look_all (Q := fun t s => Ctr Tryd.prog Vp t s) _ (by
    intro p hp
    simp only [List.mem_cons, List.not_mem_nil, or_false] at hp
    rcases hp with rfl
    · exact c_l_toCell N), (fun _ _ h => by cases h)⟩
  have h := fn_sound hE (by kernel_rfl) (N := N) (A := A_l_toCellS) (pl := [⟨0, .val, (.sl .lend (.pair (.int .i64) (.pair .str (.pair (.int .i64) (.pair (.int .i64) (.pair (.sl .lend .str) (.pair (.sl .lend (.pair (.int .i64) (.pair (.int .i64) (.pair .str .unit)))) .unit)))))))⟩]) (fid := 15) (fn := Tryd.f15) (c := ((Tryd.f15.body).getD .skip)) ⟨Tryd.func15, by kernel_rfl, by kernel_rfl, by kernel_rfl, Nat.le_of_ble_eq_true (by kernel_rfl), by kernel_rfl, by kernel_rfl, Nat.le_of_ble_eq_true (by kernel_rfl), by kernel_rfl⟩
  have e : l_toCellS N = evalF (E_l_toCellS N) A_l_toCellS N [⟨0, .val, (.sl .lend (.pair (.int .i64) (.pair .str (.pair (.int .i64) (.pair (.int .i64) (.pair (.sl .lend .str) (.pair (.sl .lend (.pair (.int .i64) (.pair (.int .i64) (.pair .str .unit)))) .unit)))))))⟩] ((Tryd.f15.body).getD .skip) := funext fun x => by kernel_rfl
  rw [e]
  exact h
noncomputable def E_l_eqStringS (N : Nat) : Cz := { tab := tabP, n := 26, V := Vp, ann := look [], fn := look [], fx := look [] }
def A_l_eqStringS : An := { join := look [], loop := look [(0, ⟨[⟨5, .val, (.int .i64)⟩], [], [4, 5, 11, 12, 13, 14, 15, 16, 17, 18, 19, 20, 21, 22, 23, 24, 25]⟩)], ret := [⟨4, .val, .bool⟩] }
theorem c_l_eqStringS (N : Nat) : Ctr Tryd.prog Vp 61 ⟨[(.sl .lend .str), (.sl .lend .str)], [.bool], l_eqStringS N⟩ := by
  have hE : EnvOK Tryd.prog (E_l_eqStringS N) := ⟨tabP_ok, (fun _ _ h => by cases h), (fun _ _ h => by cases h)⟩
  have h := fn_sound hE (by kernel_rfl) (N := N) (A := A_l_eqStringS) (pl := [⟨0, .val, (.sl .lend .str)⟩, ⟨1, .val, (.sl .lend .str)⟩]) (fid := 61) (fn := Tryd.f61) (c := ((Tryd.f61.body).getD .skip)) ⟨Tryd.func61, by kernel_rfl, by kernel_rfl, by kernel_rfl, Nat.le_of_ble_eq_true (by kernel_rfl), by kernel_rfl, by kernel_rfl, Nat.le_of_ble_eq_true (by kernel_rfl), by kernel_rfl⟩
  have e : l_eqStringS N = evalF (E_l_eqStringS N) A_l_eqStringS N [⟨0, .val, (.sl .lend .str)⟩, ⟨1, .val, (.sl .lend .str)⟩] ((Tryd.f61.body).getD .skip) := funext fun x => by kernel_rfl
  rw [e]
  exact h
noncomputable def E_l_eqValue (N : Nat) : Cz := { tab := tabP, n := 20, V := Vp, ann := look [], fn := look [], fx := look [] }
def A_l_eqValue : An := { join := look [], loop := look [], ret := [⟨4, .val, .bool⟩] }
theorem c_l_eqValue (N : Nat) : Ctr Tryd.prog Vp 73 ⟨[(.pair (.int .i64) (.pair (.int .i64) (.pair .str .unit))), (.pair (.int .i64) (.pair (.int .i64) (.pair .str .unit)))], [.bool], l_eqValue N⟩ := by
  have hE : EnvOK Tryd.prog (E_l_eqValue N) := ⟨tabP_ok, (fun _ _ h => by cases h), (fun _ _ h => by cases h)⟩
  have h := fn_sound hE (by kernel_rfl) (N := N) (A := A_l_eqValue) (pl := [⟨0, .val, (.pair (.int .i64) (.pair (.int .i64) (.pair .str .unit)))⟩, ⟨1, .val, (.pair (.int .i64) (.pair (.int .i64) (.pair .str .unit)))⟩]) (fid := 73) (fn := Tryd.f73) (c := ((Tryd.f73.body).getD .skip)) ⟨Tryd.func73, by kernel_rfl, by kernel_rfl, by kernel_rfl, Nat.le_of_ble_eq_true (by kernel_rfl), by kernel_rfl, by kernel_rfl, Nat.le_of_ble_eq_true (by kernel_rfl), by kernel_rfl⟩
  have e : l_eqValue N = evalF (E_l_eqValue N) A_l_eqValue N [⟨0, .val, (.pair (.int .i64) (.pair (.int .i64) (.pair .str .unit)))⟩, ⟨1, .val, (.pair (.int .i64) (.pair (.int .i64) (.pair .str .unit)))⟩] ((Tryd.f73.body).getD .skip) := funext fun x => by kernel_rfl
  rw [e]
  exact h
noncomputable def E_l_eqValueS (N : Nat) : Cz := { tab := tabP, n := 27, V := Vp, ann := look [], fn := look [(73, (⟨[(.pair (.int .i64) (.pair (.int .i64) (.pair .str .unit))), (.pair (.int .i64) (.pair (.int .i64) (.pair .str .unit)))], [.bool], l_eqValue N⟩ : Fn))], fx := look [] }
def A_l_eqValueS : An := { join := look [], loop := look [(0, ⟨[⟨5, .val, (.int .i64)⟩], [], [4, 5, 11, 12, 13, 14, 15, 16, 17, 18, 19, 20, 21, 22, 23, 24, 25, 26]⟩)], ret := [⟨4, .val, .bool⟩] }
theorem c_l_eqValueS (N : Nat) : Ctr Tryd.prog Vp 62 ⟨[(.sl .lend (.pair (.int .i64) (.pair (.int .i64) (.pair .str .unit)))), (.sl .lend (.pair (.int .i64) (.pair (.int .i64) (.pair .str .unit))))], [.bool], l_eqValueS N⟩ := by
  have hE : EnvOK Tryd.prog (E_l_eqValueS N) := ⟨tabP_ok, look_all (Q := fun t s => Ctr Tryd.prog Vp t s) _ (by
    intro p hp
    simp only [List.mem_cons, List.not_mem_nil, or_false] at hp
    rcases hp with rfl
    · exact c_l_eqValue N), (fun _ _ h => by cases h)⟩
  have h := fn_sound hE (by kernel_rfl) (N := N) (A := A_l_eqValueS) (pl := [⟨0, .val, (.sl .lend (.pair (.int .i64) (.pair (.int .i64) (.pair .str .unit))))⟩, ⟨1, .val, (.sl .lend (.pair (.int .i64) (.pair (.int .i64) (.pair .str .unit))))⟩]) (fid := 62) (fn := Tryd.f62) (c := ((Tryd.f62.body).getD .skip)) ⟨Tryd.func62, by kernel_rfl, by kernel_rfl, by kernel_rfl, Nat.le_of_ble_eq_true (by kernel_rfl), by kernel_rfl, by kernel_rfl, Nat.le_of_ble_eq_true (by kernel_rfl), by kernel_rfl⟩
  have e : l_eqValueS N = evalF (E_l_eqValueS N) A_l_eqValueS N [⟨0, .val, (.sl .lend (.pair (.int .i64) (.pair (.int .i64) (.pair .str .unit))))⟩, ⟨1, .val, (.sl .lend (.pair (.int .i64) (.pair (.int .i64) (.pair .str .unit))))⟩] ((Tryd.f62.body).getD .skip) := funext fun x => by kernel_rfl
  rw [e]
  exact h
noncomputable def E_l_eqCell (N : Nat) : Cz := { tab := tabP, n := 37, V := Vp, ann := look [], fn := look [(61, (⟨[(.sl .lend .str), (.sl .lend .str)], [.bool], l_eqStringS N⟩ : Fn)), (62, (⟨[(.sl .lend (.pair (.int .i64) (.pair (.int .i64) (.pair .str .unit)))), (.sl .lend (.pair (.int .i64) (.pair (.int .i64) (.pair .str .unit))))], [.bool], l_eqValueS N⟩ : Fn))], fx := look [] }
def A_l_eqCell : An := { join := look [], loop := look [], ret := [⟨4, .val, .bool⟩] }
theorem c_l_eqCell (N : Nat) : Ctr Tryd.prog Vp 36 ⟨[(.pair (.int .i64) (.pair .str (.pair (.int .i64) (.pair (.int .i64) (.pair (.sl .lend .str) (.pair (.sl .lend (.pair (.int .i64) (.pair (.int .i64) (.pair .str .unit)))) .unit)))))), (.pair (.int .i64) (.pair .str (.pair (.int .i64) (.pair (.int .i64) (.pair (.sl .lend .str) (.pair (.sl .lend (.pair (.int .i64) (.pair (.int .i64) (.pair .str .unit)))) .unit))))))], [.bool], l_eqCell N⟩ := by
  have hE : EnvOK Tryd.prog (E_l_eqCell N) := ⟨tabP_ok, look_all (Q := fun t s => Ctr Tryd.prog Vp t s) _ (by
    intro p hp
    simp only [List.mem_cons, List.not_mem_nil, or_false] at hp
    rcases hp with rfl | rfl
    · exact c_l_eqStringS N
    · exact c_l_eqValueS N), (fun _ _ h => by cases h)⟩
  have h := fn_sound hE (by kernel_rfl) (N := N) (A := A_l_eqCell) (pl := [⟨0, .val, (.pair (.int .i64) (.pair .str (.pair (.int .i64) (.pair (.int .i64) (.pair (.sl .lend .str) (.pair (.sl .lend (.pair (.int .i64) (.pair (.int .i64) (.pair .str .unit)))) .unit))))))⟩, ⟨1, .val, (.pair (.int .i64) (.pair .str (.pair (.int .i64) (.pair (.int .i64) (.pair (.sl .lend .str) (.pair (.sl .lend (.pair (.int .i64) (.pair (.int .i64) (.pair .str .unit)))) .unit))))))⟩]) (fid := 36) (fn := Tryd.f36) (c := ((Tryd.f36.body).getD .skip)) ⟨Tryd.func36, by kernel_rfl, by kernel_rfl, by kernel_rfl, Nat.le_of_ble_eq_true (by kernel_rfl), by kernel_rfl, by kernel_rfl, Nat.le_of_ble_eq_true (by kernel_rfl), by kernel_rfl⟩
  have e : l_eqCell N = evalF (E_l_eqCell N) A_l_eqCell N [⟨0, .val, (.pair (.int .i64) (.pair .str (.pair (.int .i64) (.pair (.int .i64) (.pair (.sl .lend .str) (.pair (.sl .lend (.pair (.int .i64) (.pair (.int .i64) (.pair .str .unit)))) .unit))))))⟩, ⟨1, .val, (.pair (.int .i64) (.pair .str (.pair (.int .i64) (.pair (.int .i64) (.pair (.sl .lend .str) (.pair (.sl .lend (.pair (.int .i64) (.pair (.int .i64) (.pair .str .unit)))) .unit))))))⟩] ((Tryd.f36.body).getD .skip) := funext fun x => by kernel_rfl
  rw [e]
  exact h
noncomputable def E_l_eqCellS (N : Nat) : Cz := { tab := tabP, n := 27, V := Vp, ann := look [], fn := look [(36, (⟨[(.pair (.int .i64) (.pair .str (.pair (.int .i64) (.pair (.int .i64) (.pair (.sl .lend .str) (.pair (.sl .lend (.pair (.int .i64) (.pair (.int .i64) (.pair .str .unit)))) .unit)))))), (.pair (.int .i64) (.pair .str (.pair (.int .i64) (.pair (.int .i64) (.pair (.sl .lend .str) (.pair (.sl .lend (.pair (.int .i64) (.pair (.int .i64) (.pair .str .unit)))) .unit))))))], [.bool], l_eqCell N⟩ : Fn))], fx := look [] }
def A_l_eqCellS : An := { join := look [], loop := look [(0, ⟨[⟨5, .val, (.int .i64)⟩], [], [4, 5, 11, 12, 13, 14, 15, 16, 17, 18, 19, 20, 21, 22, 23, 24, 25, 26]⟩)], ret := [⟨4, .val, .bool⟩] }
theorem c_l_eqCellS (N : Nat) : Ctr Tryd.prog Vp 17 ⟨[(.sl .lend (.pair (.int .i64) (.pair .str (.pair (.int .i64) (.pair (.int .i64) (.pair (.sl .lend .str) (.pair (.sl .lend (.pair (.int .i64) (.pair (.int .i64) (.pair .str .unit)))) .unit))))))), (.sl .lend (.pair (.int .i64) (.pair .str (.pair (.int .i64) (.pair (.int .i64) (.pair (.sl .lend .str) (.pair (.sl .lend (.pair (.int .i64) (.pair (.int .i64) (.pair .str .unit)))) .unit)))))))], [.bool], l_eqCellS N⟩ := by
  have hE : EnvOK Tryd.prog (E_l_eqCellS N) := ⟨tabP_ok, look_all (Q := fun t s => Ctr Tryd.prog Vp t s) _ (by
    intro p hp
    simp only [List.mem_cons, List.not_mem_nil, or_false] at hp
    rcases hp with rfl
    · exact c_l_eqCell N), (fun _ _ h => by cases h)⟩
  have h := fn_sound hE (by kernel_rfl) (N := N) (A := A_l_eqCellS) (pl := [⟨0, .val, (.sl .lend (.pair (.int .i64) (.pair .str (.pair (.int .i64) (.pair (.int .i64) (.pair (.sl .lend .str) (.pair (.sl .lend (.pair (.int .i64) (.pair (.int .i64) (.pair .str .unit)))) .unit)))))))⟩, ⟨1, .val, (.sl .lend (.pair (.int .i64) (.pair .str (.pair (.int .i64) (.pair (.int .i64) (.pair (.sl .lend .str) (.pair (.sl .lend (.pair (.int .i64) (.pair (.int .i64) (.pair .str .unit)))) .unit)))))))⟩]) (fid := 17) (fn := Tryd.f17) (c := ((Tryd.f17.body).getD .skip)) ⟨Tryd.func17, by kernel_rfl, by kernel_rfl, by kernel_rfl, Nat.le_of_ble_eq_true (by kernel_rfl), by kernel_rfl, by kernel_rfl, Nat.le_of_ble_eq_true (by kernel_rfl), by kernel_rfl⟩
  have e : l_eqCellS N = evalF (E_l_eqCellS N) A_l_eqCellS N [⟨0, .val, (.sl .lend (.pair (.int .i64) (.pair .str (.pair (.int .i64) (.pair (.int .i64) (.pair (.sl .lend .str) (.pair (.sl .lend (.pair (.int .i64) (.pair (.int .i64) (.pair .str .unit)))) .unit)))))))⟩, ⟨1, .val, (.sl .lend (.pair (.int .i64) (.pair .str (.pair (.int .i64) (.pair (.int .i64) (.pair (.sl .lend .str) (.pair (.sl .lend (.pair (.int .i64) (.pair (.int .i64) (.pair .str .unit)))) .unit)))))))⟩] ((Tryd.f17.body).getD .skip) := funext fun x => by kernel_rfl
  rw [e]
  exact h
noncomputable def E_l_FnExactWeight (N : Nat) : Cz := { tab := tabP, n := 38, V := Vp, ann := look [], fn := look [(9, (⟨[(.sl .lend (.pair (.int .i64) (.pair .str (.pair (.int .i64) (.pair (.int .i64) (.pair (.sl .lend .str) (.pair (.sl .lend (.pair (.int .i64) (.pair (.int .i64) (.pair .str .unit)))) .unit))))))), (.pair (.int .i64) (.pair (.int .i64) (.pair .str .unit)))], [(.int .i64)], i_Weight N⟩ : Fn)), (10, (⟨[(.sl .lend (.pair (.int .i64) (.pair .str (.pair (.int .i64) (.pair (.int .i64) (.pair (.sl .lend .str) (.pair (.sl .lend (.pair (.int .i64) (.pair (.int .i64) (.pair .str .unit)))) .unit))))))), (.pair (.int .i64) (.pair (.int .i64) (.pair .str .unit)))], [(.int .i64)], s_Weight N⟩ : Fn)), (13, (⟨[(.sl .lend (.pair (.int .i64) (.pair .str (.pair (.int .i64) (.pair (.int .i64) (.pair (.sl .lend .str) (.pair (.sl .lend (.pair (.int .i64) (.pair (.int .i64) (.pair .str .unit)))) .unit))))))), (.int .i64)], [(.int .i64)], l_szCellS N⟩ : Fn)), (14, (⟨[(.pair (.int .i64) (.pair (.int .i64) (.pair .str .unit))), (.int .i64)], [(.int .i64)], l_szValue N⟩ : Fn)), (15, (⟨[(.sl .lend (.pair (.int .i64) (.pair .str (.pair (.int .i64) (.pair (.int .i64) (.pair (.sl .lend .str) (.pair (.sl .lend (.pair (.int .i64) (.pair (.int .i64) (.pair .str .unit)))) .unit)))))))], [(.sl .own (.pair (.int .i64) (.pair .str (.pair (.int .i64) (.pair (.int .i64) (.pair (.sl .own .str) (.pair (.sl .own (.pair (.int .i64) (.pair (.int .i64) (.pair .str .unit)))) .unit)))))))], l_toCellS N⟩ : Fn)), (16, (⟨[(.pair (.int .i64) (.pair (.int .i64) (.pair .str .unit)))], [(.pair (.int .i64) (.pair (.int .i64) (.pair .str .unit)))], l_toValue N⟩ : Fn)), (17, (⟨[(.sl .lend (.pair (.int .i64) (.pair .str (.pair (.int .i64) (.pair (.int .i64) (.pair (.sl .lend .str) (.pair (.sl .lend (.pair (.int .i64) (.pair (.int .i64) (.pair .str .unit)))) .unit))))))), (.sl .lend (.pair (.int .i64) (.pair .str (.pair (.int .i64) (.pair (.int .i64) (.pair (.sl .lend .str) (.pair (.sl .lend (.pair (.int .i64) (.pair (.int .i64) (.pair .str .unit)))) .unit)))))))], [.bool], l_eqCellS N⟩ : Fn))], fx := look [] }
def A_l_FnExactWeight : An := { join := look [], loop := look [], ret := [⟨4, .val, .bool⟩] }
theorem c_l_FnExactWeight (N : Nat) : Ctr Tryd.prog Vp 4 ⟨[(.sl .lend (.pair (.int .i64) (.pair .str (.pair (.int .i64) (.pair (.int .i64) (.pair (.sl .lend .str) (.pair (.sl .lend (.pair (.int .i64) (.pair (.int .i64) (.pair .str .unit)))) .unit))))))), (.pair (.int .i64) (.pair (.int .i64) (.pair .str .unit)))], [.bool], l_FnExactWeight N⟩ := by
  have hE : EnvOK Tryd.prog (E_l_FnExactWeight N) := ⟨tabP_ok, look_all (Q := fun t s => Ctr Tryd.prog Vp t s) _ (by
    intro p hp
    simp only [List.mem_cons, List.not_mem_nil, or_false] at hp
    rcases hp with rfl | rfl | rfl | rfl | rfl | rfl | rfl
    · exact c_i_Weight N
    · exact c_s_Weight N
    · exact c_l_szCellS N
    · exact c_l_szValue N
    · exact c_l_toCellS N
    · exact c_l_toValue N
    · exact c_l_eqCellS N), (fun _ _ h => by cases h)⟩
  have h := fn_sound hE (by kernel_rfl) (N := N) (A := A_l_FnExactWeight) (pl := [⟨0, .val, (.sl .lend (.pair (.int .i64) (.pair .str (.pair (.int .i64) (.pair (.int .i64) (.pair (.sl .lend .str) (.pair (.sl .lend (.pair (.int .i64) (.pair (.int .i64) (.pair .str .unit)))) .unit)))))))⟩, ⟨1, .val, (.pair (.int .i64) (.pair (.int .i64) (.pair .str .unit)))⟩]) (fid := 4) (fn := Tryd.f4) (c := ((Tryd.f4.body).getD .skip)) ⟨Tryd.func4, by kernel_rfl, by kernel_rfl, by kernel_rfl, Nat.le_of_ble_eq_true (by kernel_rfl), by kernel_rfl, by kernel_rfl, Nat.le_of_ble_eq_true (by kernel_rfl), by kernel_rfl⟩
  have e : l_FnExactWeight N = evalF (E_l_FnExactWeight N) A_l_FnExactWeight N [⟨0, .val, (.sl .lend (.pair (.int .i64) (.pair .str (.pair (.int .i64) (.pair (.int .i64) (.pair (.sl .lend .str) (.pair (.sl .lend (.pair (.int .i64) (.pair (.int .i64) (.pair .str .unit)))) .unit)))))))⟩, ⟨1, .val, (.pair (.int .i64) (.pair (.int .i64) (.pair .str .unit)))⟩] ((Tryd.f4.body).getD .skip) := funext fun x => by kernel_rfl
  rw [e]
  exact h
noncomputable def E_l_big (N : Nat) : Cz := { tab := tabP, n := 6, V := Vp, ann := look [], fn := look [], fx := look [] }
def A_l_big : An := { join := look [], loop := look [], ret := [⟨2, .val, .bool⟩] }
theorem c_l_big (N : Nat) : Ctr Tryd.prog Vp 7 ⟨[(.sl .lend (.int .u8))], [.bool], l_big N⟩ := by
  have hE : EnvOK Tryd.prog (E_l_big N) := ⟨tabP_ok, (fun _ _ h => by cases h), (fun _ _ h => by cases h)⟩
  have h := fn_sound hE (by kernel_rfl) (N := N) (A := A_l_big) (pl := [⟨0, .val, (.sl .lend (.int .u8))⟩]) (fid := 7) (fn := Tryd.f7) (c := ((Tryd.f7.body).getD .skip)) ⟨Tryd.func7, by kernel_rfl, by kernel_rfl, by kernel_rfl, Nat.le_of_ble_eq_true (by kernel_rfl), by kernel_rfl, by kernel_rfl, Nat.le_of_ble_eq_true (by kernel_rfl), by kernel_rfl⟩
  have e : l_big N = evalF (E_l_big N) A_l_big N [⟨0, .val, (.sl .lend (.int .u8))⟩] ((Tryd.f7.body).getD .skip) := funext fun x => by kernel_rfl
  rw [e]
  exact h
noncomputable def E_s_l1New (N : Nat) : Cz := { tab := tabP, n := 32, V := Vp, ann := look [], fn := look [], fx := look [] }
def A_s_l1New : An := { join := look [], loop := look [(0, ⟨[⟨3, .val, (.int .i64)⟩, ⟨4, .val, (.int .i64)⟩], [⟨3, .val, (.int .i64)⟩], [3, 4, 8, 9, 10, 11, 12, 13, 14, 15, 16, 17, 18, 19, 20, 21, 22, 23, 24, 25, 26, 27]⟩)], ret := [⟨2, .box false, (.pair (.sl .keep (.int .u8)) (.pair (.int .i64) (.pair (.int .i64) .unit)))⟩] }
theorem c_s_l1New (N : Nat) : CtrX Tryd.prog Vp 21 ⟨[.no], [(.sl .keep (.int .u8))], [.ptr], [(.pair (.sl .keep (.int .u8)) (.pair (.int .i64) (.pair (.int .i64) .unit)))], s_l1New N⟩ := by
  have hE : EnvOK Tryd.prog (E_s_l1New N) := ⟨tabP_ok, (fun _ _ h => by cases h), (fun _ _ h => by cases h)⟩
  have h := fn_soundX hE (by kernel_rfl) (N := N) (A := A_s_l1New) (pl := [⟨0, .val, (.sl .keep (.int .u8))⟩]) (io := [.no]) (ks := [.ptr]) (fid := 21) (fn := Tryd.f21) (c := ((Tryd.f21.body).getD .skip)) ⟨Tryd.func21, by kernel_rfl, by kernel_rfl, by kernel_rfl, by kernel_rfl, by kernel_rfl, Nat.le_of_ble_eq_true (by kernel_rfl), by kernel_rfl⟩
  have e : s_l1New N = evalF (E_s_l1New N) A_s_l1New N [⟨0, .val, (.sl .keep (.int .u8))⟩] ((Tryd.f21.body).getD .skip) := funext fun x => by kernel_rfl
  rw [e]
  exact h
noncomputable def E_s_l1Byte (N : Nat) : Cz := { tab := tabP, n := 58, V := Vp, ann := look [], fn := look [], fx := look [] }
def A_s_l1Byte : An := { join := look [(34, ([⟨0, .box true, (.pair (.sl .keep (.int .u8)) (.pair (.int .i64) (.pair (.int .i64) .unit)))⟩, ⟨3, .val, (.int .i64)⟩], [3, 35, 36, 37, 38, 39, 40, 41, 42, 43, 44, 45, 46, 47, 48, 49, 50, 51, 52, 53, 54, 55, 56]))], loop := look [], ret := [⟨2, .val, (.int .i64)⟩, ⟨0, .box true, (.pair (.sl .keep (.int .u8)) (.pair (.int .i64) (.pair (.int .i64) .unit)))⟩] }
theorem c_s_l1Byte (N : Nat) : CtrX Tryd.prog Vp 45 ⟨[.io false], [(.pair (.sl .keep (.int .u8)) (.pair (.int .i64) (.pair (.int .i64) .unit)))], [.val, .io], [(.int .i64), (.pair (.sl .keep (.int .u8)) (.pair (.int .i64) (.pair (.int .i64) .unit)))], s_l1Byte N⟩ := by
  have hE : EnvOK Tryd.prog (E_s_l1Byte N) := ⟨tabP_ok, (fun _ _ h => by cases h), (fun _ _ h => by cases h)⟩
  have h := fn_soundX hE (by kernel_rfl) (N := N) (A := A_s_l1Byte) (pl := [⟨0, .box true, (.pair (.sl .keep (.int .u8)) (.pair (.int .i64) (.pair (.int .i64) .unit)))⟩]) (io := [.io false]) (ks := [.val, .io]) (fid := 45) (fn := Tryd.f45) (c := ((Tryd.f45.body).getD .skip)) ⟨Tryd.func45, by kernel_rfl, by kernel_rfl, by kernel_rfl, by kernel_rfl, by kernel_rfl, Nat.le_of_ble_eq_true (by kernel_rfl), by kernel_rfl⟩
  have e : s_l1Byte N = evalF (E_s_l1Byte N) A_s_l1Byte N [⟨0, .box true, (.pair (.sl .keep (.int .u8)) (.pair (.int .i64) (.pair (.int .i64) .unit)))⟩] ((Tryd.f45.body).getD .skip) := funext fun x => by kernel_rfl
  rw [e]
  exact h
noncomputable def E_s_l1Below (N : Nat) : Cz := { tab := tabP, n := 37, V := Vp, ann := look [], fn := look [], fx := look [(45, (⟨[.io false], [(.pair (.sl .keep (.int .u8)) (.pair (.int .i64) (.pair (.int .i64) .unit)))], [.val, .io], [(.int .i64), (.pair (.sl .keep (.int .u8)) (.pair (.int .i64) (.pair (.int .i64) .unit)))], s_l1Byte N⟩ : Fx))] }
def A_s_l1Below : An := { join := look [], loop := look [], ret := [⟨4, .val, (.int .i64)⟩, ⟨0, .box true, (.pair (.sl .keep (.int .u8)) (.pair (.int .i64) (.pair (.int .i64) .unit)))⟩] }
theorem c_s_l1Below (N : Nat) : CtrX Tryd.prog Vp 25 ⟨[.io false, .no], [(.pair (.sl .keep (.int .u8)) (.pair (.int .i64) (.pair (.int .i64) .unit))), (.int .i64)], [.val, .io], [(.int .i64), (.pair (.sl .keep (.int .u8)) (.pair (.int .i64) (.pair (.int .i64) .unit)))], s_l1Below N⟩ := by
  have hE : EnvOK Tryd.prog (E_s_l1Below N) := ⟨tabP_ok, (fun _ _ h => by cases h), look_all (Q := fun t s => CtrX Tryd.prog Vp t s) _ (by
    intro p hp
    simp only [List.mem_cons, List.not_mem_nil, or_false] at hp
    rcases hp with rfl
    · exact c_s_l1Byte N)⟩
  have h := fn_soundX hE (by kernel_rfl) (N := N) (A := A_s_l1Below) (pl := [⟨0, .box true, (.pair (.sl .keep (.int .u8)) (.pair (.int .i64) (.pair (.int .i64) .unit)))⟩, ⟨1, .val, (.int .i64)⟩]) (io := [.io false, .no]) (ks := [.val, .io]) (fid := 25) (fn := Tryd.f25) (c := ((Tryd.f25.body).getD .skip)) ⟨Tryd.func25, by kernel_rfl, by kernel_rfl, by kernel_rfl, by kernel_rfl, by kernel_rfl, Nat.le_of_ble_eq_true (by kernel_rfl), by kernel_rfl⟩
  have e : s_l1Below N = evalF (E_s_l1Below N) A_s_l1Below N [⟨0, .box true, (.pair (.sl .keep (.int .u8)) (.pair (.int .i64) (.pair (.int .i64) .unit)))⟩, ⟨1, .val, (.int .i64)⟩] ((Tryd.f25.body).getD .skip) := funext fun x => by kernel_rfl
  rw [e]
  exact h
noncomputable def E_s_l1Once (N : Nat) : Cz := { tab := tabP, n := 9, V := Vp, ann := look [], fn := look [], fx := look [(25, (⟨[.io false, .no], [(.pair (.sl .keep (.int .u8)) (.pair (.int .i64) (.pair (.int .i64) .unit))), (.int .i64)], [.val, .io], [(.int .i64), (.pair (.sl .keep (.int .u8)) (.pair (.int .i64) (.pair (.int .i64) .unit)))], s_l1Below N⟩ : Fx))] }
def A_s_l1Once : An := { join := look [], loop := look [], ret := [⟨4, .val, .bool⟩, ⟨0, .box true, (.pair (.sl .keep (.int .u8)) (.pair (.int .i64) (.pair (.int .i64) .unit)))⟩] }
theorem c_s_l1Once (N : Nat) : CtrX Tryd.prog Vp 24 ⟨[.io false, .no], [(.pair (.sl .keep (.int .u8)) (.pair (.int .i64) (.pair (.int .i64) .unit))), (.int .i64)], [.val, .io], [.bool, (.pair (.sl .keep (.int .u8)) (.pair (.int .i64) (.pair (.int .i64) .unit)))], s_l1Once N⟩ := by
  have hE : EnvOK Tryd.prog (E_s_l1Once N) := ⟨tabP_ok, (fun _ _ h => by cases h), look_all (Q := fun t s => CtrX Tryd.prog Vp t s) _ (by
    intro p hp
    simp only [List.mem_cons, List.not_mem_nil, or_false] at hp
    rcases hp with rfl
    · exact c_s_l1Below N)⟩
  have h := fn_soundX hE (by kernel_rfl) (N := N) (A := A_s_l1Once) (pl := [⟨0, .box true, (.pair (.sl .keep (.int .u8)) (.pair (.int .i64) (.pair (.int .i64) .unit)))⟩, ⟨1, .val, (.int .i64)⟩]) (io := [.io false, .no]) (ks := [.val, .io]) (fid := 24) (fn := Tryd.f24) (c := ((Tryd.f24.body).getD .skip)) ⟨Tryd.func24, by kernel_rfl, by kernel_rfl, by kernel_rfl, by kernel_rfl, by kernel_rfl, Nat.le_of_ble_eq_true (by kernel_rfl), by kernel_rfl⟩
  have e : s_l1Once N = evalF (E_s_l1Once N) A_s_l1Once N [⟨0, .box true, (.pair (.sl .keep (.int .u8)) (.pair (.int .i64) (.pair (.int .i64) .unit)))⟩, ⟨1, .val, (.int .i64)⟩] ((Tryd.f24.body).getD .skip) := funext fun x => by kernel_rfl
  rw [e]
  exact h
noncomputable def E_s_l1PickInt (N : Nat) : Cz := { tab := tabP, n := 12, V := Vp, ann := look [], fn := look [], fx := look [(25, (⟨[.io false, .no], [(.pair (.sl .keep (.int .u8)) (.pair (.int .i64) (.pair (.int .i64) .unit))), (.int .i64)], [.val, .io], [(.int .i64), (.pair (.sl .keep (.int .u8)) (.pair (.int .i64) (.pair (.int .i64) .unit)))], s_l1Below N⟩ : Fx))] }
def A_s_l1PickInt : An := { join := look [], loop := look [], ret := [⟨4, .val, (.int .i64)⟩, ⟨0, .box true, (.pair (.sl .keep (.int .u8)) (.pair (.int .i64) (.pair (.int .i64) .unit)))⟩] }
theorem c_s_l1PickInt (N : Nat) : CtrX Tryd.prog Vp 43 ⟨[.io false, .no], [(.pair (.sl .keep (.int .u8)) (.pair (.int .i64) (.pair (.int .i64) .unit))), (.sl .lend (.int .i64))], [.val, .io], [(.int .i64), (.pair (.sl .keep (.int .u8)) (.pair (.int .i64) (.pair (.int .i64) .unit)))], s_l1PickInt N⟩ := by
  have hE : EnvOK Tryd.prog (E_s_l1PickInt N) := ⟨tabP_ok, (fun _ _ h => by cases h), look_all (Q := fun t s => CtrX Tryd.prog Vp t s) _ (by
    intro p hp
    simp only [List.mem_cons, List.not_mem_nil, or_false] at hp
    rcases hp with rfl
    · exact c_s_l1Below N)⟩
  have h := fn_soundX hE (by kernel_rfl) (N := N) (A := A_s_l1PickInt) (pl := [⟨0, .box true, (.pair (.sl .keep (.int .u8)) (.pair (.int .i64) (.pair (.int .i64) .unit)))⟩, ⟨1, .val, (.sl .lend (.int .i64))⟩]) (io := [.io false, .no]) (ks := [.val, .io]) (fid := 43) (fn := Tryd.f43) (c := ((Tryd.f43.body).getD .skip)) ⟨Tryd.func43, by kernel_rfl, by kernel_rfl, by kernel_rfl, by kernel_rfl, by kernel_rfl, Nat.le_of_ble_eq_true (by kernel_rfl), by kernel_rfl⟩
  have e : s_l1PickInt N = evalF (E_s_l1PickInt N) A_s_l1PickInt N [⟨0, .box true, (.pair (.sl .keep (.int .u8)) (.pair (.int .i64) (.pair (.int .i64) .unit)))⟩, ⟨1, .val, (.sl .lend (.int .i64))⟩] ((Tryd.f43.body).getD .skip) := funext fun x => by kernel_rfl
  rw [e]
  exact h
noncomputable def E_s_l1Pick (N : Nat) : Cz := { tab := tabP, n := 12, V := Vp, ann := look [], fn := look [], fx := look [(25, (⟨[.io false, .no], [(.pair (.sl .keep (.int .u8)) (.pair (.int .i64) (.pair (.int .i64) .unit))), (.int .i64)], [.val, .io], [(.int .i64), (.pair (.sl .keep (.int .u8)) (.pair (.int .i64) (.pair (.int .i64) .unit)))], s_l1Below N⟩ : Fx))] }
def A_s_l1Pick : An := { join := look [], loop := look [], ret := [⟨4, .val, .str⟩, ⟨0, .box true, (.pair (.sl .keep (.int .u8)) (.pair (.int .i64) (.pair (.int .i64) .unit)))⟩] }
theorem c_s_l1Pick (N : Nat) : CtrX Tryd.prog Vp 44 ⟨[.io false, .no], [(.pair (.sl .keep (.int .u8)) (.pair (.int .i64) (.pair (.int .i64) .unit))), (.sl .lend .str)], [.val, .io], [.str, (.pair (.sl .keep (.int .u8)) (.pair (.int .i64) (.pair (.int .i64) .unit)))], s_l1Pick N⟩ := by
  have hE : EnvOK Tryd.prog (E_s_l1Pick N) := ⟨tabP_ok, (fun _ _ h => by cases h), look_all (Q := fun t s => CtrX Tryd.prog Vp t s) _ (by
    intro p hp
    simp only [List.mem_cons, List.not_mem_nil, or_false] at hp
    rcases hp with rfl
    · exact c_s_l1Below N)⟩
  have h := fn_soundX hE (by kernel_rfl) (N := N) (A := A_s_l1Pick) (pl := [⟨0, .box true, (.pair (.sl .keep (.int .u8)) (.pair (.int .i64) (.pair (.int .i64) .unit)))⟩, ⟨1, .val, (.sl .lend .str)⟩]) (io := [.io false, .no]) (ks := [.val, .io]) (fid := 44) (fn := Tryd.f44) (c := ((Tryd.f44.body).getD .skip)) ⟨Tryd.func44, by kernel_rfl, by kernel_rfl, by kernel_rfl, by kernel_rfl, by kernel_rfl, Nat.le_of_ble_eq_true (by kernel_rfl), by kernel_rfl⟩
  have e : s_l1Pick N = evalF (E_s_l1Pick N) A_s_l1Pick N [⟨0, .box true, (.pair (.sl .keep (.int .u8)) (.pair (.int .i64) (.pair (.int .i64) .unit)))⟩, ⟨1, .val, (.sl .lend .str)⟩] ((Tryd.f44.body).getD .skip) := funext fun x => by kernel_rfl
  rw [e]
  exact h
noncomputable def E_s_l6Val (N : Nat) : Cz := { tab := tabP, n := 55, V := Vp, ann := look [(40, (.int .i64)), (52, .str)], fn := look [], fx := look [(24, (⟨[.io false, .no], [(.pair (.sl .keep (.int .u8)) (.pair (.int .i64) (.pair (.int .i64) .unit))), (.int .i64)], [.val, .io], [.bool, (.pair (.sl .keep (.int .u8)) (.pair (.int .i64) (.pair (.int .i64) .unit)))], s_l1Once N⟩ : Fx)), (25, (⟨[.io false, .no], [(.pair (.sl .keep (.int .u8)) (.pair (.int .i64) (.pair (.int .i64) .unit))), (.int .i64)], [.val, .io], [(.int .i64), (.pair (.sl .keep (.int .u8)) (.pair (.int .i64) (.pair (.int .i64) .unit)))], s_l1Below N⟩ : Fx)), (43, (⟨[.io false, .no], [(.pair (.sl .keep (.int .u8)) (.pair (.int .i64) (.pair (.int .i64) .unit))), (.sl .lend (.int .i64))], [.val, .io], [(.int .i64), (.pair (.sl .keep (.int .u8)) (.pair (.int .i64) (.pair (.int .i64) .unit)))], s_l1PickInt N⟩ : Fx)), (44, (⟨[.io false, .no], [(.pair (.sl .keep (.int .u8)) (.pair (.int .i64) (.pair (.int .i64) .unit))), (.sl .lend .str)], [.val, .io], [.str, (.pair (.sl .keep (.int .u8)) (.pair (.int .i64) (.pair (.int .i64) .unit)))], s_l1Pick N⟩ : Fx))] }
def A_s_l6Val : An := { join := look [(36, ([⟨0, .box true, (.pair (.sl .keep (.int .u8)) (.pair (.int .i64) (.pair (.int .i64) .unit)))⟩, ⟨4, .box false, (.pair (.int .i64) (.pair (.int .i64) (.pair .str .unit)))⟩, ⟨36, .val, .bool⟩], [36, 38]))], loop := look [], ret := [⟨4, .box false, (.pair (.int .i64) (.pair (.int .i64) (.pair .str .unit)))⟩, ⟨0, .box true, (.pair (.sl .keep (.int .u8)) (.pair (.int .i64) (.pair (.int .i64) .unit)))⟩] }
theorem c_s_l6Val (N : Nat) : CtrX Tryd.prog Vp 42 ⟨[.io false, .no], [(.pair (.sl .keep (.int .u8)) (.pair (.int .i64) (.pair (.int .i64) .unit))), (.sl .lend (.pair (.int .i64) (.pair .str (.pair (.int .i64) (.pair (.int .i64) (.pair (.sl .lend .str) (.pair (.sl .lend (.pair (.int .i64) (.pair (.int .i64) (.pair .str .unit)))) .unit)))))))], [.val, .io], [(.pair (.int .i64) (.pair (.int .i64) (.pair .str .unit))), (.pair (.sl .keep (.int .u8)) (.pair (.int .i64) (.pair (.int .i64) .unit)))], s_l6Val N⟩ := by
  have hE : EnvOK Tryd.prog (E_s_l6Val N) := ⟨tabP_ok, (fun _ _ h => by cases h), look_all (Q := fun t s => CtrX Tryd.prog Vp t s) _ (by
    intro p hp
    simp only [List.mem_cons, List.not_mem_nil, or_false] at hp
    rcases hp with rfl | rfl | rfl | rfl
    · exact c_s_l1Once N
    · exact c_s_l1Below N
    · exact c_s_l1PickInt N
    · exact c_s_l1Pick N)⟩
  have h := fn_soundX hE (by kernel_rfl) (N := N) (A := A_s_l6Val) (pl := [⟨0, .box true, (.pair (.sl .keep (.int .u8)) (.pair (.int .i64) (.pair (.int .i64) .unit)))⟩, ⟨1, .val, (.sl .lend (.pair (.int .i64) (.pair .str (.pair (.int .i64) (.pair (.int .i64) (.pair (.sl .lend .str) (.pair (.sl .lend (.pair (.int .i64) (.pair (.int .i64) (.pair .str .unit)))) .unit)))))))⟩]) (io := [.io false, .no]) (ks := [.val, .io]) (fid := 42) (fn := Tryd.f42) (c := ((Tryd.f42.body).getD .skip)) ⟨Tryd.func42, by kernel_rfl, by kernel_rfl, by kernel_rfl, by kernel_rfl, by kernel_rfl, Nat.le_of_ble_eq_true (by kernel_rfl), by kernel_rfl⟩
  have e : s_l6Val N = evalF (E_s_l6Val N) A_s_l6Val N [⟨0, .box true, (.pair (.sl .keep (.int .u8)) (.pair (.int .i64) (.pair (.int .i64) .unit)))⟩, ⟨1, .val, (.sl .lend (.pair (.int .i64) (.pair .str (.pair (.int .i64) (.pair (.int .i64) (.pair (.sl .lend .str) (.pair (.sl .lend (.pair (.int .i64) (.pair (.int .i64) (.pair .str .unit)))) .unit)))))))⟩] ((Tryd.f42.body).getD .skip) := funext fun x => by kernel_rfl
  rw [e]
  exact h
noncomputable def E_s_l6AnyVal (N : Nat) : Cz := { tab := tabP, n := 27, V := Vp, ann := look [(23, (.int .i64))], fn := look [], fx := look [(24, (⟨[.io false, .no], [(.pair (.sl .keep (.int .u8)) (.pair (.int .i64) (.pair (.int .i64) .unit))), (.int .i64)], [.val, .io], [.bool, (.pair (.sl .keep (.int .u8)) (.pair (.int .i64) (.pair (.int .i64) .unit)))], s_l1Once N⟩ : Fx)), (25, (⟨[.io false, .no], [(.pair (.sl .keep (.int .u8)) (.pair (.int .i64) (.pair (.int .i64) .unit))), (.int .i64)], [.val, .io], [(.int .i64), (.pair (.sl .keep (.int .u8)) (.pair (.int .i64) (.pair (.int .i64) .unit)))], s_l1Below N⟩ : Fx)), (42, (⟨[.io false, .no], [(.pair (.sl .keep (.int .u8)) (.pair (.int .i64) (.pair (.int .i64) .unit))), (.sl .lend (.pair (.int .i64) (.pair .str (.pair (.int .i64) (.pair (.int .i64) (.pair (.sl .lend .str) (.pair (.sl .lend (.pair (.int .i64) (.pair (.int .i64) (.pair .str .unit)))) .unit)))))))], [.val, .io], [(.pair (.int .i64) (.pair (.int .i64) (.pair .str .unit))), (.pair (.sl .keep (.int .u8)) (.pair (.int .i64) (.pair (.int .i64) .unit)))], s_l6Val N⟩ : Fx)), (43, (⟨[.io false, .no], [(.pair (.sl .keep (.int .u8)) (.pair (.int .i64) (.pair (.int .i64) .unit))), (.sl .lend (.int .i64))], [.val, .io], [(.int .i64), (.pair (.sl .keep (.int .u8)) (.pair (.int .i64) (.pair (.int .i64) .unit)))], s_l1PickInt N⟩ : Fx))] }
def A_s_l6AnyVal : An := { join := look [(20, ([⟨0, .box true, (.pair (.sl .keep (.int .u8)) (.pair (.int .i64) (.pair (.int .i64) .unit)))⟩, ⟨4, .box false, (.pair (.int .i64) (.pair (.int .i64) (.pair .str .unit)))⟩, ⟨5, .box false, (.pair (.int .i64) (.pair (.int .i64) (.pair .str .unit)))⟩], [13, 22, 23, 24, 25])), (14, ([⟨0, .box true, (.pair (.sl .keep (.int .u8)) (.pair (.int .i64) (.pair (.int .i64) .unit)))⟩, ⟨4, .box false, (.pair (.int .i64) (.pair (.int .i64) (.pair .str .unit)))⟩, ⟨5, .box false, (.pair (.int .i64) (.pair (.int .i64) (.pair .str .unit)))⟩], [13, 16, 17, 18, 19, 20, 21, 22, 23, 24, 25])), (10, ([⟨0, .box true, (.pair (.sl .keep (.int .u8)) (.pair (.int .i64) (.pair (.int .i64) .unit)))⟩, ⟨4, .box false, (.pair (.int .i64) (.pair (.int .i64) (.pair .str .unit)))⟩, ⟨5, .box false, (.pair (.int .i64) (.pair (.int .i64) (.pair .str .unit)))⟩], [11, 12, 13, 14, 15, 16, 17, 18, 19, 20, 21, 22, 23, 24, 25]))], loop := look [], ret := [⟨4, .box false, (.pair (.int .i64) (.pair (.int .i64) (.pair .str .unit)))⟩, ⟨0, .box true, (.pair (.sl .keep (.int .u8)) (.pair (.int .i64) (.pair (.int .i64) .unit)))⟩] }
theorem c_s_l6AnyVal (N : Nat) : CtrX Tryd.prog Vp 26 ⟨[.io false, .no], [(.pair (.sl .keep (.int .u8)) (.pair (.int .i64) (.pair (.int .i64) .unit))), (.sl .lend (.pair (.int .i64) (.pair .str (.pair (.int .i64) (.pair (.int .i64) (.pair (.sl .lend .str) (.pair (.sl .lend (.pair (.int .i64) (.pair (.int .i64) (.pair .str .unit)))) .unit)))))))], [.val, .io], [(.pair (.int .i64) (.pair (.int .i64) (.pair .str .unit))), (.pair (.sl .keep (.int .u8)) (.pair (.int .i64) (.pair (.int .i64) .unit)))], s_l6AnyVal N⟩ := by
  have hE : EnvOK Tryd.prog (E_s_l6AnyVal N) := ⟨tabP_ok, (fun _ _ h => by cases h), look_all (Q := fun t s => CtrX Tryd.prog Vp t s) _ (by
    intro p hp
    simp only [List.mem_cons, List.not_mem_nil, or_false] at hp
    rcases hp with rfl | rfl | rfl | rfl
    · exact c_s_l1Once N
    · exact c_s_l1Below N
    · exact c_s_l6Val N
    · exact c_s_l1PickInt N)⟩
  have h := fn_soundX hE (by kernel_rfl) (N := N) (A := A_s_l6AnyVal) (pl := [⟨0, .box true, (.pair (.sl .keep (.int .u8)) (.pair (.int .i64) (.pair (.int .i64) .unit)))⟩, ⟨1, .val, (.sl .lend (.pair (.int .i64) (.pair .str (.pair (.int .i64) (.pair (.int .i64) (.pair (.sl .lend .str) (.pair (.sl .lend (.pair (.int .i64) (.pair (.int .i64) (.pair .str .unit)))) .unit)))))))⟩]) (io := [.io false, .no]) (ks := [.val, .io]) (fid := 26) (fn := Tryd.f26) (c := ((Tryd.f26.body).getD .skip)) ⟨Tryd.func26, by kernel_rfl, by kernel_rfl, by kernel_rfl, by kernel_rfl, by kernel_rfl, Nat.le_of_ble_eq_true (by kernel_rfl), by kernel_rfl⟩
  have e : s_l6AnyVal N = evalF (E_s_l6AnyVal N) A_s_l6AnyVal N [⟨0, .box true, (.pair (.sl .keep (.int .u8)) (.pair (.int .i64) (.pair (.int .i64) .unit)))⟩, ⟨1, .val, (.sl .lend (.pair (.int .i64) (.pair .str (.pair (.int .i64) (.pair (.int .i64) (.pair (.sl .lend .str) (.pair (.sl .lend (.pair (.int .i64) (.pair (.int .i64) (.pair .str .unit)))) .unit)))))))⟩] ((Tryd.f26.body).getD .skip) := funext fun x => by kernel_rfl
  rw [e]
  exact h
noncomputable def E_s_l6Heap (N : Nat) : Cz := { tab := tabP, n := 104, V := Vp, ann := look [(25, (.pair (.int .i64) (.pair (.int .i64) (.pair .str .unit)))), (27, (.pair (.int .i64) (.pair .str (.pair (.int .i64) (.pair (.int .i64) (.pair (.sl .own .str) (.pair (.sl .own (.pair (.int .i64) (.pair (.int .i64) (.pair .str .unit)))) .unit))))))), (28, (.pair (.int .i64) (.pair .str (.pair (.int .i64) (.pair (.int .i64) (.pair (.sl .own .str) (.pair (.sl .own (.pair (.int .i64) (.pair (.int .i64) (.pair .str .unit)))) .unit))))))), (35, (.pair (.int .i64) (.pair (.int .i64) (.pair .str .unit)))), (37, (.pair (.int .i64) (.pair .str (.pair (.int .i64) (.pair (.int .i64) (.pair (.sl .own .str) (.pair (.sl .own (.pair (.int .i64) (.pair (.int .i64) (.pair .str .unit)))) .unit))))))), (38, (.pair (.int .i64) (.pair .str (.pair (.int .i64) (.pair (.int .i64) (.pair (.sl .own .str) (.pair (.sl .own (.pair (.int .i64) (.pair (.int .i64) (.pair .str .unit)))) .unit))))))), (42, .str), (46, (.pair (.int .i64) (.pair (.int .i64) (.pair .str .unit)))), (48, (.pair (.int .i64) (.pair .str (.pair (.int .i64) (.pair (.int .i64) (.pair (.sl .own .str) (.pair (.sl .own (.pair (.int .i64) (.pair (.int .i64) (.pair .str .unit)))) .unit))))))), (49, (.pair (.int .i64) (.pair .str (.pair (.int .i64) (.pair (.int .i64) (.pair (.sl .own .str) (.pair (.sl .own (.pair (.int .i64) (.pair (.int .i64) (.pair .str .unit)))) .unit))))))), (66, .str), (90, (.pair (.int .i64) (.pair (.int .i64) (.pair .str .unit)))), (99, (.int .i64))], fn := look [], fx := look [(24, (⟨[.io false, .no], [(.pair (.sl .keep (.int .u8)) (.pair (.int .i64) (.pair (.int .i64) .unit))), (.int .i64)], [.val, .io], [.bool, (.pair (.sl .keep (.int .u8)) (.pair (.int .i64) (.pair (.int .i64) .unit)))], s_l1Once N⟩ : Fx)), (25, (⟨[.io false, .no], [(.pair (.sl .keep (.int .u8)) (.pair (.int .i64) (.pair (.int .i64) .unit))), (.int .i64)], [.val, .io], [(.int .i64), (.pair (.sl .keep (.int .u8)) (.pair (.int .i64) (.pair (.int .i64) .unit)))], s_l1Below N⟩ : Fx)), (26, (⟨[.io false, .no], [(.pair (.sl .keep (.int .u8)) (.pair (.int .i64) (.pair (.int .i64) .unit))), (.sl .lend (.pair (.int .i64) (.pair .str (.pair (.int .i64) (.pair (.int .i64) (.pair (.sl .lend .str) (.pair (.sl .lend (.pair (.int .i64) (.pair (.int .i64) (.pair .str .unit)))) .unit)))))))], [.val, .io], [(.pair (.int .i64) (.pair (.int .i64) (.pair .str .unit))), (.pair (.sl .keep (.int .u8)) (.pair (.int .i64) (.pair (.int .i64) .unit)))], s_l6AnyVal N⟩ : Fx)), (42, (⟨[.io false, .no], [(.pair (.sl .keep (.int .u8)) (.pair (.int .i64) (.pair (.int .i64) .unit))), (.sl .lend (.pair (.int .i64) (.pair .str (.pair (.int .i64) (.pair (.int .i64) (.pair (.sl .lend .str) (.pair (.sl .lend (.pair (.int .i64) (.pair (.int .i64) (.pair .str .unit)))) .unit)))))))], [.val, .io], [(.pair (.int .i64) (.pair (.int .i64) (.pair .str .unit))), (.pair (.sl .keep (.int .u8)) (.pair (.int .i64) (.pair (.int .i64) .unit)))], s_l6Val N⟩ : Fx)), (43, (⟨[.io false, .no], [(.pair (.sl .keep (.int .u8)) (.pair (.int .i64) (.pair (.int .i64) .unit))), (.sl .lend (.int .i64))], [.val, .io], [(.int .i64), (.pair (.sl .keep (.int .u8)) (.pair (.int .i64) (.pair (.int .i64) .unit)))], s_l1PickInt N⟩ : Fx)), (44, (⟨[.io false, .no], [(.pair (.sl .keep (.int .u8)) (.pair (.int .i64) (.pair (.int .i64) .unit))), (.sl .lend .str)], [.val, .io], [.str, (.pair (.sl .keep (.int .u8)) (.pair (.int .i64) (.pair (.int .i64) .unit)))], s_l1Pick N⟩ : Fx))] }
def A_s_l6Heap : An := { join := look [(39, ([⟨0, .box true, (.pair (.sl .keep (.int .u8)) (.pair (.int .i64) (.pair (.int .i64) .unit)))⟩, ⟨5, .own false, (.sl .own (.pair (.int .i64) (.pair .str (.pair (.int .i64) (.pair (.int .i64) (.pair (.sl .own .str) (.pair (.sl .own (.pair (.int .i64) (.pair (.int .i64) (.pair .str .unit)))) .unit)))))))⟩], [5, 18, 19, 20, 21, 22, 23, 24, 25, 26, 27, 28, 41, 42, 43, 44, 45, 46, 47, 48, 49])), (29, ([⟨0, .box true, (.pair (.sl .keep (.int .u8)) (.pair (.int .i64) (.pair (.int .i64) .unit)))⟩, ⟨5, .own false, (.sl .own (.pair (.int .i64) (.pair .str (.pair (.int .i64) (.pair (.int .i64) (.pair (.sl .own .str) (.pair (.sl .own (.pair (.int .i64) (.pair (.int .i64) (.pair .str .unit)))) .unit)))))))⟩], [5, 18, 19, 20, 21, 22, 23, 24, 25, 26, 27, 28, 31, 32, 33, 34, 35, 36, 37, 38, 39, 40, 41, 42, 43, 44, 45, 46, 47, 48, 49])), (94, ([⟨0, .box true, (.pair (.sl .keep (.int .u8)) (.pair (.int .i64) (.pair (.int .i64) .unit)))⟩, ⟨5, .own false, (.sl .own (.pair (.int .i64) (.pair .str (.pair (.int .i64) (.pair (.int .i64) (.pair (.sl .own .str) (.pair (.sl .own (.pair (.int .i64) (.pair (.int .i64) (.pair .str .unit)))) .unit)))))))⟩], [63, 64, 65, 66, 67, 68, 69, 96, 97, 98, 99, 100, 101, 102])), (78, ([⟨0, .box true, (.pair (.sl .keep (.int .u8)) (.pair (.int .i64) (.pair (.int .i64) .unit)))⟩, ⟨5, .own false, (.sl .own (.pair (.int .i64) (.pair .str (.pair (.int .i64) (.pair (.int .i64) (.pair (.sl .own .str) (.pair (.sl .own (.pair (.int .i64) (.pair (.int .i64) (.pair .str .unit)))) .unit)))))))⟩], [63, 64, 65, 66, 67, 68, 69, 80, 81, 82, 83, 84, 85, 86, 87, 88, 89, 90, 91, 92, 93, 94, 95, 96, 97, 98, 99, 100, 101, 102])), (70, ([⟨0, .box true, (.pair (.sl .keep (.int .u8)) (.pair (.int .i64) (.pair (.int .i64) .unit)))⟩, ⟨5, .own false, (.sl .own (.pair (.int .i64) (.pair .str (.pair (.int .i64) (.pair (.int .i64) (.pair (.sl .own .str) (.pair (.sl .own (.pair (.int .i64) (.pair (.int .i64) (.pair .str .unit)))) .unit)))))))⟩], [63, 64, 65, 66, 67, 68, 69, 72, 73, 74, 75, 76, 77, 78, 79, 80, 81, 82, 83, 84, 85, 86, 87, 88, 89, 90, 91, 92, 93, 94, 95, 96, 97, 98, 99, 100, 101, 102])), (56, ([⟨0, .box true, (.pair (.sl .keep (.int .u8)) (.pair (.int .i64) (.pair (.int .i64) .unit)))⟩, ⟨5, .own false, (.sl .own (.pair (.int .i64) (.pair .str (.pair (.int .i64) (.pair (.int .i64) (.pair (.sl .own .str) (.pair (.sl .own (.pair (.int .i64) (.pair (.int .i64) (.pair .str .unit)))) .unit)))))))⟩], [7, 57, 58, 59, 60, 61, 62, 63, 64, 65, 66, 67, 68, 69, 70, 71, 72, 73, 74, 75, 76, 77, 78, 79, 80, 81, 82, 83, 84, 85, 86, 87, 88, 89, 90, 91, 92, 93, 94, 95, 96, 97, 98, 99, 100, 101, 102]))], loop := look [(0, ⟨[⟨0, .box true, (.pair (.sl .keep (.int .u8)) (.pair (.int .i64) (.pair (.int .i64) .unit)))⟩, ⟨5, .own false, (.sl .own (.pair (.int .i64) (.pair .str (.pair (.int .i64) (.pair (.int .i64) (.pair (.sl .own .str) (.pair (.sl .own (.pair (.int .i64) (.pair (.int .i64) (.pair .str .unit)))) .unit)))))))⟩, ⟨6, .val, (.int .i64)⟩], [⟨0, .box true, (.pair (.sl .keep (.int .u8)) (.pair (.int .i64) (.pair (.int .i64) .unit)))⟩, ⟨5, .own false, (.sl .own (.pair (.int .i64) (.pair .str (.pair (.int .i64) (.pair (.int .i64) (.pair (.sl .own .str) (.pair (.sl .own (.pair (.int .i64) (.pair (.int .i64) (.pair .str .unit)))) .unit)))))))⟩], [5, 6, 12, 13, 14, 15, 16, 17, 18, 19, 20, 21, 22, 23, 24, 25, 26, 27, 28, 29, 30, 31, 32, 33, 34, 35, 36, 37, 38, 39, 40, 41, 42, 43, 44, 45, 46, 47, 48, 49]⟩)], ret := [⟨4, .own false, (.sl .own (.pair (.int .i64) (.pair .str (.pair (.int .i64) (.pair (.int .i64) (.pair (.sl .own .str) (.pair (.sl .own (.pair (.int .i64) (.pair (.int .i64) (.pair .str .unit)))) .unit)))))))⟩, ⟨0, .box true, (.pair (.sl .keep (.int .u8)) (.pair (.int .i64) (.pair (.int .i64) .unit)))⟩] }
theorem c_s_l6Heap (N : Nat) : CtrX Tryd.prog Vp 22 ⟨[.io false, .no], [(.pair (.sl .keep (.int .u8)) (.pair (.int .i64) (.pair (.int .i64) .unit))), (.int .i64)], [.val, .io], [(.sl .own (.pair (.int .i64) (.pair .str (.pair (.int .i64) (.pair (.int .i64) (.pair (.sl .own .str) (.pair (.sl .own (.pair (.int .i64) (.pair (.int .i64) (.pair .str .unit)))) .unit))))))), (.pair (.sl .keep (.int .u8)) (.pair (.int .i64) (.pair (.int .i64) .unit)))], s_l6Heap N⟩ := by
  have hE : EnvOK Tryd.prog (E_s_l6Heap N) := ⟨tabP_ok, (fun _ _ h => by cases h), look_all (Q := fun t s => CtrX Tryd.prog Vp t s) _ (by
    intro p hp
    simp only [List.mem_cons, List.not_mem_nil, or_false] at hp
    rcases hp with rfl | rfl | rfl | rfl | rfl | rfl
    · exact c_s_l1Once N
    · exact c_s_l1Below N
    · exact c_s_l6AnyVal N
    · exact c_s_l6Val N
    · exact c_s_l1PickInt N
    · exact c_s_l1Pick N)⟩
  have h := fn_soundX hE (by kernel_rfl) (N := N) (A := A_s_l6Heap) (pl := [⟨0, .box true, (.pair (.sl .keep (.int .u8)) (.pair (.int .i64) (.pair (.int .i64) .unit)))⟩, ⟨1, .val, (.int .i64)⟩]) (io := [.io false, .no]) (ks := [.val, .io]) (fid := 22) (fn := Tryd.f22) (c := ((Tryd.f22.body).getD .skip)) ⟨Tryd.func22, by kernel_rfl, by kernel_rfl, by kernel_rfl, by kernel_rfl, by kernel_rfl, Nat.le_of_ble_eq_true (by kernel_rfl), by kernel_rfl⟩
  have e : s_l6Heap N = evalF (E_s_l6Heap N) A_s_l6Heap N [⟨0, .box true, (.pair (.sl .keep (.int .u8)) (.pair (.int .i64) (.pair (.int .i64) .unit)))⟩, ⟨1, .val, (.int .i64)⟩] ((Tryd.f22.body).getD .skip) := funext fun x => by kernel_rfl
  rw [e]
  exact h
noncomputable def E_s_l1Size (N : Nat) : Cz := { tab := tabP, n := 15, V := Vp, ann := look [], fn := look [], fx := look [] }
def A_s_l1Size : An := { join := look [], loop := look [], ret := [⟨4, .val, (.int .i64)⟩] }
theorem c_s_l1Size (N : Nat) : Ctr Tryd.prog Vp 23 ⟨[(.sl .lend (.int .u8)), (.int .i64)], [(.int .i64)], s_l1Size N⟩ := by
  have hE : EnvOK Tryd.prog (E_s_l1Size N) := ⟨tabP_ok, (fun _ _ h => by cases h), (fun _ _ h => by cases h)⟩
  have h := fn_sound hE (by kernel_rfl) (N := N) (A := A_s_l1Size) (pl := [⟨0, .val, (.sl .lend (.int .u8))⟩, ⟨1, .val, (.int .i64)⟩]) (fid := 23) (fn := Tryd.f23) (c := ((Tryd.f23.body).getD .skip)) ⟨Tryd.func23, by kernel_rfl, by kernel_rfl, by kernel_rfl, Nat.le_of_ble_eq_true (by kernel_rfl), by kernel_rfl, by kernel_rfl, Nat.le_of_ble_eq_true (by kernel_rfl), by kernel_rfl⟩
  have e : s_l1Size N = evalF (E_s_l1Size N) A_s_l1Size N [⟨0, .val, (.sl .lend (.int .u8))⟩, ⟨1, .val, (.int .i64)⟩] ((Tryd.f23.body).getD .skip) := funext fun x => by kernel_rfl
  rw [e]
  exact h
noncomputable def E_s_DrawWeight (N : Nat) : Cz := { tab := tabP, n := 48, V := Vp, ann := look [(18, (.pair (.int .i64) (.pair (.int .i64) (.pair .str .unit)))), (20, (.pair (.int .i64) (.pair .str (.pair (.int .i64) (.pair (.int .i64) (.pair (.sl .own .str) (.pair (.sl .own (.pair (.int .i64) (.pair (.int .i64) (.pair .str .unit)))) .unit))))))), (35, (.pair (.int .i64) (.pair (.int .i64) (.pair .str .unit)))), (37, (.pair (.int .i64) (.pair .str (.pair (.int .i64) (.pair (.int .i64) (.pair (.sl .own .str) (.pair (.sl .own (.pair (.int .i64) (.pair (.int .i64) (.pair .str .unit)))) .unit)))))))], fn := look [(23, (⟨[(.sl .lend (.int .u8)), (.int .i64)], [(.int .i64)], s_l1Size N⟩ : Fn))], fx := look [(21, (⟨[.no], [(.sl .keep (.int .u8))], [.ptr], [(.pair (.sl .keep (.int .u8)) (.pair (.int .i64) (.pair (.int .i64) .unit)))], s_l1New N⟩ : Fx)), (22, (⟨[.io false, .no], [(.pair (.sl .keep (.int .u8)) (.pair (.int .i64) (.pair (.int .i64) .unit))), (.int .i64)], [.val, .io], [(.sl .own (.pair (.int .i64) (.pair .str (.pair (.int .i64) (.pair (.int .i64) (.pair (.sl .own .str) (.pair (.sl .own (.pair (.int .i64) (.pair (.int .i64) (.pair .str .unit)))) .unit))))))), (.pair (.sl .keep (.int .u8)) (.pair (.int .i64) (.pair (.int .i64) .unit)))], s_l6Heap N⟩ : Fx)), (24, (⟨[.io false, .no], [(.pair (.sl .keep (.int .u8)) (.pair (.int .i64) (.pair (.int .i64) .unit))), (.int .i64)], [.val, .io], [.bool, (.pair (.sl .keep (.int .u8)) (.pair (.int .i64) (.pair (.int .i64) .unit)))], s_l1Once N⟩ : Fx)), (25, (⟨[.io false, .no], [(.pair (.sl .keep (.int .u8)) (.pair (.int .i64) (.pair (.int .i64) .unit))), (.int .i64)], [.val, .io], [(.int .i64), (.pair (.sl .keep (.int .u8)) (.pair (.int .i64) (.pair (.int .i64) .unit)))], s_l1Below N⟩ : Fx)), (26, (⟨[.io false, .no], [(.pair (.sl .keep (.int .u8)) (.pair (.int .i64) (.pair (.int .i64) .unit))), (.sl .lend (.pair (.int .i64) (.pair .str (.pair (.int .i64) (.pair (.int .i64) (.pair (.sl .lend .str) (.pair (.sl .lend (.pair (.int .i64) (.pair (.int .i64) (.pair .str .unit)))) .unit)))))))], [.val, .io], [(.pair (.int .i64) (.pair (.int .i64) (.pair .str .unit))), (.pair (.sl .keep (.int .u8)) (.pair (.int .i64) (.pair (.int .i64) .unit)))], s_l6AnyVal N⟩ : Fx))] }
def A_s_DrawWeight : An := { join := look [], loop := look [(0, ⟨[⟨3, .box false, (.pair (.int .i64) (.pair (.int .i64) (.pair .str .unit)))⟩, ⟨5, .own false, (.sl .own (.pair (.int .i64) (.pair .str (.pair (.int .i64) (.pair (.int .i64) (.pair (.sl .own .str) (.pair (.sl .own (.pair (.int .i64) (.pair (.int .i64) (.pair .str .unit)))) .unit)))))))⟩, ⟨6, .val, (.int .i64)⟩], [⟨3, .box false, (.pair (.int .i64) (.pair (.int .i64) (.pair .str .unit)))⟩, ⟨5, .own false, (.sl .own (.pair (.int .i64) (.pair .str (.pair (.int .i64) (.pair (.int .i64) (.pair (.sl .own .str) (.pair (.sl .own (.pair (.int .i64) (.pair (.int .i64) (.pair .str .unit)))) .unit)))))))⟩], [5, 6, 7, 24, 25, 26, 27, 28, 29, 30, 31, 32, 33, 34, 35, 36, 37, 38]⟩)], ret := [⟨2, .own false, (.sl .own (.pair (.int .i64) (.pair .str (.pair (.int .i64) (.pair (.int .i64) (.pair (.sl .own .str) (.pair (.sl .own (.pair (.int .i64) (.pair (.int .i64) (.pair .str .unit)))) .unit)))))))⟩, ⟨3, .box false, (.pair (.int .i64) (.pair (.int .i64) (.pair .str .unit)))⟩] }
theorem c_s_DrawWeight (N : Nat) : CtrX Tryd.prog Vp 8 ⟨[.no], [(.sl .keep (.int .u8))], [.val, .val], [(.sl .own (.pair (.int .i64) (.pair .str (.pair (.int .i64) (.pair (.int .i64) (.pair (.sl .own .str) (.pair (.sl .own (.pair (.int .i64) (.pair (.int .i64) (.pair .str .unit)))) .unit))))))), (.pair (.int .i64) (.pair (.int .i64) (.pair .str .unit)))], s_DrawWeight N⟩ := by
  have hE : EnvOK Tryd.prog (E_s_DrawWeight N) := ⟨tabP_ok, look_all (Q := fun t s => Ctr Tryd.prog Vp t s) _ (by
    intro p hp
    simp only [List.mem_cons, List.not_mem_nil, or_false] at hp
    rcases hp with rfl
    · exact c_s_l1Size N), look_all (Q := fun t s => CtrX Tryd.prog Vp t s) _ (by
    intro p hp
    simp only [List.mem_cons, List.not_mem_nil, or_false] at hp
    rcases hp with rfl | rfl | rfl | rfl | rfl
    · exact c_s_l1New N
    · exact c_s_l6Heap N
    · exact c_s_l1Once N
    · exact c_s_l1Below N
    · exact c_s_l6AnyVal N)⟩
  have h := fn_soundX hE (by kernel_rfl) (N := N) (A := A_s_DrawWeight) (pl := [⟨0, .val, (.sl .keep (.int .u8))⟩]) (io := [.no]) (ks := [.val, .val]) (fid := 8) (fn := Tryd.f8) (c := ((Tryd.f8.body).getD .skip)) ⟨Tryd.func8, by kernel_rfl, by kernel_rfl, by kernel_rfl, by kernel_rfl, by kernel_rfl, Nat.le_of_ble_eq_true (by kernel_rfl), by kernel_rfl⟩
  have e : s_DrawWeight N = evalF (E_s_DrawWeight N) A_s_DrawWeight N [⟨0, .val, (.sl .keep (.int .u8))⟩] ((Tryd.f8.body).getD .skip) := funext fun x => by kernel_rfl
  rw [e]
  exact h
noncomputable def E_l_FnWeight (N : Nat) : Cz := { tab := tabP, n := 65, V := Vp, ann := look [], fn := look [(7, (⟨[(.sl .lend (.int .u8))], [.bool], l_big N⟩ : Fn)), (9, (⟨[(.sl .lend (.pair (.int .i64) (.pair .str (.pair (.int .i64) (.pair (.int .i64) (.pair (.sl .lend .str) (.pair (.sl .lend (.pair (.int .i64) (.pair (.int .i64) (.pair .str .unit)))) .unit))))))), (.pair (.int .i64) (.pair (.int .i64) (.pair .str .unit)))], [(.int .i64)], i_Weight N⟩ : Fn)), (10, (⟨[(.sl .lend (.pair (.int .i64) (.pair .str (.pair (.int .i64) (.pair (.int .i64) (.pair (.sl .lend .str) (.pair (.sl .lend (.pair (.int .i64) (.pair (.int .i64) (.pair .str .unit)))) .unit))))))), (.pair (.int .i64) (.pair (.int .i64) (.pair .str .unit)))], [(.int .i64)], s_Weight N⟩ : Fn)), (11, (⟨[(.sl .lend (.pair (.int .i64) (.pair .str (.pair (.int .i64) (.pair (.int .i64) (.pair (.sl .lend .str) (.pair (.sl .lend (.pair (.int .i64) (.pair (.int .i64) (.pair .str .unit)))) .unit)))))))], [.bool], s_HeapOk N⟩ : Fn)), (12, (⟨[(.sl .lend (.pair (.int .i64) (.pair .str (.pair (.int .i64) (.pair (.int .i64) (.pair (.sl .lend .str) (.pair (.sl .lend (.pair (.int .i64) (.pair (.int .i64) (.pair .str .unit)))) .unit))))))), (.pair (.int .i64) (.pair (.int .i64) (.pair .str .unit)))], [.bool], s_ValueOk N⟩ : Fn))], fx := look [(8, (⟨[.no], [(.sl .keep (.int .u8))], [.val, .val], [(.sl .own (.pair (.int .i64) (.pair .str (.pair (.int .i64) (.pair (.int .i64) (.pair (.sl .own .str) (.pair (.sl .own (.pair (.int .i64) (.pair (.int .i64) (.pair .str .unit)))) .unit))))))), (.pair (.int .i64) (.pair (.int .i64) (.pair .str .unit)))], s_DrawWeight N⟩ : Fx))] }
def A_l_FnWeight : An := { join := look [(61, ([⟨6, .val, (.int .i64)⟩], [6]))], loop := look [], ret := [⟨2, .val, .bool⟩] }
theorem c_l_FnWeight (N : Nat) : Ctr Tryd.prog Vp 3 ⟨[(.sl .keep (.int .u8))], [.bool], l_FnWeight N⟩ := by
  have hE : EnvOK Tryd.prog (E_l_FnWeight N) := ⟨tabP_ok, look_all (Q := fun t s => Ctr Tryd.prog Vp t s) _ (by
    intro p hp
    simp only [List.mem_cons, List.not_mem_nil, or_false] at hp
    rcases hp with rfl | rfl | rfl | rfl | rfl
    · exact c_l_big N
    · exact c_i_Weight N
    · exact c_s_Weight N
    · exact c_s_HeapOk N
    · exact c_s_ValueOk N), look_all (Q := fun t s => CtrX Tryd.prog Vp t s) _ (by
    intro p hp
    simp only [List.mem_cons, List.not_mem_nil, or_false] at hp
    rcases hp with rfl
    · exact c_s_DrawWeight N)⟩
  have h := fn_sound hE (by kernel_rfl) (N := N) (A := A_l_FnWeight) (pl := [⟨0, .val, (.sl .keep (.int .u8))⟩]) (fid := 3) (fn := Tryd.f3) (c := ((Tryd.f3.body).getD .skip)) ⟨Tryd.func3, by kernel_rfl, by kernel_rfl, by kernel_rfl, Nat.le_of_ble_eq_true (by kernel_rfl), by kernel_rfl, by kernel_rfl, Nat.le_of_ble_eq_true (by kernel_rfl), by kernel_rfl⟩
  have e : l_FnWeight N = evalF (E_l_FnWeight N) A_l_FnWeight N [⟨0, .val, (.sl .keep (.int .u8))⟩] ((Tryd.f3.body).getD .skip) := funext fun x => by kernel_rfl
  rw [e]
  exact h
end Go.Rf
