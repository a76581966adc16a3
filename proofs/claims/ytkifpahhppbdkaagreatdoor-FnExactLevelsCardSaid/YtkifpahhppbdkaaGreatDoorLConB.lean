/-
  Functions of the program do what their plain functions say (contracts).
-/
import Derived.Test.YtkifpahhppbdkaaGreatDoorLCon
set_option linter.unusedSimpArgs false
set_option linter.unusedVariables false
set_option autoImplicit false
namespace Go.Rf
open Go.Proofs
set_option maxRecDepth 100000
noncomputable def E_l_szStringS (N : Nat) : Cz := { tab := tabP, n := 28, V := Vp, ann := look [], fn := look [], fx := look [] }
def A_l_szStringS : An := { join := look [], loop := look [(0, ⟨[⟨1, .val, (.int .i64)⟩, ⟨5, .val, (.int .i64)⟩], [⟨1, .val, (.int .i64)⟩], [1, 4, 5, 12, 13, 14, 15, 16, 17, 18, 19, 20, 21, 22, 23, 24, 25, 26]⟩)], ret := [⟨4, .val, (.int .i64)⟩] }
theorem c_l_szStringS (N : Nat) : Ctr Tryz.prog Vp 71 ⟨[(.sl .lend .str), (.int .i64)], [(.int .i64)], l_szStringS N⟩ := by
  have hE : EnvOK Tryz.prog (E_l_szStringS N) := ⟨tabP_ok, (fun _ _ h => by cases h), (fun _ _ h => by cases h)⟩
  have h := fn_sound hE (by kernel_rfl) (N := N) (A := A_l_szStringS) (pl := [⟨0, .val, (.sl .lend .str)⟩, ⟨1, .val, (.int .i64)⟩]) (fid := 71) (fn := Tryz.f71) (c := ((Tryz.f71.body).getD .skip)) ⟨Tryz.func71, by kernel_rfl, by kernel_rfl, by kernel_rfl, Nat.le_of_ble_eq_true (by kernel_rfl), by kernel_rfl, by kernel_rfl, Nat.le_of_ble_eq_true (by kernel_rfl), by kernel_rfl⟩
  have e : l_szStringS N = evalF (E_l_szStringS N) A_l_szStringS N [⟨0, .val, (.sl .lend .str)⟩, ⟨1, .val, (.int .i64)⟩] ((Tryz.f71.body).getD .skip) := funext fun x => by kernel_rfl
  rw [e]
  exact h
noncomputable def E_l_szType (N : Nat) : Cz := { tab := tabP, n := 13, V := Vp, ann := look [], fn := look [], fx := look [] }
def A_l_szType : An := { join := look [], loop := look [], ret := [⟨4, .val, (.int .i64)⟩] }
theorem c_l_szType (N : Nat) : Ctr Tryz.prog Vp 122 ⟨[(.pair .str (.pair (.int .i64) .unit)), (.int .i64)], [(.int .i64)], l_szType N⟩ := by
  have hE : EnvOK Tryz.prog (E_l_szType N) := ⟨tabP_ok, (fun _ _ h => by cases h), (fun _ _ h => by cases h)⟩
  have h := fn_sound hE (by kernel_rfl) (N := N) (A := A_l_szType) (pl := [⟨0, .val, (.pair .str (.pair (.int .i64) .unit))⟩, ⟨1, .val, (.int .i64)⟩]) (fid := 122) (fn := Tryz.f122) (c := ((Tryz.f122.body).getD .skip)) ⟨Tryz.func122, by kernel_rfl, by kernel_rfl, by kernel_rfl, Nat.le_of_ble_eq_true (by kernel_rfl), by kernel_rfl, by kernel_rfl, Nat.le_of_ble_eq_true (by kernel_rfl), by kernel_rfl⟩
  have e : l_szType N = evalF (E_l_szType N) A_l_szType N [⟨0, .val, (.pair .str (.pair (.int .i64) .unit))⟩, ⟨1, .val, (.int .i64)⟩] ((Tryz.f122.body).getD .skip) := funext fun x => by kernel_rfl
  rw [e]
  exact h
noncomputable def E_l_szTypeS (N : Nat) : Cz := { tab := tabP, n := 27, V := Vp, ann := look [], fn := look [(122, (⟨[(.pair .str (.pair (.int .i64) .unit)), (.int .i64)], [(.int .i64)], l_szType N⟩ : Fn))], fx := look [] }
def A_l_szTypeS : An := { join := look [], loop := look [(0, ⟨[⟨1, .val, (.int .i64)⟩, ⟨5, .val, (.int .i64)⟩], [⟨1, .val, (.int .i64)⟩], [1, 4, 5, 12, 13, 14, 15, 16, 17, 18, 19, 20, 21, 22, 23, 24, 25]⟩)], ret := [⟨4, .val, (.int .i64)⟩] }
theorem c_l_szTypeS (N : Nat) : Ctr Tryz.prog Vp 72 ⟨[(.sl .lend (.pair .str (.pair (.int .i64) .unit))), (.int .i64)], [(.int .i64)], l_szTypeS N⟩ := by
  have hE : EnvOK Tryz.prog (E_l_szTypeS N) := ⟨tabP_ok, look_all (Q := fun t s => Ctr Tryz.prog Vp t s) _ (by
    intro p hp
    simp only [List.mem_cons, List.not_mem_nil, or_false] at hp
    rcases hp with rfl
    · exact c_l_szType N), (fun _ _ h => by cases h)⟩
  have h := fn_sound hE (by kernel_rfl) (N := N) (A := A_l_szTypeS) (pl := [⟨0, .val, (.sl .lend (.pair .str (.pair (.int .i64) .unit)))⟩, ⟨1, .val, (.int .i64)⟩]) (fid := 72) (fn := Tryz.f72) (c := ((Tryz.f72.body).getD .skip)) ⟨Tryz.func72, by kernel_rfl, by kernel_rfl, by kernel_rfl, Nat.le_of_ble_eq_true (by kernel_rfl), by kernel_rfl, by kernel_rfl, Nat.le_of_ble_eq_true (by kernel_rfl), by kernel_rfl⟩
  have e : l_szTypeS N = evalF (E_l_szTypeS N) A_l_szTypeS N [⟨0, .val, (.sl .lend (.pair .str (.pair (.int .i64) .unit)))⟩, ⟨1, .val, (.int .i64)⟩] ((Tryz.f72.body).getD .skip) := funext fun x => by kernel_rfl
  rw [e]
  exact h
noncomputable def E_l_szIntS (N : Nat) : Cz := { tab := tabP, n := 12, V := Vp, ann := look [], fn := look [], fx := look [] }
def A_l_szIntS : An := { join := look [], loop := look [], ret := [⟨4, .val, (.int .i64)⟩] }
theorem c_l_szIntS (N : Nat) : Ctr Tryz.prog Vp 238 ⟨[(.sl .lend (.int .i64)), (.int .i64)], [(.int .i64)], l_szIntS N⟩ := by
  have hE : EnvOK Tryz.prog (E_l_szIntS N) := ⟨tabP_ok, (fun _ _ h => by cases h), (fun _ _ h => by cases h)⟩
  have h := fn_sound hE (by kernel_rfl) (N := N) (A := A_l_szIntS) (pl := [⟨0, .val, (.sl .lend (.int .i64))⟩, ⟨1, .val, (.int .i64)⟩]) (fid := 238) (fn := Tryz.f238) (c := ((Tryz.f238.body).getD .skip)) ⟨Tryz.func238, by kernel_rfl, by kernel_rfl, by kernel_rfl, Nat.le_of_ble_eq_true (by kernel_rfl), by kernel_rfl, by kernel_rfl, Nat.le_of_ble_eq_true (by kernel_rfl), by kernel_rfl⟩
  have e : l_szIntS N = evalF (E_l_szIntS N) A_l_szIntS N [⟨0, .val, (.sl .lend (.int .i64))⟩, ⟨1, .val, (.int .i64)⟩] ((Tryz.f238.body).getD .skip) := funext fun x => by kernel_rfl
  rw [e]
  exact h
noncomputable def E_l_szNode (N : Nat) : Cz := { tab := tabP, n := 25, V := Vp, ann := look [], fn := look [(71, (⟨[(.sl .lend .str), (.int .i64)], [(.int .i64)], l_szStringS N⟩ : Fn)), (238, (⟨[(.sl .lend (.int .i64)), (.int .i64)], [(.int .i64)], l_szIntS N⟩ : Fn))], fx := look [] }
def A_l_szNode : An := { join := look [], loop := look [], ret := [⟨4, .val, (.int .i64)⟩] }
theorem c_l_szNode (N : Nat) : Ctr Tryz.prog Vp 216 ⟨[t167l, (.int .i64)], [(.int .i64)], l_szNode N⟩ := by
  have hE : EnvOK Tryz.prog (E_l_szNode N) := ⟨tabP_ok, look_all (Q := fun t s => Ctr Tryz.prog Vp t s) _ (by
    intro p hp
    simp only [List.mem_cons, List.not_mem_nil, or_false] at hp
    rcases hp with rfl | rfl
    · exact c_l_szStringS N
    · exact c_l_szIntS N), (fun _ _ h => by cases h)⟩
  have h := fn_sound hE (by kernel_rfl) (N := N) (A := A_l_szNode) (pl := [⟨0, .val, t167l⟩, ⟨1, .val, (.int .i64)⟩]) (fid := 216) (fn := Tryz.f216) (c := ((Tryz.f216.body).getD .skip)) ⟨Tryz.func216, by kernel_rfl, by kernel_rfl, by kernel_rfl, Nat.le_of_ble_eq_true (by kernel_rfl), by kernel_rfl, by kernel_rfl, Nat.le_of_ble_eq_true (by kernel_rfl), by kernel_rfl⟩
  have e : l_szNode N = evalF (E_l_szNode N) A_l_szNode N [⟨0, .val, t167l⟩, ⟨1, .val, (.int .i64)⟩] ((Tryz.f216.body).getD .skip) := funext fun x => by kernel_rfl
  rw [e]
  exact h
noncomputable def E_l_szNodeS (N : Nat) : Cz := { tab := tabP, n := 27, V := Vp, ann := look [], fn := look [(216, (⟨[t167l, (.int .i64)], [(.int .i64)], l_szNode N⟩ : Fn))], fx := look [] }
def A_l_szNodeS : An := { join := look [], loop := look [(0, ⟨[⟨1, .val, (.int .i64)⟩, ⟨5, .val, (.int .i64)⟩], [⟨1, .val, (.int .i64)⟩], [1, 4, 5, 12, 13, 14, 15, 16, 17, 18, 19, 20, 21, 22, 23, 24, 25]⟩)], ret := [⟨4, .val, (.int .i64)⟩] }
theorem c_l_szNodeS (N : Nat) : Ctr Tryz.prog Vp 193 ⟨[(.sl .lend t167l), (.int .i64)], [(.int .i64)], l_szNodeS N⟩ := by
  have hE : EnvOK Tryz.prog (E_l_szNodeS N) := ⟨tabP_ok, look_all (Q := fun t s => Ctr Tryz.prog Vp t s) _ (by
    intro p hp
    simp only [List.mem_cons, List.not_mem_nil, or_false] at hp
    rcases hp with rfl
    · exact c_l_szNode N), (fun _ _ h => by cases h)⟩
  have h := fn_sound hE (by kernel_rfl) (N := N) (A := A_l_szNodeS) (pl := [⟨0, .val, (.sl .lend t167l)⟩, ⟨1, .val, (.int .i64)⟩]) (fid := 193) (fn := Tryz.f193) (c := ((Tryz.f193.body).getD .skip)) ⟨Tryz.func193, by kernel_rfl, by kernel_rfl, by kernel_rfl, Nat.le_of_ble_eq_true (by kernel_rfl), by kernel_rfl, by kernel_rfl, Nat.le_of_ble_eq_true (by kernel_rfl), by kernel_rfl⟩
  have e : l_szNodeS N = evalF (E_l_szNodeS N) A_l_szNodeS N [⟨0, .val, (.sl .lend t167l)⟩, ⟨1, .val, (.int .i64)⟩] ((Tryz.f193.body).getD .skip) := funext fun x => by kernel_rfl
  rw [e]
  exact h
noncomputable def E_l_szProg (N : Nat) : Cz := { tab := tabP, n := 12, V := Vp, ann := look [], fn := look [(193, (⟨[(.sl .lend t167l), (.int .i64)], [(.int .i64)], l_szNodeS N⟩ : Fn))], fx := look [] }
def A_l_szProg : An := { join := look [], loop := look [], ret := [⟨4, .val, (.int .i64)⟩] }
theorem c_l_szProg (N : Nat) : Ctr Tryz.prog Vp 160 ⟨[t115l, (.int .i64)], [(.int .i64)], l_szProg N⟩ := by
  have hE : EnvOK Tryz.prog (E_l_szProg N) := ⟨tabP_ok, look_all (Q := fun t s => Ctr Tryz.prog Vp t s) _ (by
    intro p hp
    simp only [List.mem_cons, List.not_mem_nil, or_false] at hp
    rcases hp with rfl
    · exact c_l_szNodeS N), (fun _ _ h => by cases h)⟩
  have h := fn_sound hE (by kernel_rfl) (N := N) (A := A_l_szProg) (pl := [⟨0, .val, t115l⟩, ⟨1, .val, (.int .i64)⟩]) (fid := 160) (fn := Tryz.f160) (c := ((Tryz.f160.body).getD .skip)) ⟨Tryz.func160, by kernel_rfl, by kernel_rfl, by kernel_rfl, Nat.le_of_ble_eq_true (by kernel_rfl), by kernel_rfl, by kernel_rfl, Nat.le_of_ble_eq_true (by kernel_rfl), by kernel_rfl⟩
  have e : l_szProg N = evalF (E_l_szProg N) A_l_szProg N [⟨0, .val, t115l⟩, ⟨1, .val, (.int .i64)⟩] ((Tryz.f160.body).getD .skip) := funext fun x => by kernel_rfl
  rw [e]
  exact h
noncomputable def E_l_szDef (N : Nat) : Cz := { tab := tabP, n := 19, V := Vp, ann := look [], fn := look [(160, (⟨[t115l, (.int .i64)], [(.int .i64)], l_szProg N⟩ : Fn))], fx := look [] }
def A_l_szDef : An := { join := look [], loop := look [], ret := [⟨4, .val, (.int .i64)⟩] }
theorem c_l_szDef (N : Nat) : Ctr Tryz.prog Vp 123 ⟨[t159l, (.int .i64)], [(.int .i64)], l_szDef N⟩ := by
  have hE : EnvOK Tryz.prog (E_l_szDef N) := ⟨tabP_ok, look_all (Q := fun t s => Ctr Tryz.prog Vp t s) _ (by
    intro p hp
    simp only [List.mem_cons, List.not_mem_nil, or_false] at hp
    rcases hp with rfl
    · exact c_l_szProg N), (fun _ _ h => by cases h)⟩
  have h := fn_sound hE (by kernel_rfl) (N := N) (A := A_l_szDef) (pl := [⟨0, .val, t159l⟩, ⟨1, .val, (.int .i64)⟩]) (fid := 123) (fn := Tryz.f123) (c := ((Tryz.f123.body).getD .skip)) ⟨Tryz.func123, by kernel_rfl, by kernel_rfl, by kernel_rfl, Nat.le_of_ble_eq_true (by kernel_rfl), by kernel_rfl, by kernel_rfl, Nat.le_of_ble_eq_true (by kernel_rfl), by kernel_rfl⟩
  have e : l_szDef N = evalF (E_l_szDef N) A_l_szDef N [⟨0, .val, t159l⟩, ⟨1, .val, (.int .i64)⟩] ((Tryz.f123.body).getD .skip) := funext fun x => by kernel_rfl
  rw [e]
  exact h
noncomputable def E_l_szDefS (N : Nat) : Cz := { tab := tabP, n := 27, V := Vp, ann := look [], fn := look [(123, (⟨[t159l, (.int .i64)], [(.int .i64)], l_szDef N⟩ : Fn))], fx := look [] }
def A_l_szDefS : An := { join := look [], loop := look [(0, ⟨[⟨1, .val, (.int .i64)⟩, ⟨5, .val, (.int .i64)⟩], [⟨1, .val, (.int .i64)⟩], [1, 4, 5, 12, 13, 14, 15, 16, 17, 18, 19, 20, 21, 22, 23, 24, 25]⟩)], ret := [⟨4, .val, (.int .i64)⟩] }
theorem c_l_szDefS (N : Nat) : Ctr Tryz.prog Vp 73 ⟨[(.sl .lend t159l), (.int .i64)], [(.int .i64)], l_szDefS N⟩ := by
  have hE : EnvOK Tryz.prog (E_l_szDefS N) := ⟨tabP_ok, look_all (Q := fun t s => Ctr Tryz.prog Vp t s) _ (by
    intro p hp
    simp only [List.mem_cons, List.not_mem_nil, or_false] at hp
    rcases hp with rfl
    · exact c_l_szDef N), (fun _ _ h => by cases h)⟩
  have h := fn_sound hE (by kernel_rfl) (N := N) (A := A_l_szDefS) (pl := [⟨0, .val, (.sl .lend t159l)⟩, ⟨1, .val, (.int .i64)⟩]) (fid := 73) (fn := Tryz.f73) (c := ((Tryz.f73.body).getD .skip)) ⟨Tryz.func73, by kernel_rfl, by kernel_rfl, by kernel_rfl, Nat.le_of_ble_eq_true (by kernel_rfl), by kernel_rfl, by kernel_rfl, Nat.le_of_ble_eq_true (by kernel_rfl), by kernel_rfl⟩
  have e : l_szDefS N = evalF (E_l_szDefS N) A_l_szDefS N [⟨0, .val, (.sl .lend t159l)⟩, ⟨1, .val, (.int .i64)⟩] ((Tryz.f73.body).getD .skip) := funext fun x => by kernel_rfl
  rw [e]
  exact h
noncomputable def E_l_szSrc (N : Nat) : Cz := { tab := tabP, n := 43, V := Vp, ann := look [], fn := look [(71, (⟨[(.sl .lend .str), (.int .i64)], [(.int .i64)], l_szStringS N⟩ : Fn)), (72, (⟨[(.sl .lend (.pair .str (.pair (.int .i64) .unit))), (.int .i64)], [(.int .i64)], l_szTypeS N⟩ : Fn)), (73, (⟨[(.sl .lend t159l), (.int .i64)], [(.int .i64)], l_szDefS N⟩ : Fn))], fx := look [] }
def A_l_szSrc : An := { join := look [], loop := look [], ret := [⟨4, .val, (.int .i64)⟩] }
theorem c_l_szSrc (N : Nat) : Ctr Tryz.prog Vp 25 ⟨[t51l, (.int .i64)], [(.int .i64)], l_szSrc N⟩ := by
  have hE : EnvOK Tryz.prog (E_l_szSrc N) := ⟨tabP_ok, look_all (Q := fun t s => Ctr Tryz.prog Vp t s) _ (by
    intro p hp
    simp only [List.mem_cons, List.not_mem_nil, or_false] at hp
    rcases hp with rfl | rfl | rfl
    · exact c_l_szStringS N
    · exact c_l_szTypeS N
    · exact c_l_szDefS N), (fun _ _ h => by cases h)⟩
  have h := fn_sound hE (by kernel_rfl) (N := N) (A := A_l_szSrc) (pl := [⟨0, .val, t51l⟩, ⟨1, .val, (.int .i64)⟩]) (fid := 25) (fn := Tryz.f25) (c := ((Tryz.f25.body).getD .skip)) ⟨Tryz.func25, by kernel_rfl, by kernel_rfl, by kernel_rfl, Nat.le_of_ble_eq_true (by kernel_rfl), by kernel_rfl, by kernel_rfl, Nat.le_of_ble_eq_true (by kernel_rfl), by kernel_rfl⟩
  have e : l_szSrc N = evalF (E_l_szSrc N) A_l_szSrc N [⟨0, .val, t51l⟩, ⟨1, .val, (.int .i64)⟩] ((Tryz.f25.body).getD .skip) := funext fun x => by kernel_rfl
  rw [e]
  exact h
noncomputable def E_l_szSrcS (N : Nat) : Cz := { tab := tabP, n := 27, V := Vp, ann := look [], fn := look [(25, (⟨[t51l, (.int .i64)], [(.int .i64)], l_szSrc N⟩ : Fn))], fx := look [] }
def A_l_szSrcS : An := { join := look [], loop := look [(0, ⟨[⟨1, .val, (.int .i64)⟩, ⟨5, .val, (.int .i64)⟩], [⟨1, .val, (.int .i64)⟩], [1, 4, 5, 12, 13, 14, 15, 16, 17, 18, 19, 20, 21, 22, 23, 24, 25]⟩)], ret := [⟨4, .val, (.int .i64)⟩] }
theorem c_l_szSrcS (N : Nat) : Ctr Tryz.prog Vp 34 ⟨[(.sl .lend t51l), (.int .i64)], [(.int .i64)], l_szSrcS N⟩ := by
  have hE : EnvOK Tryz.prog (E_l_szSrcS N) := ⟨tabP_ok, look_all (Q := fun t s => Ctr Tryz.prog Vp t s) _ (by
    intro p hp
    simp only [List.mem_cons, List.not_mem_nil, or_false] at hp
    rcases hp with rfl
    · exact c_l_szSrc N), (fun _ _ h => by cases h)⟩
  have h := fn_sound hE (by kernel_rfl) (N := N) (A := A_l_szSrcS) (pl := [⟨0, .val, (.sl .lend t51l)⟩, ⟨1, .val, (.int .i64)⟩]) (fid := 34) (fn := Tryz.f34) (c := ((Tryz.f34.body).getD .skip)) ⟨Tryz.func34, by kernel_rfl, by kernel_rfl, by kernel_rfl, Nat.le_of_ble_eq_true (by kernel_rfl), by kernel_rfl, by kernel_rfl, Nat.le_of_ble_eq_true (by kernel_rfl), by kernel_rfl⟩
  have e : l_szSrcS N = evalF (E_l_szSrcS N) A_l_szSrcS N [⟨0, .val, (.sl .lend t51l)⟩, ⟨1, .val, (.int .i64)⟩] ((Tryz.f34.body).getD .skip) := funext fun x => by kernel_rfl
  rw [e]
  exact h
noncomputable def E_s_l11DefNames (N : Nat) : Cz := { tab := tabP, n := 21, V := Vp, ann := look [(18, .str), (19, .str)], fn := look [], fx := look [] }
def A_s_l11DefNames : An := { join := look [], loop := look [(0, ⟨[⟨3, .own false, (.sl .own .str)⟩, ⟨4, .val, (.int .i64)⟩], [⟨3, .own false, (.sl .own .str)⟩], [3, 4, 6, 7, 8, 9, 10, 11, 12, 13, 14, 15, 16, 17, 18, 19]⟩)], ret := [⟨2, .own false, (.sl .own .str)⟩] }
theorem c_s_l11DefNames (N : Nat) : Ctr Tryz.prog Vp 75 ⟨[(.sl .lend t159l)], [(.sl .own .str)], s_l11DefNames N⟩ := by
  have hE : EnvOK Tryz.prog (E_s_l11DefNames N) := ⟨tabP_ok, (fun _ _ h => by cases h), (fun _ _ h => by cases h)⟩
  have h := fn_sound hE (by kernel_rfl) (N := N) (A := A_s_l11DefNames) (pl := [⟨0, .val, (.sl .lend t159l)⟩]) (fid := 75) (fn := Tryz.f75) (c := ((Tryz.f75.body).getD .skip)) ⟨Tryz.func75, by kernel_rfl, by kernel_rfl, by kernel_rfl, Nat.le_of_ble_eq_true (by kernel_rfl), by kernel_rfl, by kernel_rfl, Nat.le_of_ble_eq_true (by kernel_rfl), by kernel_rfl⟩
  have e : s_l11DefNames N = evalF (E_s_l11DefNames N) A_s_l11DefNames N [⟨0, .val, (.sl .lend t159l)⟩] ((Tryz.f75.body).getD .skip) := funext fun x => by kernel_rfl
  rw [e]
  exact h
noncomputable def E_s_l1In (N : Nat) : Cz := { tab := tabP, n := 15, V := Vp, ann := look [], fn := look [], fx := look [] }
def A_s_l1In : An := { join := look [], loop := look [], ret := [⟨6, .val, .bool⟩] }
theorem c_s_l1In (N : Nat) : Ctr Tryz.prog Vp 114 ⟨[(.int .i64), (.int .i64), (.int .i64)], [.bool], s_l1In N⟩ := by
  have hE : EnvOK Tryz.prog (E_s_l1In N) := ⟨tabP_ok, (fun _ _ h => by cases h), (fun _ _ h => by cases h)⟩
  have h := fn_sound hE (by kernel_rfl) (N := N) (A := A_s_l1In) (pl := [⟨0, .val, (.int .i64)⟩, ⟨1, .val, (.int .i64)⟩, ⟨2, .val, (.int .i64)⟩]) (fid := 114) (fn := Tryz.f114) (c := ((Tryz.f114.body).getD .skip)) ⟨Tryz.func114, by kernel_rfl, by kernel_rfl, by kernel_rfl, Nat.le_of_ble_eq_true (by kernel_rfl), by kernel_rfl, by kernel_rfl, Nat.le_of_ble_eq_true (by kernel_rfl), by kernel_rfl⟩
  have e : s_l1In N = evalF (E_s_l1In N) A_s_l1In N [⟨0, .val, (.int .i64)⟩, ⟨1, .val, (.int .i64)⟩, ⟨2, .val, (.int .i64)⟩] ((Tryz.f114.body).getD .skip) := funext fun x => by kernel_rfl
  rw [e]
  exact h
noncomputable def E_s_l2Digit (N : Nat) : Cz := { tab := tabP, n := 9, V := Vp, ann := look [], fn := look [], fx := look [] }
def A_s_l2Digit : An := { join := look [], loop := look [], ret := [⟨2, .val, .bool⟩] }
theorem c_s_l2Digit (N : Nat) : Ctr Tryz.prog Vp 155 ⟨[(.int .u8)], [.bool], s_l2Digit N⟩ := by
  have hE : EnvOK Tryz.prog (E_s_l2Digit N) := ⟨tabP_ok, (fun _ _ h => by cases h), (fun _ _ h => by cases h)⟩
  have h := fn_sound hE (by kernel_rfl) (N := N) (A := A_s_l2Digit) (pl := [⟨0, .val, (.int .u8)⟩]) (fid := 155) (fn := Tryz.f155) (c := ((Tryz.f155.body).getD .skip)) ⟨Tryz.func155, by kernel_rfl, by kernel_rfl, by kernel_rfl, Nat.le_of_ble_eq_true (by kernel_rfl), by kernel_rfl, by kernel_rfl, Nat.le_of_ble_eq_true (by kernel_rfl), by kernel_rfl⟩
  have e : s_l2Digit N = evalF (E_s_l2Digit N) A_s_l2Digit N [⟨0, .val, (.int .u8)⟩] ((Tryz.f155.body).getD .skip) := funext fun x => by kernel_rfl
  rw [e]
  exact h
noncomputable def E_s_l2In (N : Nat) : Cz := { tab := tabP, n := 17, V := Vp, ann := look [], fn := look [], fx := look [] }
def A_s_l2In : An := { join := look [], loop := look [(0, ⟨[⟨5, .val, (.int .i64)⟩], [], [4, 5, 6, 7, 8, 9, 10, 11, 12, 13, 14, 15, 16]⟩)], ret := [⟨4, .val, .bool⟩] }
theorem c_s_l2In (N : Nat) : Ctr Tryz.prog Vp 191 ⟨[(.int .u8), .str], [.bool], s_l2In N⟩ := by
  have hE : EnvOK Tryz.prog (E_s_l2In N) := ⟨tabP_ok, (fun _ _ h => by cases h), (fun _ _ h => by cases h)⟩
  have h := fn_sound hE (by kernel_rfl) (N := N) (A := A_s_l2In) (pl := [⟨0, .val, (.int .u8)⟩, ⟨1, .val, .str⟩]) (fid := 191) (fn := Tryz.f191) (c := ((Tryz.f191.body).getD .skip)) ⟨Tryz.func191, by kernel_rfl, by kernel_rfl, by kernel_rfl, Nat.le_of_ble_eq_true (by kernel_rfl), by kernel_rfl, by kernel_rfl, Nat.le_of_ble_eq_true (by kernel_rfl), by kernel_rfl⟩
  have e : s_l2In N = evalF (E_s_l2In N) A_s_l2In N [⟨0, .val, (.int .u8)⟩, ⟨1, .val, .str⟩] ((Tryz.f191.body).getD .skip) := funext fun x => by kernel_rfl
  rw [e]
  exact h
noncomputable def E_s_l2Sign (N : Nat) : Cz := { tab := tabP, n := 17, V := Vp, ann := look [], fn := look [(155, (⟨[(.int .u8)], [.bool], s_l2Digit N⟩ : Fn)), (191, (⟨[(.int .u8), .str], [.bool], s_l2In N⟩ : Fn))], fx := look [] }
def A_s_l2Sign : An := { join := look [], loop := look [], ret := [⟨2, .val, .bool⟩] }
theorem c_s_l2Sign (N : Nat) : Ctr Tryz.prog Vp 156 ⟨[(.int .u8)], [.bool], s_l2Sign N⟩ := by
  have hE : EnvOK Tryz.prog (E_s_l2Sign N) := ⟨tabP_ok, look_all (Q := fun t s => Ctr Tryz.prog Vp t s) _ (by
    intro p hp
    simp only [List.mem_cons, List.not_mem_nil, or_false] at hp
    rcases hp with rfl | rfl
    · exact c_s_l2Digit N
    · exact c_s_l2In N), (fun _ _ h => by cases h)⟩
  have h := fn_sound hE (by kernel_rfl) (N := N) (A := A_s_l2Sign) (pl := [⟨0, .val, (.int .u8)⟩]) (fid := 156) (fn := Tryz.f156) (c := ((Tryz.f156.body).getD .skip)) ⟨Tryz.func156, by kernel_rfl, by kernel_rfl, by kernel_rfl, Nat.le_of_ble_eq_true (by kernel_rfl), by kernel_rfl, by kernel_rfl, Nat.le_of_ble_eq_true (by kernel_rfl), by kernel_rfl⟩
  have e : s_l2Sign N = evalF (E_s_l2Sign N) A_s_l2Sign N [⟨0, .val, (.int .u8)⟩] ((Tryz.f156.body).getD .skip) := funext fun x => by kernel_rfl
  rw [e]
  exact h
noncomputable def E_s_Dec (N : Nat) : Cz := { tab := tabP, n := 31, V := Vp, ann := look [(21, (.int .u8))], fn := look [], fx := look [] }
def A_s_Dec : An := { join := look [(15, ([⟨5, .val, (.int .i64)⟩], [5, 16, 17]))], loop := look [(0, ⟨[⟨0, .val, (.int .i64)⟩, ⟨3, .val, .str⟩], [⟨3, .val, .str⟩], [0, 3, 5, 10, 11, 12, 13, 14, 15, 16, 17, 18, 19, 20, 21, 22, 23, 24, 25, 26]⟩)], ret := [⟨2, .val, .str⟩] }
theorem c_s_Dec (N : Nat) : Ctr Tryz.prog Vp 192 ⟨[(.int .i64)], [.str], s_Dec N⟩ := by
  have hE : EnvOK Tryz.prog (E_s_Dec N) := ⟨tabP_ok, (fun _ _ h => by cases h), (fun _ _ h => by cases h)⟩
  have h := fn_sound hE (by kernel_rfl) (N := N) (A := A_s_Dec) (pl := [⟨0, .val, (.int .i64)⟩]) (fid := 192) (fn := Tryz.f192) (c := ((Tryz.f192.body).getD .skip)) ⟨Tryz.func192, by kernel_rfl, by kernel_rfl, by kernel_rfl, Nat.le_of_ble_eq_true (by kernel_rfl), by kernel_rfl, by kernel_rfl, Nat.le_of_ble_eq_true (by kernel_rfl), by kernel_rfl⟩
  have e : s_Dec N = evalF (E_s_Dec N) A_s_Dec N [⟨0, .val, (.int .i64)⟩] ((Tryz.f192.body).getD .skip) := funext fun x => by kernel_rfl
  rw [e]
  exact h
noncomputable def E_s_ReadDec (N : Nat) : Cz := { tab := tabP, n := 61, V := Vp, ann := look [], fn := look [(192, (⟨[(.int .i64)], [.str], s_Dec N⟩ : Fn))], fx := look [] }
def A_s_ReadDec : An := { join := look [(26, ([⟨4, .val, (.int .i64)⟩, ⟨5, .val, (.int .i64)⟩], [4, 5, 27, 28, 29, 30, 31, 32, 33, 34, 35, 36])), (44, ([⟨4, .val, (.int .i64)⟩], [4, 45, 46]))], loop := look [(0, ⟨[⟨4, .val, (.int .i64)⟩, ⟨5, .val, (.int .i64)⟩, ⟨6, .val, (.int .i64)⟩], [⟨4, .val, (.int .i64)⟩, ⟨5, .val, (.int .i64)⟩], [4, 5, 6, 7, 8, 9, 10, 11, 12, 13, 14, 15, 16, 17, 18, 19, 20, 21, 22, 23, 24, 25, 26, 27, 28, 29, 30, 31, 32, 33, 34, 35, 36]⟩)], ret := [⟨2, .val, (.int .i64)⟩, ⟨3, .val, .bool⟩] }
theorem c_s_ReadDec (N : Nat) : Ctr Tryz.prog Vp 157 ⟨[.str], [(.int .i64), .bool], s_ReadDec N⟩ := by
  have hE : EnvOK Tryz.prog (E_s_ReadDec N) := ⟨tabP_ok, look_all (Q := fun t s => Ctr Tryz.prog Vp t s) _ (by
    intro p hp
    simp only [List.mem_cons, List.not_mem_nil, or_false] at hp
    rcases hp with rfl
    · exact c_s_Dec N), (fun _ _ h => by cases h)⟩
  have h := fn_sound hE (by kernel_rfl) (N := N) (A := A_s_ReadDec) (pl := [⟨0, .val, .str⟩]) (fid := 157) (fn := Tryz.f157) (c := ((Tryz.f157.body).getD .skip)) ⟨Tryz.func157, by kernel_rfl, by kernel_rfl, by kernel_rfl, Nat.le_of_ble_eq_true (by kernel_rfl), by kernel_rfl, by kernel_rfl, Nat.le_of_ble_eq_true (by kernel_rfl), by kernel_rfl⟩
  have e : s_ReadDec N = evalF (E_s_ReadDec N) A_s_ReadDec N [⟨0, .val, .str⟩] ((Tryz.f157.body).getD .skip) := funext fun x => by kernel_rfl
  rw [e]
  exact h
noncomputable def E_s_l2Sym (N : Nat) : Cz := { tab := tabP, n := 33, V := Vp, ann := look [], fn := look [(114, (⟨[(.int .i64), (.int .i64), (.int .i64)], [.bool], s_l1In N⟩ : Fn)), (155, (⟨[(.int .u8)], [.bool], s_l2Digit N⟩ : Fn)), (156, (⟨[(.int .u8)], [.bool], s_l2Sign N⟩ : Fn)), (157, (⟨[.str], [(.int .i64), .bool], s_ReadDec N⟩ : Fn))], fx := look [] }
def A_s_l2Sym : An := { join := look [], loop := look [(0, ⟨[⟨3, .val, (.int .i64)⟩], [], [2, 3, 15, 16, 17, 18, 19, 20, 21, 22, 23, 24, 25]⟩)], ret := [⟨2, .val, .bool⟩] }
theorem c_s_l2Sym (N : Nat) : Ctr Tryz.prog Vp 115 ⟨[.str], [.bool], s_l2Sym N⟩ := by
  have hE : EnvOK Tryz.prog (E_s_l2Sym N) := ⟨tabP_ok, look_all (Q := fun t s => Ctr Tryz.prog Vp t s) _ (by
    intro p hp
    simp only [List.mem_cons, List.not_mem_nil, or_false] at hp
    rcases hp with rfl | rfl | rfl | rfl
    · exact c_s_l1In N
    · exact c_s_l2Digit N
    · exact c_s_l2Sign N
    · exact c_s_ReadDec N), (fun _ _ h => by cases h)⟩
  have h := fn_sound hE (by kernel_rfl) (N := N) (A := A_s_l2Sym) (pl := [⟨0, .val, .str⟩]) (fid := 115) (fn := Tryz.f115) (c := ((Tryz.f115.body).getD .skip)) ⟨Tryz.func115, by kernel_rfl, by kernel_rfl, by kernel_rfl, Nat.le_of_ble_eq_true (by kernel_rfl), by kernel_rfl, by kernel_rfl, Nat.le_of_ble_eq_true (by kernel_rfl), by kernel_rfl⟩
  have e : s_l2Sym N = evalF (E_s_l2Sym N) A_s_l2Sym N [⟨0, .val, .str⟩] ((Tryz.f115.body).getD .skip) := funext fun x => by kernel_rfl
  rw [e]
  exact h
noncomputable def E_s_l3In (N : Nat) : Cz := { tab := tabP, n := 18, V := Vp, ann := look [], fn := look [], fx := look [] }
def A_s_l3In : An := { join := look [], loop := look [(0, ⟨[⟨5, .val, (.int .i64)⟩], [], [4, 5, 6, 7, 8, 9, 10, 11, 12, 13, 14, 15, 16, 17]⟩)], ret := [⟨4, .val, .bool⟩] }
theorem c_s_l3In (N : Nat) : Ctr Tryz.prog Vp 78 ⟨[(.sl .lend .str), .str], [.bool], s_l3In N⟩ := by
  have hE : EnvOK Tryz.prog (E_s_l3In N) := ⟨tabP_ok, (fun _ _ h => by cases h), (fun _ _ h => by cases h)⟩
  have h := fn_sound hE (by kernel_rfl) (N := N) (A := A_s_l3In) (pl := [⟨0, .val, (.sl .lend .str)⟩, ⟨1, .val, .str⟩]) (fid := 78) (fn := Tryz.f78) (c := ((Tryz.f78.body).getD .skip)) ⟨Tryz.func78, by kernel_rfl, by kernel_rfl, by kernel_rfl, Nat.le_of_ble_eq_true (by kernel_rfl), by kernel_rfl, by kernel_rfl, Nat.le_of_ble_eq_true (by kernel_rfl), by kernel_rfl⟩
  have e : s_l3In N = evalF (E_s_l3In N) A_s_l3In N [⟨0, .val, (.sl .lend .str)⟩, ⟨1, .val, .str⟩] ((Tryz.f78.body).getD .skip) := funext fun x => by kernel_rfl
  rw [e]
  exact h
noncomputable def E_s_l3Word (N : Nat) : Cz := { tab := tabP, n := 6, V := Vp, ann := look [(3, .str)], fn := look [(78, (⟨[(.sl .lend .str), .str], [.bool], s_l3In N⟩ : Fn))], fx := look [] }
def A_s_l3Word : An := { join := look [], loop := look [], ret := [⟨2, .val, .bool⟩] }
theorem c_s_l3Word (N : Nat) : Ctr Tryz.prog Vp 158 ⟨[.str], [.bool], s_l3Word N⟩ := by
  have hE : EnvOK Tryz.prog (E_s_l3Word N) := ⟨tabP_ok, look_all (Q := fun t s => Ctr Tryz.prog Vp t s) _ (by
    intro p hp
    simp only [List.mem_cons, List.not_mem_nil, or_false] at hp
    rcases hp with rfl
    · exact c_s_l3In N), (fun _ _ h => by cases h)⟩
  have h := fn_sound hE (by kernel_rfl) (N := N) (A := A_s_l3Word) (pl := [⟨0, .val, .str⟩]) (fid := 158) (fn := Tryz.f158) (c := ((Tryz.f158.body).getD .skip)) ⟨Tryz.func158, by kernel_rfl, by kernel_rfl, by kernel_rfl, Nat.le_of_ble_eq_true (by kernel_rfl), by kernel_rfl, by kernel_rfl, Nat.le_of_ble_eq_true (by kernel_rfl), by kernel_rfl⟩
  have e : s_l3Word N = evalF (E_s_l3Word N) A_s_l3Word N [⟨0, .val, .str⟩] ((Tryz.f158.body).getD .skip) := funext fun x => by kernel_rfl
  rw [e]
  exact h
noncomputable def E_s_Arity (N : Nat) : Cz := { tab := tabP, n := 24, V := Vp, ann := look [], fn := look [], fx := look [] }
def A_s_Arity : An := { join := look [(4, ([⟨4, .val, .bool⟩], [4, 6, 7, 8, 9, 10, 11])), (12, ([⟨12, .val, .bool⟩], [12, 14, 15, 16, 17, 18, 19, 20, 21]))], loop := look [], ret := [⟨2, .val, (.int .i64)⟩] }
theorem c_s_Arity (N : Nat) : Ctr Tryz.prog Vp 159 ⟨[.str], [(.int .i64)], s_Arity N⟩ := by
  have hE : EnvOK Tryz.prog (E_s_Arity N) := ⟨tabP_ok, (fun _ _ h => by cases h), (fun _ _ h => by cases h)⟩
  have h := fn_sound hE (by kernel_rfl) (N := N) (A := A_s_Arity) (pl := [⟨0, .val, .str⟩]) (fid := 159) (fn := Tryz.f159) (c := ((Tryz.f159.body).getD .skip)) ⟨Tryz.func159, by kernel_rfl, by kernel_rfl, by kernel_rfl, Nat.le_of_ble_eq_true (by kernel_rfl), by kernel_rfl, by kernel_rfl, Nat.le_of_ble_eq_true (by kernel_rfl), by kernel_rfl⟩
  have e : s_Arity N = evalF (E_s_Arity N) A_s_Arity N [⟨0, .val, .str⟩] ((Tryz.f159.body).getD .skip) := funext fun x => by kernel_rfl
  rw [e]
  exact h
noncomputable def E_s_IsName (N : Nat) : Cz := { tab := tabP, n := 19, V := Vp, ann := look [], fn := look [(115, (⟨[.str], [.bool], s_l2Sym N⟩ : Fn)), (158, (⟨[.str], [.bool], s_l3Word N⟩ : Fn)), (159, (⟨[.str], [(.int .i64)], s_Arity N⟩ : Fn))], fx := look [] }
def A_s_IsName : An := { join := look [], loop := look [], ret := [⟨2, .val, .bool⟩] }
theorem c_s_IsName (N : Nat) : Ctr Tryz.prog Vp 118 ⟨[.str], [.bool], s_IsName N⟩ := by
  have hE : EnvOK Tryz.prog (E_s_IsName N) := ⟨tabP_ok, look_all (Q := fun t s => Ctr Tryz.prog Vp t s) _ (by
    intro p hp
    simp only [List.mem_cons, List.not_mem_nil, or_false] at hp
    rcases hp with rfl | rfl | rfl
    · exact c_s_l2Sym N
    · exact c_s_l3Word N
    · exact c_s_Arity N), (fun _ _ h => by cases h)⟩
  have h := fn_sound hE (by kernel_rfl) (N := N) (A := A_s_IsName) (pl := [⟨0, .val, .str⟩]) (fid := 118) (fn := Tryz.f118) (c := ((Tryz.f118.body).getD .skip)) ⟨Tryz.func118, by kernel_rfl, by kernel_rfl, by kernel_rfl, Nat.le_of_ble_eq_true (by kernel_rfl), by kernel_rfl, by kernel_rfl, Nat.le_of_ble_eq_true (by kernel_rfl), by kernel_rfl⟩
  have e : s_IsName N = evalF (E_s_IsName N) A_s_IsName N [⟨0, .val, .str⟩] ((Tryz.f118.body).getD .skip) := funext fun x => by kernel_rfl
  rw [e]
  exact h
noncomputable def E_s_l11Many (N : Nat) : Cz := { tab := tabP, n := 31, V := Vp, ann := look [], fn := look [], fx := look [] }
def A_s_l11Many : An := { join := look [], loop := look [], ret := [⟨2, .val, .bool⟩] }
theorem c_s_l11Many (N : Nat) : Ctr Tryz.prog Vp 124 ⟨[t51l], [.bool], s_l11Many N⟩ := by
  have hE : EnvOK Tryz.prog (E_s_l11Many N) := ⟨tabP_ok, (fun _ _ h => by cases h), (fun _ _ h => by cases h)⟩
  have h := fn_sound hE (by kernel_rfl) (N := N) (A := A_s_l11Many) (pl := [⟨0, .val, t51l⟩]) (fid := 124) (fn := Tryz.f124) (c := ((Tryz.f124.body).getD .skip)) ⟨Tryz.func124, by kernel_rfl, by kernel_rfl, by kernel_rfl, Nat.le_of_ble_eq_true (by kernel_rfl), by kernel_rfl, by kernel_rfl, Nat.le_of_ble_eq_true (by kernel_rfl), by kernel_rfl⟩
  have e : s_l11Many N = evalF (E_s_l11Many N) A_s_l11Many N [⟨0, .val, t51l⟩] ((Tryz.f124.body).getD .skip) := funext fun x => by kernel_rfl
  rw [e]
  exact h
noncomputable def E_s_l11TypeNames (N : Nat) : Cz := { tab := tabP, n := 21, V := Vp, ann := look [(18, .str), (19, .str)], fn := look [], fx := look [] }
def A_s_l11TypeNames : An := { join := look [], loop := look [(0, ⟨[⟨3, .own false, (.sl .own .str)⟩, ⟨4, .val, (.int .i64)⟩], [⟨3, .own false, (.sl .own .str)⟩], [3, 4, 6, 7, 8, 9, 10, 11, 12, 13, 14, 15, 16, 17, 18, 19]⟩)], ret := [⟨2, .own false, (.sl .own .str)⟩] }
theorem c_s_l11TypeNames (N : Nat) : Ctr Tryz.prog Vp 128 ⟨[(.sl .lend (.pair .str (.pair (.int .i64) .unit)))], [(.sl .own .str)], s_l11TypeNames N⟩ := by
  have hE : EnvOK Tryz.prog (E_s_l11TypeNames N) := ⟨tabP_ok, (fun _ _ h => by cases h), (fun _ _ h => by cases h)⟩
  have h := fn_sound hE (by kernel_rfl) (N := N) (A := A_s_l11TypeNames) (pl := [⟨0, .val, (.sl .lend (.pair .str (.pair (.int .i64) .unit)))⟩]) (fid := 128) (fn := Tryz.f128) (c := ((Tryz.f128.body).getD .skip)) ⟨Tryz.func128, by kernel_rfl, by kernel_rfl, by kernel_rfl, Nat.le_of_ble_eq_true (by kernel_rfl), by kernel_rfl, by kernel_rfl, Nat.le_of_ble_eq_true (by kernel_rfl), by kernel_rfl⟩
  have e : s_l11TypeNames N = evalF (E_s_l11TypeNames N) A_s_l11TypeNames N [⟨0, .val, (.sl .lend (.pair .str (.pair (.int .i64) .unit)))⟩] ((Tryz.f128.body).getD .skip) := funext fun x => by kernel_rfl
  rw [e]
  exact h
noncomputable def E_s_l11Twice (N : Nat) : Cz := { tab := tabP, n := 18, V := Vp, ann := look [], fn := look [(78, (⟨[(.sl .lend .str), .str], [.bool], s_l3In N⟩ : Fn))], fx := look [] }
def A_s_l11Twice : An := { join := look [], loop := look [(0, ⟨[⟨3, .val, (.int .i64)⟩], [], [2, 3, 4, 5, 6, 7, 8, 9, 10, 11, 12, 13, 14, 15, 16, 17]⟩)], ret := [⟨2, .val, .bool⟩] }
theorem c_s_l11Twice (N : Nat) : Ctr Tryz.prog Vp 161 ⟨[(.sl .lend .str)], [.bool], s_l11Twice N⟩ := by
  have hE : EnvOK Tryz.prog (E_s_l11Twice N) := ⟨tabP_ok, look_all (Q := fun t s => Ctr Tryz.prog Vp t s) _ (by
    intro p hp
    simp only [List.mem_cons, List.not_mem_nil, or_false] at hp
    rcases hp with rfl
    · exact c_s_l3In N), (fun _ _ h => by cases h)⟩
  have h := fn_sound hE (by kernel_rfl) (N := N) (A := A_s_l11Twice) (pl := [⟨0, .val, (.sl .lend .str)⟩]) (fid := 161) (fn := Tryz.f161) (c := ((Tryz.f161.body).getD .skip)) ⟨Tryz.func161, by kernel_rfl, by kernel_rfl, by kernel_rfl, Nat.le_of_ble_eq_true (by kernel_rfl), by kernel_rfl, by kernel_rfl, Nat.le_of_ble_eq_true (by kernel_rfl), by kernel_rfl⟩
  have e : s_l11Twice N = evalF (E_s_l11Twice N) A_s_l11Twice N [⟨0, .val, (.sl .lend .str)⟩] ((Tryz.f161.body).getD .skip) := funext fun x => by kernel_rfl
  rw [e]
  exact h
noncomputable def E_s_l11Dup (N : Nat) : Cz := { tab := tabP, n := 36, V := Vp, ann := look [], fn := look [(75, (⟨[(.sl .lend t159l)], [(.sl .own .str)], s_l11DefNames N⟩ : Fn)), (78, (⟨[(.sl .lend .str), .str], [.bool], s_l3In N⟩ : Fn)), (128, (⟨[(.sl .lend (.pair .str (.pair (.int .i64) .unit)))], [(.sl .own .str)], s_l11TypeNames N⟩ : Fn)), (161, (⟨[(.sl .lend .str)], [.bool], s_l11Twice N⟩ : Fn))], fx := look [] }
def A_s_l11Dup : An := { join := look [], loop := look [], ret := [⟨2, .val, .bool⟩] }
theorem c_s_l11Dup (N : Nat) : Ctr Tryz.prog Vp 125 ⟨[t51l], [.bool], s_l11Dup N⟩ := by
  have hE : EnvOK Tryz.prog (E_s_l11Dup N) := ⟨tabP_ok, look_all (Q := fun t s => Ctr Tryz.prog Vp t s) _ (by
    intro p hp
    simp only [List.mem_cons, List.not_mem_nil, or_false] at hp
    rcases hp with rfl | rfl | rfl | rfl
    · exact c_s_l11DefNames N
    · exact c_s_l3In N
    · exact c_s_l11TypeNames N
    · exact c_s_l11Twice N), (fun _ _ h => by cases h)⟩
  have h := fn_sound hE (by kernel_rfl) (N := N) (A := A_s_l11Dup) (pl := [⟨0, .val, t51l⟩]) (fid := 125) (fn := Tryz.f125) (c := ((Tryz.f125.body).getD .skip)) ⟨Tryz.func125, by kernel_rfl, by kernel_rfl, by kernel_rfl, Nat.le_of_ble_eq_true (by kernel_rfl), by kernel_rfl, by kernel_rfl, Nat.le_of_ble_eq_true (by kernel_rfl), by kernel_rfl⟩
  have e : s_l11Dup N = evalF (E_s_l11Dup N) A_s_l11Dup N [⟨0, .val, t51l⟩] ((Tryz.f125.body).getD .skip) := funext fun x => by kernel_rfl
  rw [e]
  exact h
noncomputable def E_s_l11Lacks (N : Nat) : Cz := { tab := tabP, n := 40, V := Vp, ann := look [], fn := look [(75, (⟨[(.sl .lend t159l)], [(.sl .own .str)], s_l11DefNames N⟩ : Fn)), (78, (⟨[(.sl .lend .str), .str], [.bool], s_l3In N⟩ : Fn)), (128, (⟨[(.sl .lend (.pair .str (.pair (.int .i64) .unit)))], [(.sl .own .str)], s_l11TypeNames N⟩ : Fn))], fx := look [] }
def A_s_l11Lacks : An := { join := look [], loop := look [(0, ⟨[⟨1, .box false, t51l⟩, ⟨3, .val, (.int .i64)⟩], [⟨1, .box false, t51l⟩], [2, 3, 5, 6, 7, 8, 9, 10, 11, 12, 13, 14, 15, 16, 17, 18, 19, 20, 21]⟩), (2, ⟨[⟨1, .box false, t51l⟩, ⟨4, .val, (.int .i64)⟩], [], [2, 4, 22, 23, 24, 25, 26, 27, 28, 29, 30, 31, 32, 33, 34, 35, 36, 37, 38, 39]⟩)], ret := [⟨2, .val, .bool⟩] }
theorem c_s_l11Lacks (N : Nat) : Ctr Tryz.prog Vp 126 ⟨[t51l], [.bool], s_l11Lacks N⟩ := by
  have hE : EnvOK Tryz.prog (E_s_l11Lacks N) := ⟨tabP_ok, look_all (Q := fun t s => Ctr Tryz.prog Vp t s) _ (by
    intro p hp
    simp only [List.mem_cons, List.not_mem_nil, or_false] at hp
    rcases hp with rfl | rfl | rfl
    · exact c_s_l11DefNames N
    · exact c_s_l3In N
    · exact c_s_l11TypeNames N), (fun _ _ h => by cases h)⟩
  have h := fn_sound hE (by kernel_rfl) (N := N) (A := A_s_l11Lacks) (pl := [⟨0, .val, t51l⟩]) (fid := 126) (fn := Tryz.f126) (c := ((Tryz.f126.body).getD .skip)) ⟨Tryz.func126, by kernel_rfl, by kernel_rfl, by kernel_rfl, Nat.le_of_ble_eq_true (by kernel_rfl), by kernel_rfl, by kernel_rfl, Nat.le_of_ble_eq_true (by kernel_rfl), by kernel_rfl⟩
  have e : s_l11Lacks N = evalF (E_s_l11Lacks N) A_s_l11Lacks N [⟨0, .val, t51l⟩] ((Tryz.f126.body).getD .skip) := funext fun x => by kernel_rfl
  rw [e]
  exact h
noncomputable def E_s_l11All (N : Nat) : Cz := { tab := tabP, n := 16, V := Vp, ann := look [], fn := look [(118, (⟨[.str], [.bool], s_IsName N⟩ : Fn))], fx := look [] }
def A_s_l11All : An := { join := look [], loop := look [(0, ⟨[⟨3, .val, (.int .i64)⟩], [], [2, 3, 4, 5, 6, 7, 8, 9, 10, 11, 12, 13, 14, 15]⟩)], ret := [⟨2, .val, .bool⟩] }
theorem c_s_l11All (N : Nat) : Ctr Tryz.prog Vp 127 ⟨[(.sl .lend .str)], [.bool], s_l11All N⟩ := by
  have hE : EnvOK Tryz.prog (E_s_l11All N) := ⟨tabP_ok, look_all (Q := fun t s => Ctr Tryz.prog Vp t s) _ (by
    intro p hp
    simp only [List.mem_cons, List.not_mem_nil, or_false] at hp
    rcases hp with rfl
    · exact c_s_IsName N), (fun _ _ h => by cases h)⟩
  have h := fn_sound hE (by kernel_rfl) (N := N) (A := A_s_l11All) (pl := [⟨0, .val, (.sl .lend .str)⟩]) (fid := 127) (fn := Tryz.f127) (c := ((Tryz.f127.body).getD .skip)) ⟨Tryz.func127, by kernel_rfl, by kernel_rfl, by kernel_rfl, Nat.le_of_ble_eq_true (by kernel_rfl), by kernel_rfl, by kernel_rfl, Nat.le_of_ble_eq_true (by kernel_rfl), by kernel_rfl⟩
  have e : s_l11All N = evalF (E_s_l11All N) A_s_l11All N [⟨0, .val, (.sl .lend .str)⟩] ((Tryz.f127.body).getD .skip) := funext fun x => by kernel_rfl
  rw [e]
  exact h
noncomputable def E_s_l3Names (N : Nat) : Cz := { tab := tabP, n := 32, V := Vp, ann := look [], fn := look [(78, (⟨[(.sl .lend .str), .str], [.bool], s_l3In N⟩ : Fn)), (118, (⟨[.str], [.bool], s_IsName N⟩ : Fn))], fx := look [] }
def A_s_l3Names : An := { join := look [], loop := look [(0, ⟨[⟨5, .val, (.int .i64)⟩], [], [4, 5, 10, 11, 12, 13, 14, 15, 16, 17, 18, 19, 20, 21, 22, 23, 24, 25, 26, 27, 28, 29, 30, 31]⟩)], ret := [⟨4, .val, .bool⟩] }
theorem c_s_l3Names (N : Nat) : Ctr Tryz.prog Vp 194 ⟨[(.sl .lend .str), (.int .i64)], [.bool], s_l3Names N⟩ := by
  have hE : EnvOK Tryz.prog (E_s_l3Names N) := ⟨tabP_ok, look_all (Q := fun t s => Ctr Tryz.prog Vp t s) _ (by
    intro p hp
    simp only [List.mem_cons, List.not_mem_nil, or_false] at hp
    rcases hp with rfl | rfl
    · exact c_s_l3In N
    · exact c_s_IsName N), (fun _ _ h => by cases h)⟩
  have h := fn_sound hE (by kernel_rfl) (N := N) (A := A_s_l3Names) (pl := [⟨0, .val, (.sl .lend .str)⟩, ⟨1, .val, (.int .i64)⟩]) (fid := 194) (fn := Tryz.f194) (c := ((Tryz.f194.body).getD .skip)) ⟨Tryz.func194, by kernel_rfl, by kernel_rfl, by kernel_rfl, Nat.le_of_ble_eq_true (by kernel_rfl), by kernel_rfl, by kernel_rfl, Nat.le_of_ble_eq_true (by kernel_rfl), by kernel_rfl⟩
  have e : s_l3Names N = evalF (E_s_l3Names N) A_s_l3Names N [⟨0, .val, (.sl .lend .str)⟩, ⟨1, .val, (.int .i64)⟩] ((Tryz.f194.body).getD .skip) := funext fun x => by kernel_rfl
  rw [e]
  exact h
noncomputable def E_s_l3Prim (N : Nat) : Cz := { tab := tabP, n := 91, V := Vp, ann := look [], fn := look [(114, (⟨[(.int .i64), (.int .i64), (.int .i64)], [.bool], s_l1In N⟩ : Fn)), (118, (⟨[.str], [.bool], s_IsName N⟩ : Fn)), (159, (⟨[.str], [(.int .i64)], s_Arity N⟩ : Fn))], fx := look [] }
def A_s_l3Prim : An := { join := look [], loop := look [], ret := [⟨2, .val, .bool⟩] }
theorem c_s_l3Prim (N : Nat) : Ctr Tryz.prog Vp 195 ⟨[t167l], [.bool], s_l3Prim N⟩ := by
  have hE : EnvOK Tryz.prog (E_s_l3Prim N) := ⟨tabP_ok, look_all (Q := fun t s => Ctr Tryz.prog Vp t s) _ (by
    intro p hp
    simp only [List.mem_cons, List.not_mem_nil, or_false] at hp
    rcases hp with rfl | rfl | rfl
    · exact c_s_l1In N
    · exact c_s_IsName N
    · exact c_s_Arity N), (fun _ _ h => by cases h)⟩
  have h := fn_sound hE (by kernel_rfl) (N := N) (A := A_s_l3Prim) (pl := [⟨0, .val, t167l⟩]) (fid := 195) (fn := Tryz.f195) (c := ((Tryz.f195.body).getD .skip)) ⟨Tryz.func195, by kernel_rfl, by kernel_rfl, by kernel_rfl, Nat.le_of_ble_eq_true (by kernel_rfl), by kernel_rfl, by kernel_rfl, Nat.le_of_ble_eq_true (by kernel_rfl), by kernel_rfl⟩
  have e : s_l3Prim N = evalF (E_s_l3Prim N) A_s_l3Prim N [⟨0, .val, t167l⟩] ((Tryz.f195.body).getD .skip) := funext fun x => by kernel_rfl
  rw [e]
  exact h
noncomputable def E_s_l3Node (N : Nat) : Cz := { tab := tabP, n := 190, V := Vp, ann := look [], fn := look [(114, (⟨[(.int .i64), (.int .i64), (.int .i64)], [.bool], s_l1In N⟩ : Fn)), (115, (⟨[.str], [.bool], s_l2Sym N⟩ : Fn)), (118, (⟨[.str], [.bool], s_IsName N⟩ : Fn)), (194, (⟨[(.sl .lend .str), (.int .i64)], [.bool], s_l3Names N⟩ : Fn)), (195, (⟨[t167l], [.bool], s_l3Prim N⟩ : Fn))], fx := look [] }
def A_s_l3Node : An := { join := look [], loop := look [], ret := [⟨2, .val, .bool⟩] }
theorem c_s_l3Node (N : Nat) : Ctr Tryz.prog Vp 162 ⟨[t167l], [.bool], s_l3Node N⟩ := by
  have hE : EnvOK Tryz.prog (E_s_l3Node N) := ⟨tabP_ok, look_all (Q := fun t s => Ctr Tryz.prog Vp t s) _ (by
    intro p hp
    simp only [List.mem_cons, List.not_mem_nil, or_false] at hp
    rcases hp with rfl | rfl | rfl | rfl | rfl
    · exact c_s_l1In N
    · exact c_s_l2Sym N
    · exact c_s_IsName N
    · exact c_s_l3Names N
    · exact c_s_l3Prim N), (fun _ _ h => by cases h)⟩
  have h := fn_sound hE (by kernel_rfl) (N := N) (A := A_s_l3Node) (pl := [⟨0, .val, t167l⟩]) (fid := 162) (fn := Tryz.f162) (c := ((Tryz.f162.body).getD .skip)) ⟨Tryz.func162, by kernel_rfl, by kernel_rfl, by kernel_rfl, Nat.le_of_ble_eq_true (by kernel_rfl), by kernel_rfl, by kernel_rfl, Nat.le_of_ble_eq_true (by kernel_rfl), by kernel_rfl⟩
  have e : s_l3Node N = evalF (E_s_l3Node N) A_s_l3Node N [⟨0, .val, t167l⟩] ((Tryz.f162.body).getD .skip) := funext fun x => by kernel_rfl
  rw [e]
  exact h
noncomputable def E_s_ProgOk (N : Nat) : Cz := { tab := tabP, n := 87, V := Vp, ann := look [(25, (.int .i64))], fn := look [(114, (⟨[(.int .i64), (.int .i64), (.int .i64)], [.bool], s_l1In N⟩ : Fn)), (162, (⟨[t167l], [.bool], s_l3Node N⟩ : Fn))], fx := look [] }
def A_s_ProgOk : An := { join := look [], loop := look [(2, ⟨[⟨1, .box false, t115l⟩, ⟨3, .own false, (.sl .own (.int .i64))⟩, ⟨5, .val, (.int .i64)⟩], [⟨1, .box false, t115l⟩, ⟨3, .own false, (.sl .own (.int .i64))⟩], [2, 5, 6, 40, 41, 42, 43, 44, 45, 46, 47, 48, 49, 50, 51, 52, 53, 54, 55, 56, 57, 58, 59, 60, 61, 62, 63, 64, 65, 66, 67, 68, 69, 70, 71, 72, 73, 74]⟩), (0, ⟨[⟨1, .box false, t115l⟩, ⟨3, .own false, (.sl .own (.int .i64))⟩, ⟨4, .val, (.int .i64)⟩], [⟨3, .own false, (.sl .own (.int .i64))⟩], [2, 4, 5, 6, 26, 27, 28, 29, 30, 31, 32, 33, 34, 35, 36, 37, 38, 39, 40, 41, 42, 43, 44, 45, 46, 47, 48, 49, 50, 51, 52, 53, 54, 55, 56, 57, 58, 59, 60, 61, 62, 63, 64, 65, 66, 67, 68, 69, 70, 71, 72, 73, 74]⟩), (4, ⟨[⟨3, .own false, (.sl .own (.int .i64))⟩, ⟨7, .val, (.int .i64)⟩], [], [2, 7, 75, 76, 77, 78, 79, 80, 81, 82, 83, 84, 85, 86]⟩)], ret := [⟨2, .val, .bool⟩] }
theorem c_s_ProgOk (N : Nat) : Ctr Tryz.prog Vp 129 ⟨[t115l], [.bool], s_ProgOk N⟩ := by
  have hE : EnvOK Tryz.prog (E_s_ProgOk N) := ⟨tabP_ok, look_all (Q := fun t s => Ctr Tryz.prog Vp t s) _ (by
    intro p hp
    simp only [List.mem_cons, List.not_mem_nil, or_false] at hp
    rcases hp with rfl | rfl
    · exact c_s_l1In N
    · exact c_s_l3Node N), (fun _ _ h => by cases h)⟩
  have h := fn_sound hE (by kernel_rfl) (N := N) (A := A_s_ProgOk) (pl := [⟨0, .val, t115l⟩]) (fid := 129) (fn := Tryz.f129) (c := ((Tryz.f129.body).getD .skip)) ⟨Tryz.func129, by kernel_rfl, by kernel_rfl, by kernel_rfl, Nat.le_of_ble_eq_true (by kernel_rfl), by kernel_rfl, by kernel_rfl, Nat.le_of_ble_eq_true (by kernel_rfl), by kernel_rfl⟩
  have e : s_ProgOk N = evalF (E_s_ProgOk N) A_s_ProgOk N [⟨0, .val, t115l⟩] ((Tryz.f129.body).getD .skip) := funext fun x => by kernel_rfl
  rw [e]
  exact h
noncomputable def E_s_SrcOk (N : Nat) : Cz := { tab := tabP, n := 100, V := Vp, ann := look [], fn := look [(75, (⟨[(.sl .lend t159l)], [(.sl .own .str)], s_l11DefNames N⟩ : Fn)), (114, (⟨[(.int .i64), (.int .i64), (.int .i64)], [.bool], s_l1In N⟩ : Fn)), (118, (⟨[.str], [.bool], s_IsName N⟩ : Fn)), (124, (⟨[t51l], [.bool], s_l11Many N⟩ : Fn)), (125, (⟨[t51l], [.bool], s_l11Dup N⟩ : Fn)), (126, (⟨[t51l], [.bool], s_l11Lacks N⟩ : Fn)), (127, (⟨[(.sl .lend .str)], [.bool], s_l11All N⟩ : Fn)), (128, (⟨[(.sl .lend (.pair .str (.pair (.int .i64) .unit)))], [(.sl .own .str)], s_l11TypeNames N⟩ : Fn)), (129, (⟨[t115l], [.bool], s_ProgOk N⟩ : Fn))], fx := look [] }
def A_s_SrcOk : An := { join := look [], loop := look [(0, ⟨[⟨1, .box false, t51l⟩, ⟨3, .val, (.int .i64)⟩], [⟨1, .box false, t51l⟩], [2, 3, 55, 56, 57, 58, 59, 60, 61, 62, 63, 64, 65, 66, 67, 68, 69]⟩), (2, ⟨[⟨1, .box false, t51l⟩, ⟨4, .val, (.int .i64)⟩], [⟨1, .box false, t51l⟩], [2, 4, 70, 71, 72, 73, 74, 75, 76, 77, 78, 79, 80, 81, 82, 83, 84]⟩), (4, ⟨[⟨1, .box false, t51l⟩, ⟨5, .val, (.int .i64)⟩], [], [2, 5, 85, 86, 87, 88, 89, 90, 91, 92, 93, 94, 95, 96, 97, 98, 99]⟩)], ret := [⟨2, .val, .bool⟩] }
theorem c_s_SrcOk (N : Nat) : Ctr Tryz.prog Vp 74 ⟨[t51l], [.bool], s_SrcOk N⟩ := by
  have hE : EnvOK Tryz.prog (E_s_SrcOk N) := ⟨tabP_ok, look_all (Q := fun t s => Ctr Tryz.prog Vp t s) _ (by
    intro p hp
    simp only [List.mem_cons, List.not_mem_nil, or_false] at hp
    rcases hp with rfl | rfl | rfl | rfl | rfl | rfl | rfl | rfl | rfl
    · exact c_s_l11DefNames N
    · exact c_s_l1In N
    · exact c_s_IsName N
    · exact c_s_l11Many N
    · exact c_s_l11Dup N
    · exact c_s_l11Lacks N
    · exact c_s_l11All N
    · exact c_s_l11TypeNames N
    · exact c_s_ProgOk N), (fun _ _ h => by cases h)⟩
  have h := fn_sound hE (by kernel_rfl) (N := N) (A := A_s_SrcOk) (pl := [⟨0, .val, t51l⟩]) (fid := 74) (fn := Tryz.f74) (c := ((Tryz.f74.body).getD .skip)) ⟨Tryz.func74, by kernel_rfl, by kernel_rfl, by kernel_rfl, Nat.le_of_ble_eq_true (by kernel_rfl), by kernel_rfl, by kernel_rfl, Nat.le_of_ble_eq_true (by kernel_rfl), by kernel_rfl⟩
  have e : s_SrcOk N = evalF (E_s_SrcOk N) A_s_SrcOk N [⟨0, .val, t51l⟩] ((Tryz.f74.body).getD .skip) := funext fun x => by kernel_rfl
  rw [e]
  exact h
noncomputable def E_s_l12At (N : Nat) : Cz := { tab := tabP, n := 20, V := Vp, ann := look [], fn := look [], fx := look [] }
def A_s_l12At : An := { join := look [], loop := look [(0, ⟨[⟨5, .val, (.int .i64)⟩], [], [4, 5, 6, 7, 8, 9, 10, 11, 12, 13, 14, 15, 16, 17, 18, 19]⟩)], ret := [⟨4, .val, (.int .i64)⟩] }
theorem c_s_l12At (N : Nat) : Ctr Tryz.prog Vp 89 ⟨[(.sl .lend t51l), .str], [(.int .i64)], s_l12At N⟩ := by
  have hE : EnvOK Tryz.prog (E_s_l12At N) := ⟨tabP_ok, (fun _ _ h => by cases h), (fun _ _ h => by cases h)⟩
  have h := fn_sound hE (by kernel_rfl) (N := N) (A := A_s_l12At) (pl := [⟨0, .val, (.sl .lend t51l)⟩, ⟨1, .val, .str⟩]) (fid := 89) (fn := Tryz.f89) (c := ((Tryz.f89.body).getD .skip)) ⟨Tryz.func89, by kernel_rfl, by kernel_rfl, by kernel_rfl, Nat.le_of_ble_eq_true (by kernel_rfl), by kernel_rfl, by kernel_rfl, Nat.le_of_ble_eq_true (by kernel_rfl), by kernel_rfl⟩
  have e : s_l12At N = evalF (E_s_l12At N) A_s_l12At N [⟨0, .val, (.sl .lend t51l)⟩, ⟨1, .val, .str⟩] ((Tryz.f89.body).getD .skip) := funext fun x => by kernel_rfl
  rw [e]
  exact h
noncomputable def E_s_l12Ok (N : Nat) : Cz := { tab := tabP, n := 50, V := Vp, ann := look [], fn := look [(74, (⟨[t51l], [.bool], s_SrcOk N⟩ : Fn)), (89, (⟨[(.sl .lend t51l), .str], [(.int .i64)], s_l12At N⟩ : Fn))], fx := look [] }
def A_s_l12Ok : An := { join := look [], loop := look [(2, ⟨[⟨4, .val, (.int .i64)⟩], [], [2, 4, 29, 30, 31, 32, 33, 34, 35, 36, 37, 38, 39, 40, 41, 42, 43, 44, 45, 46, 47, 48, 49]⟩), (0, ⟨[⟨3, .val, (.int .i64)⟩], [], [2, 3, 4, 5, 6, 7, 8, 9, 10, 11, 12, 13, 14, 15, 16, 17, 18, 19, 20, 21, 22, 23, 24, 25, 26, 27, 28, 29, 30, 31, 32, 33, 34, 35, 36, 37, 38, 39, 40, 41, 42, 43, 44, 45, 46, 47, 48, 49]⟩)], ret := [⟨2, .val, .bool⟩] }
theorem c_s_l12Ok (N : Nat) : Ctr Tryz.prog Vp 96 ⟨[(.sl .lend t51l)], [.bool], s_l12Ok N⟩ := by
  have hE : EnvOK Tryz.prog (E_s_l12Ok N) := ⟨tabP_ok, look_all (Q := fun t s => Ctr Tryz.prog Vp t s) _ (by
    intro p hp
    simp only [List.mem_cons, List.not_mem_nil, or_false] at hp
    rcases hp with rfl | rfl
    · exact c_s_SrcOk N
    · exact c_s_l12At N), (fun _ _ h => by cases h)⟩
  have h := fn_sound hE (by kernel_rfl) (N := N) (A := A_s_l12Ok) (pl := [⟨0, .val, (.sl .lend t51l)⟩]) (fid := 96) (fn := Tryz.f96) (c := ((Tryz.f96.body).getD .skip)) ⟨Tryz.func96, by kernel_rfl, by kernel_rfl, by kernel_rfl, Nat.le_of_ble_eq_true (by kernel_rfl), by kernel_rfl, by kernel_rfl, Nat.le_of_ble_eq_true (by kernel_rfl), by kernel_rfl⟩
  have e : s_l12Ok N = evalF (E_s_l12Ok N) A_s_l12Ok N [⟨0, .val, (.sl .lend t51l)⟩] ((Tryz.f96.body).getD .skip) := funext fun x => by kernel_rfl
  rw [e]
  exact h
noncomputable def E_s_l12All (N : Nat) : Cz := { tab := tabP, n := 19, V := Vp, ann := look [], fn := look [(78, (⟨[(.sl .lend .str), .str], [.bool], s_l3In N⟩ : Fn))], fx := look [] }
def A_s_l12All : An := { join := look [], loop := look [(0, ⟨[⟨5, .val, (.int .i64)⟩], [], [4, 5, 6, 7, 8, 9, 10, 11, 12, 13, 14, 15, 16, 17, 18]⟩)], ret := [⟨4, .val, .bool⟩] }
theorem c_s_l12All (N : Nat) : Ctr Tryz.prog Vp 88 ⟨[(.sl .lend .str), (.sl .lend .str)], [.bool], s_l12All N⟩ := by
  have hE : EnvOK Tryz.prog (E_s_l12All N) := ⟨tabP_ok, look_all (Q := fun t s => Ctr Tryz.prog Vp t s) _ (by
    intro p hp
    simp only [List.mem_cons, List.not_mem_nil, or_false] at hp
    rcases hp with rfl
    · exact c_s_l3In N), (fun _ _ h => by cases h)⟩
  have h := fn_sound hE (by kernel_rfl) (N := N) (A := A_s_l12All) (pl := [⟨0, .val, (.sl .lend .str)⟩, ⟨1, .val, (.sl .lend .str)⟩]) (fid := 88) (fn := Tryz.f88) (c := ((Tryz.f88.body).getD .skip)) ⟨Tryz.func88, by kernel_rfl, by kernel_rfl, by kernel_rfl, Nat.le_of_ble_eq_true (by kernel_rfl), by kernel_rfl, by kernel_rfl, Nat.le_of_ble_eq_true (by kernel_rfl), by kernel_rfl⟩
  have e : s_l12All N = evalF (E_s_l12All N) A_s_l12All N [⟨0, .val, (.sl .lend .str)⟩, ⟨1, .val, (.sl .lend .str)⟩] ((Tryz.f88.body).getD .skip) := funext fun x => by kernel_rfl
  rw [e]
  exact h
noncomputable def E_s_l12Order (N : Nat) : Cz := { tab := tabP, n := 56, V := Vp, ann := look [(53, .str), (54, .str)], fn := look [(78, (⟨[(.sl .lend .str), .str], [.bool], s_l3In N⟩ : Fn)), (88, (⟨[(.sl .lend .str), (.sl .lend .str)], [.bool], s_l12All N⟩ : Fn))], fx := look [] }
def A_s_l12Order : An := { join := look [(46, ([⟨4, .own false, (.sl .own .str)⟩, ⟨5, .val, .str⟩], [5, 47]))], loop := look [(2, ⟨[⟨4, .own false, (.sl .own .str)⟩, ⟨5, .val, .str⟩, ⟨6, .val, (.int .i64)⟩], [⟨4, .own false, (.sl .own .str)⟩, ⟨5, .val, .str⟩], [5, 6, 7, 14, 15, 16, 17, 18, 19, 20, 21, 22, 23, 24, 25, 26, 27, 28, 29, 30, 31, 32, 33, 34, 35, 36, 37, 38, 39, 40, 41, 42, 43, 44, 45, 46, 47]⟩), (0, ⟨[⟨4, .own false, (.sl .own .str)⟩], [⟨4, .own false, (.sl .own .str)⟩], [2, 3, 4, 5, 6, 7, 9, 10, 11, 12, 13, 14, 15, 16, 17, 18, 19, 20, 21, 22, 23, 24, 25, 26, 27, 28, 29, 30, 31, 32, 33, 34, 35, 36, 37, 38, 39, 40, 41, 42, 43, 44, 45, 46, 47, 48, 49, 50, 51, 52, 53, 54]⟩)], ret := [⟨2, .own false, (.sl .own .str)⟩, ⟨3, .val, .bool⟩] }
theorem c_s_l12Order (N : Nat) : CtrX Tryz.prog Vp 97 ⟨[.no], [(.sl .lend t51l)], [.val, .val], [(.sl .own .str), .bool], s_l12Order N⟩ := by
  have hE : EnvOK Tryz.prog (E_s_l12Order N) := ⟨tabP_ok, look_all (Q := fun t s => Ctr Tryz.prog Vp t s) _ (by
    intro p hp
    simp only [List.mem_cons, List.not_mem_nil, or_false] at hp
    rcases hp with rfl | rfl
    · exact c_s_l3In N
    · exact c_s_l12All N), (fun _ _ h => by cases h)⟩
  have h := fn_soundX hE (by kernel_rfl) (N := N) (A := A_s_l12Order) (pl := [⟨0, .val, (.sl .lend t51l)⟩]) (io := [.no]) (ks := [.val, .val]) (fid := 97) (fn := Tryz.f97) (c := ((Tryz.f97.body).getD .skip)) ⟨Tryz.func97, by kernel_rfl, by kernel_rfl, by kernel_rfl, by kernel_rfl, by kernel_rfl, Nat.le_of_ble_eq_true (by kernel_rfl), by kernel_rfl⟩
  have e : s_l12Order N = evalF (E_s_l12Order N) A_s_l12Order N [⟨0, .val, (.sl .lend t51l)⟩] ((Tryz.f97.body).getD .skip) := funext fun x => by kernel_rfl
  rw [e]
  exact h
noncomputable def E_s_Order (N : Nat) : Cz := { tab := tabP, n := 17, V := Vp, ann := look [], fn := look [(96, (⟨[(.sl .lend t51l)], [.bool], s_l12Ok N⟩ : Fn))], fx := look [(97, (⟨[.no], [(.sl .lend t51l)], [.val, .val], [(.sl .own .str), .bool], s_l12Order N⟩ : Fx))] }
def A_s_Order : An := { join := look [], loop := look [], ret := [⟨2, .own false, (.sl .own .str)⟩, ⟨3, .val, .bool⟩] }
theorem c_s_Order (N : Nat) : CtrX Tryz.prog Vp 44 ⟨[.no], [(.sl .lend t51l)], [.val, .val], [(.sl .own .str), .bool], s_Order N⟩ := by
  have hE : EnvOK Tryz.prog (E_s_Order N) := ⟨tabP_ok, look_all (Q := fun t s => Ctr Tryz.prog Vp t s) _ (by
    intro p hp
    simp only [List.mem_cons, List.not_mem_nil, or_false] at hp
    rcases hp with rfl
    · exact c_s_l12Ok N), look_all (Q := fun t s => CtrX Tryz.prog Vp t s) _ (by
    intro p hp
    simp only [List.mem_cons, List.not_mem_nil, or_false] at hp
    rcases hp with rfl
    · exact c_s_l12Order N)⟩
  have h := fn_soundX hE (by kernel_rfl) (N := N) (A := A_s_Order) (pl := [⟨0, .val, (.sl .lend t51l)⟩]) (io := [.no]) (ks := [.val, .val]) (fid := 44) (fn := Tryz.f44) (c := ((Tryz.f44.body).getD .skip)) ⟨Tryz.func44, by kernel_rfl, by kernel_rfl, by kernel_rfl, by kernel_rfl, by kernel_rfl, Nat.le_of_ble_eq_true (by kernel_rfl), by kernel_rfl⟩
  have e : s_Order N = evalF (E_s_Order N) A_s_Order N [⟨0, .val, (.sl .lend t51l)⟩] ((Tryz.f44.body).getD .skip) := funext fun x => by kernel_rfl
  rw [e]
  exact h
noncomputable def E_s_l12Put (N : Nat) : Cz := { tab := tabP, n := 47, V := Vp, ann := look [(31, .str), (32, .str), (38, .str), (44, .str)], fn := look [(78, (⟨[(.sl .lend .str), .str], [.bool], s_l3In N⟩ : Fn))], fx := look [] }
def A_s_l12Put : An := { join := look [(28, ([⟨0, .own false, (.sl .own .str)⟩, ⟨5, .own false, (.sl .own .str)⟩, ⟨6, .val, .bool⟩], [5, 6, 29, 30, 31, 32])), (41, ([⟨5, .own false, (.sl .own .str)⟩], [5, 42, 43, 44, 45]))], loop := look [(0, ⟨[⟨0, .own false, (.sl .own .str)⟩, ⟨5, .own false, (.sl .own .str)⟩, ⟨6, .val, .bool⟩, ⟨7, .val, (.int .i64)⟩], [⟨5, .own false, (.sl .own .str)⟩, ⟨6, .val, .bool⟩], [5, 6, 7, 13, 14, 15, 16, 17, 18, 19, 20, 21, 22, 23, 24, 25, 26, 27, 28, 29, 30, 31, 32, 33, 34, 35, 36, 37, 38, 39]⟩)], ret := [⟨4, .own false, (.sl .own .str)⟩] }
theorem c_s_l12Put (N : Nat) : Ctr Tryz.prog Vp 90 ⟨[(.sl .own .str), .str], [(.sl .own .str)], s_l12Put N⟩ := by
  have hE : EnvOK Tryz.prog (E_s_l12Put N) := ⟨tabP_ok, look_all (Q := fun t s => Ctr Tryz.prog Vp t s) _ (by
    intro p hp
    simp only [List.mem_cons, List.not_mem_nil, or_false] at hp
    rcases hp with rfl
    · exact c_s_l3In N), (fun _ _ h => by cases h)⟩
  have h := fn_sound hE (by kernel_rfl) (N := N) (A := A_s_l12Put) (pl := [⟨0, .own false, (.sl .own .str)⟩, ⟨1, .val, .str⟩]) (fid := 90) (fn := Tryz.f90) (c := ((Tryz.f90.body).getD .skip)) ⟨Tryz.func90, by kernel_rfl, by kernel_rfl, by kernel_rfl, Nat.le_of_ble_eq_true (by kernel_rfl), by kernel_rfl, by kernel_rfl, Nat.le_of_ble_eq_true (by kernel_rfl), by kernel_rfl⟩
  have e : s_l12Put N = evalF (E_s_l12Put N) A_s_l12Put N [⟨0, .own false, (.sl .own .str)⟩, ⟨1, .val, .str⟩] ((Tryz.f90.body).getD .skip) := funext fun x => by kernel_rfl
  rw [e]
  exact h
noncomputable def E_s_Levels (N : Nat) : Cz := { tab := tabP, n := 66, V := Vp, ann := look [(61, (.sl .own .str)), (64, .str)], fn := look [(78, (⟨[(.sl .lend .str), .str], [.bool], s_l3In N⟩ : Fn)), (88, (⟨[(.sl .lend .str), (.sl .lend .str)], [.bool], s_l12All N⟩ : Fn)), (89, (⟨[(.sl .lend t51l), .str], [(.int .i64)], s_l12At N⟩ : Fn)), (90, (⟨[(.sl .own .str), .str], [(.sl .own .str)], s_l12Put N⟩ : Fn))], fx := look [(44, (⟨[.no], [(.sl .lend t51l)], [.val, .val], [(.sl .own .str), .bool], s_Order N⟩ : Fx))] }
def A_s_Levels : An := { join := look [(51, ([⟨3, .own false, (.sl .own (.sl .own .str))⟩, ⟨4, .own false, (.sl .own .str)⟩, ⟨6, .own false, (.sl .own .str)⟩, ⟨7, .own false, (.sl .own .str)⟩], [7, 52, 53, 54, 55, 56, 57]))], loop := look [(2, ⟨[⟨3, .own false, (.sl .own (.sl .own .str))⟩, ⟨4, .own false, (.sl .own .str)⟩, ⟨6, .own false, (.sl .own .str)⟩, ⟨7, .own false, (.sl .own .str)⟩, ⟨8, .val, (.int .i64)⟩], [⟨3, .own false, (.sl .own (.sl .own .str))⟩, ⟨4, .own false, (.sl .own .str)⟩, ⟨6, .own false, (.sl .own .str)⟩, ⟨7, .own false, (.sl .own .str)⟩], [7, 8, 25, 26, 27, 28, 29, 30, 31, 32, 33, 34, 35, 36, 37, 38, 39, 40, 41, 42, 43, 44, 45, 46, 47, 48, 49, 50, 51, 52, 53, 54, 55, 56, 57]⟩), (0, ⟨[⟨3, .own false, (.sl .own (.sl .own .str))⟩, ⟨4, .own false, (.sl .own .str)⟩, ⟨6, .own false, (.sl .own .str)⟩], [⟨3, .own false, (.sl .own (.sl .own .str))⟩], [3, 6, 7, 8, 16, 17, 18, 19, 20, 21, 22, 23, 24, 25, 26, 27, 28, 29, 30, 31, 32, 33, 34, 35, 36, 37, 38, 39, 40, 41, 42, 43, 44, 45, 46, 47, 48, 49, 50, 51, 52, 53, 54, 55, 56, 57, 58, 59, 60, 61, 62, 63, 64]⟩)], ret := [⟨2, .own false, (.sl .own (.sl .own .str))⟩] }
theorem c_s_Levels (N : Nat) : Ctr Tryz.prog Vp 35 ⟨[(.sl .lend t51l)], [(.sl .own (.sl .own .str))], s_Levels N⟩ := by
  have hE : EnvOK Tryz.prog (E_s_Levels N) := ⟨tabP_ok, look_all (Q := fun t s => Ctr Tryz.prog Vp t s) _ (by
    intro p hp
    simp only [List.mem_cons, List.not_mem_nil, or_false] at hp
    rcases hp with rfl | rfl | rfl | rfl
    · exact c_s_l3In N
    · exact c_s_l12All N
    · exact c_s_l12At N
    · exact c_s_l12Put N), look_all (Q := fun t s => CtrX Tryz.prog Vp t s) _ (by
    intro p hp
    simp only [List.mem_cons, List.not_mem_nil, or_false] at hp
    rcases hp with rfl
    · exact c_s_Order N)⟩
  have h := fn_sound hE (by kernel_rfl) (N := N) (A := A_s_Levels) (pl := [⟨0, .val, (.sl .lend t51l)⟩]) (fid := 35) (fn := Tryz.f35) (c := ((Tryz.f35.body).getD .skip)) ⟨Tryz.func35, by kernel_rfl, by kernel_rfl, by kernel_rfl, Nat.le_of_ble_eq_true (by kernel_rfl), by kernel_rfl, by kernel_rfl, Nat.le_of_ble_eq_true (by kernel_rfl), by kernel_rfl⟩
  have e : s_Levels N = evalF (E_s_Levels N) A_s_Levels N [⟨0, .val, (.sl .lend t51l)⟩] ((Tryz.f35.body).getD .skip) := funext fun x => by kernel_rfl
  rw [e]
  exact h
noncomputable def E_l_toStringS (N : Nat) : Cz := { tab := tabP, n := 22, V := Vp, ann := look [(7, .str)], fn := look [], fx := look [] }
def A_l_toStringS : An := { join := look [], loop := look [(0, ⟨[⟨3, .own false, (.sl .own .str)⟩, ⟨4, .val, (.int .i64)⟩], [⟨3, .own false, (.sl .own .str)⟩], [4, 8, 9, 10, 11, 12, 13, 14, 15, 16, 17, 18, 19, 20]⟩)], ret := [⟨2, .own false, (.sl .own .str)⟩] }
theorem c_l_toStringS (N : Nat) : Ctr Tryz.prog Vp 79 ⟨[(.sl .lend .str)], [(.sl .own .str)], l_toStringS N⟩ := by
  have hE : EnvOK Tryz.prog (E_l_toStringS N) := ⟨tabP_ok, (fun _ _ h => by cases h), (fun _ _ h => by cases h)⟩
  have h := fn_sound hE (by kernel_rfl) (N := N) (A := A_l_toStringS) (pl := [⟨0, .val, (.sl .lend .str)⟩]) (fid := 79) (fn := Tryz.f79) (c := ((Tryz.f79.body).getD .skip)) ⟨Tryz.func79, by kernel_rfl, by kernel_rfl, by kernel_rfl, Nat.le_of_ble_eq_true (by kernel_rfl), by kernel_rfl, by kernel_rfl, Nat.le_of_ble_eq_true (by kernel_rfl), by kernel_rfl⟩
  have e : l_toStringS N = evalF (E_l_toStringS N) A_l_toStringS N [⟨0, .val, (.sl .lend .str)⟩] ((Tryz.f79.body).getD .skip) := funext fun x => by kernel_rfl
  rw [e]
  exact h
noncomputable def E_l_toType (N : Nat) : Cz := { tab := tabP, n := 11, V := Vp, ann := look [], fn := look [], fx := look [] }
def A_l_toType : An := { join := look [], loop := look [], ret := [⟨2, .box false, (.pair .str (.pair (.int .i64) .unit))⟩] }
theorem c_l_toType (N : Nat) : Ctr Tryz.prog Vp 130 ⟨[(.pair .str (.pair (.int .i64) .unit))], [(.pair .str (.pair (.int .i64) .unit))], l_toType N⟩ := by
  have hE : EnvOK Tryz.prog (E_l_toType N) := ⟨tabP_ok, (fun _ _ h => by cases h), (fun _ _ h => by cases h)⟩
  have h := fn_sound hE (by kernel_rfl) (N := N) (A := A_l_toType) (pl := [⟨0, .val, (.pair .str (.pair (.int .i64) .unit))⟩]) (fid := 130) (fn := Tryz.f130) (c := ((Tryz.f130.body).getD .skip)) ⟨Tryz.func130, by kernel_rfl, by kernel_rfl, by kernel_rfl, Nat.le_of_ble_eq_true (by kernel_rfl), by kernel_rfl, by kernel_rfl, Nat.le_of_ble_eq_true (by kernel_rfl), by kernel_rfl⟩
  have e : l_toType N = evalF (E_l_toType N) A_l_toType N [⟨0, .val, (.pair .str (.pair (.int .i64) .unit))⟩] ((Tryz.f130.body).getD .skip) := funext fun x => by kernel_rfl
  rw [e]
  exact h
noncomputable def E_l_toTypeS (N : Nat) : Cz := { tab := tabP, n := 23, V := Vp, ann := look [(7, (.pair .str (.pair (.int .i64) .unit)))], fn := look [(130, (⟨[(.pair .str (.pair (.int .i64) .unit))], [(.pair .str (.pair (.int .i64) .unit))], l_toType N⟩ : Fn))], fx := look [] }
def A_l_toTypeS : An := { join := look [], loop := look [(0, ⟨[⟨3, .own false, (.sl .own (.pair .str (.pair (.int .i64) .unit)))⟩, ⟨4, .val, (.int .i64)⟩], [⟨3, .own false, (.sl .own (.pair .str (.pair (.int .i64) .unit)))⟩], [4, 8, 9, 10, 11, 12, 13, 14, 15, 16, 17, 18, 19, 20, 21]⟩)], ret := [⟨2, .own false, (.sl .own (.pair .str (.pair (.int .i64) .unit)))⟩] }
theorem c_l_toTypeS (N : Nat) : Ctr Tryz.prog Vp 80 ⟨[(.sl .lend (.pair .str (.pair (.int .i64) .unit)))], [(.sl .own (.pair .str (.pair (.int .i64) .unit)))], l_toTypeS N⟩ := by
  have hE : EnvOK Tryz.prog (E_l_toTypeS N) := ⟨tabP_ok, look_all (Q := fun t s => Ctr Tryz.prog Vp t s) _ (by
    intro p hp
    simp only [List.mem_cons, List.not_mem_nil, or_false] at hp
    rcases hp with rfl
    · exact c_l_toType N), (fun _ _ h => by cases h)⟩
  have h := fn_sound hE (by kernel_rfl) (N := N) (A := A_l_toTypeS) (pl := [⟨0, .val, (.sl .lend (.pair .str (.pair (.int .i64) .unit)))⟩]) (fid := 80) (fn := Tryz.f80) (c := ((Tryz.f80.body).getD .skip)) ⟨Tryz.func80, by kernel_rfl, by kernel_rfl, by kernel_rfl, Nat.le_of_ble_eq_true (by kernel_rfl), by kernel_rfl, by kernel_rfl, Nat.le_of_ble_eq_true (by kernel_rfl), by kernel_rfl⟩
  have e : l_toTypeS N = evalF (E_l_toTypeS N) A_l_toTypeS N [⟨0, .val, (.sl .lend (.pair .str (.pair (.int .i64) .unit)))⟩] ((Tryz.f80.body).getD .skip) := funext fun x => by kernel_rfl
  rw [e]
  exact h
noncomputable def E_l_toIntS (N : Nat) : Cz := { tab := tabP, n := 22, V := Vp, ann := look [(7, (.int .i64))], fn := look [], fx := look [] }
def A_l_toIntS : An := { join := look [], loop := look [(0, ⟨[⟨3, .own false, (.sl .own (.int .i64))⟩, ⟨4, .val, (.int .i64)⟩], [⟨3, .own false, (.sl .own (.int .i64))⟩], [4, 8, 9, 10, 11, 12, 13, 14, 15, 16, 17, 18, 19, 20]⟩)], ret := [⟨2, .own false, (.sl .own (.int .i64))⟩] }
theorem c_l_toIntS (N : Nat) : Ctr Tryz.prog Vp 239 ⟨[(.sl .lend (.int .i64))], [(.sl .own (.int .i64))], l_toIntS N⟩ := by
  have hE : EnvOK Tryz.prog (E_l_toIntS N) := ⟨tabP_ok, (fun _ _ h => by cases h), (fun _ _ h => by cases h)⟩
  have h := fn_sound hE (by kernel_rfl) (N := N) (A := A_l_toIntS) (pl := [⟨0, .val, (.sl .lend (.int .i64))⟩]) (fid := 239) (fn := Tryz.f239) (c := ((Tryz.f239.body).getD .skip)) ⟨Tryz.func239, by kernel_rfl, by kernel_rfl, by kernel_rfl, Nat.le_of_ble_eq_true (by kernel_rfl), by kernel_rfl, by kernel_rfl, Nat.le_of_ble_eq_true (by kernel_rfl), by kernel_rfl⟩
  have e : l_toIntS N = evalF (E_l_toIntS N) A_l_toIntS N [⟨0, .val, (.sl .lend (.int .i64))⟩] ((Tryz.f239.body).getD .skip) := funext fun x => by kernel_rfl
  rw [e]
  exact h
noncomputable def E_l_toNode (N : Nat) : Cz := { tab := tabP, n := 22, V := Vp, ann := look [], fn := look [(79, (⟨[(.sl .lend .str)], [(.sl .own .str)], l_toStringS N⟩ : Fn)), (239, (⟨[(.sl .lend (.int .i64))], [(.sl .own (.int .i64))], l_toIntS N⟩ : Fn))], fx := look [] }
def A_l_toNode : An := { join := look [], loop := look [], ret := [⟨2, .box false, t167o⟩] }
theorem c_l_toNode (N : Nat) : Ctr Tryz.prog Vp 217 ⟨[t167l], [t167o], l_toNode N⟩ := by
  have hE : EnvOK Tryz.prog (E_l_toNode N) := ⟨tabP_ok, look_all (Q := fun t s => Ctr Tryz.prog Vp t s) _ (by
    intro p hp
    simp only [List.mem_cons, List.not_mem_nil, or_false] at hp
    rcases hp with rfl | rfl
    · exact c_l_toStringS N
    · exact c_l_toIntS N), (fun _ _ h => by cases h)⟩
  have h := fn_sound hE (by kernel_rfl) (N := N) (A := A_l_toNode) (pl := [⟨0, .val, t167l⟩]) (fid := 217) (fn := Tryz.f217) (c := ((Tryz.f217.body).getD .skip)) ⟨Tryz.func217, by kernel_rfl, by kernel_rfl, by kernel_rfl, Nat.le_of_ble_eq_true (by kernel_rfl), by kernel_rfl, by kernel_rfl, Nat.le_of_ble_eq_true (by kernel_rfl), by kernel_rfl⟩
  have e : l_toNode N = evalF (E_l_toNode N) A_l_toNode N [⟨0, .val, t167l⟩] ((Tryz.f217.body).getD .skip) := funext fun x => by kernel_rfl
  rw [e]
  exact h
noncomputable def E_l_toNodeS (N : Nat) : Cz := { tab := tabP, n := 23, V := Vp, ann := look [(7, t167o)], fn := look [(217, (⟨[t167l], [t167o], l_toNode N⟩ : Fn))], fx := look [] }
def A_l_toNodeS : An := { join := look [], loop := look [(0, ⟨[⟨3, .own false, (.sl .own t167o)⟩, ⟨4, .val, (.int .i64)⟩], [⟨3, .own false, (.sl .own t167o)⟩], [4, 8, 9, 10, 11, 12, 13, 14, 15, 16, 17, 18, 19, 20, 21]⟩)], ret := [⟨2, .own false, (.sl .own t167o)⟩] }
theorem c_l_toNodeS (N : Nat) : Ctr Tryz.prog Vp 196 ⟨[(.sl .lend t167l)], [(.sl .own t167o)], l_toNodeS N⟩ := by
  have hE : EnvOK Tryz.prog (E_l_toNodeS N) := ⟨tabP_ok, look_all (Q := fun t s => Ctr Tryz.prog Vp t s) _ (by
    intro p hp
    simp only [List.mem_cons, List.not_mem_nil, or_false] at hp
    rcases hp with rfl
    · exact c_l_toNode N), (fun _ _ h => by cases h)⟩
  have h := fn_sound hE (by kernel_rfl) (N := N) (A := A_l_toNodeS) (pl := [⟨0, .val, (.sl .lend t167l)⟩]) (fid := 196) (fn := Tryz.f196) (c := ((Tryz.f196.body).getD .skip)) ⟨Tryz.func196, by kernel_rfl, by kernel_rfl, by kernel_rfl, Nat.le_of_ble_eq_true (by kernel_rfl), by kernel_rfl, by kernel_rfl, Nat.le_of_ble_eq_true (by kernel_rfl), by kernel_rfl⟩
  have e : l_toNodeS N = evalF (E_l_toNodeS N) A_l_toNodeS N [⟨0, .val, (.sl .lend t167l)⟩] ((Tryz.f196.body).getD .skip) := funext fun x => by kernel_rfl
  rw [e]
  exact h
noncomputable def E_l_toProg (N : Nat) : Cz := { tab := tabP, n := 12, V := Vp, ann := look [], fn := look [(196, (⟨[(.sl .lend t167l)], [(.sl .own t167o)], l_toNodeS N⟩ : Fn))], fx := look [] }
def A_l_toProg : An := { join := look [], loop := look [], ret := [⟨2, .box false, t115o⟩] }
theorem c_l_toProg (N : Nat) : Ctr Tryz.prog Vp 163 ⟨[t115l], [t115o], l_toProg N⟩ := by
  have hE : EnvOK Tryz.prog (E_l_toProg N) := ⟨tabP_ok, look_all (Q := fun t s => Ctr Tryz.prog Vp t s) _ (by
    intro p hp
    simp only [List.mem_cons, List.not_mem_nil, or_false] at hp
    rcases hp with rfl
    · exact c_l_toNodeS N), (fun _ _ h => by cases h)⟩
  have h := fn_sound hE (by kernel_rfl) (N := N) (A := A_l_toProg) (pl := [⟨0, .val, t115l⟩]) (fid := 163) (fn := Tryz.f163) (c := ((Tryz.f163.body).getD .skip)) ⟨Tryz.func163, by kernel_rfl, by kernel_rfl, by kernel_rfl, Nat.le_of_ble_eq_true (by kernel_rfl), by kernel_rfl, by kernel_rfl, Nat.le_of_ble_eq_true (by kernel_rfl), by kernel_rfl⟩
  have e : l_toProg N = evalF (E_l_toProg N) A_l_toProg N [⟨0, .val, t115l⟩] ((Tryz.f163.body).getD .skip) := funext fun x => by kernel_rfl
  rw [e]
  exact h
noncomputable def E_l_toDef (N : Nat) : Cz := { tab := tabP, n := 12, V := Vp, ann := look [], fn := look [(163, (⟨[t115l], [t115o], l_toProg N⟩ : Fn))], fx := look [] }
def A_l_toDef : An := { join := look [], loop := look [], ret := [⟨2, .box false, t159o⟩] }
theorem c_l_toDef (N : Nat) : Ctr Tryz.prog Vp 131 ⟨[t159l], [t159o], l_toDef N⟩ := by
  have hE : EnvOK Tryz.prog (E_l_toDef N) := ⟨tabP_ok, look_all (Q := fun t s => Ctr Tryz.prog Vp t s) _ (by
    intro p hp
    simp only [List.mem_cons, List.not_mem_nil, or_false] at hp
    rcases hp with rfl
    · exact c_l_toProg N), (fun _ _ h => by cases h)⟩
  have h := fn_sound hE (by kernel_rfl) (N := N) (A := A_l_toDef) (pl := [⟨0, .val, t159l⟩]) (fid := 131) (fn := Tryz.f131) (c := ((Tryz.f131.body).getD .skip)) ⟨Tryz.func131, by kernel_rfl, by kernel_rfl, by kernel_rfl, Nat.le_of_ble_eq_true (by kernel_rfl), by kernel_rfl, by kernel_rfl, Nat.le_of_ble_eq_true (by kernel_rfl), by kernel_rfl⟩
  have e : l_toDef N = evalF (E_l_toDef N) A_l_toDef N [⟨0, .val, t159l⟩] ((Tryz.f131.body).getD .skip) := funext fun x => by kernel_rfl
  rw [e]
  exact h
noncomputable def E_l_toDefS (N : Nat) : Cz := { tab := tabP, n := 23, V := Vp, ann := look [(7, t159o)], fn := look [(131, (⟨[t159l], [t159o], l_toDef N⟩ : Fn))], fx := look [] }
def A_l_toDefS : An := { join := look [], loop := look [(0, ⟨[⟨3, .own false, (.sl .own t159o)⟩, ⟨4, .val, (.int .i64)⟩], [⟨3, .own false, (.sl .own t159o)⟩], [4, 8, 9, 10, 11, 12, 13, 14, 15, 16, 17, 18, 19, 20, 21]⟩)], ret := [⟨2, .own false, (.sl .own t159o)⟩] }
theorem c_l_toDefS (N : Nat) : Ctr Tryz.prog Vp 81 ⟨[(.sl .lend t159l)], [(.sl .own t159o)], l_toDefS N⟩ := by
  have hE : EnvOK Tryz.prog (E_l_toDefS N) := ⟨tabP_ok, look_all (Q := fun t s => Ctr Tryz.prog Vp t s) _ (by
    intro p hp
    simp only [List.mem_cons, List.not_mem_nil, or_false] at hp
    rcases hp with rfl
    · exact c_l_toDef N), (fun _ _ h => by cases h)⟩
  have h := fn_sound hE (by kernel_rfl) (N := N) (A := A_l_toDefS) (pl := [⟨0, .val, (.sl .lend t159l)⟩]) (fid := 81) (fn := Tryz.f81) (c := ((Tryz.f81.body).getD .skip)) ⟨Tryz.func81, by kernel_rfl, by kernel_rfl, by kernel_rfl, Nat.le_of_ble_eq_true (by kernel_rfl), by kernel_rfl, by kernel_rfl, Nat.le_of_ble_eq_true (by kernel_rfl), by kernel_rfl⟩
  have e : l_toDefS N = evalF (E_l_toDefS N) A_l_toDefS N [⟨0, .val, (.sl .lend t159l)⟩] ((Tryz.f81.body).getD .skip) := funext fun x => by kernel_rfl
  rw [e]
  exact h
noncomputable def E_l_toSrc (N : Nat) : Cz := { tab := tabP, n := 28, V := Vp, ann := look [], fn := look [(79, (⟨[(.sl .lend .str)], [(.sl .own .str)], l_toStringS N⟩ : Fn)), (80, (⟨[(.sl .lend (.pair .str (.pair (.int .i64) .unit)))], [(.sl .own (.pair .str (.pair (.int .i64) .unit)))], l_toTypeS N⟩ : Fn)), (81, (⟨[(.sl .lend t159l)], [(.sl .own t159o)], l_toDefS N⟩ : Fn))], fx := look [] }
def A_l_toSrc : An := { join := look [], loop := look [], ret := [⟨2, .box false, t51o⟩] }
theorem c_l_toSrc (N : Nat) : Ctr Tryz.prog Vp 27 ⟨[t51l], [t51o], l_toSrc N⟩ := by
  have hE : EnvOK Tryz.prog (E_l_toSrc N) := ⟨tabP_ok, look_all (Q := fun t s => Ctr Tryz.prog Vp t s) _ (by
    intro p hp
    simp only [List.mem_cons, List.not_mem_nil, or_false] at hp
    rcases hp with rfl | rfl | rfl
    · exact c_l_toStringS N
    · exact c_l_toTypeS N
    · exact c_l_toDefS N), (fun _ _ h => by cases h)⟩
  have h := fn_sound hE (by kernel_rfl) (N := N) (A := A_l_toSrc) (pl := [⟨0, .val, t51l⟩]) (fid := 27) (fn := Tryz.f27) (c := ((Tryz.f27.body).getD .skip)) ⟨Tryz.func27, by kernel_rfl, by kernel_rfl, by kernel_rfl, Nat.le_of_ble_eq_true (by kernel_rfl), by kernel_rfl, by kernel_rfl, Nat.le_of_ble_eq_true (by kernel_rfl), by kernel_rfl⟩
  have e : l_toSrc N = evalF (E_l_toSrc N) A_l_toSrc N [⟨0, .val, t51l⟩] ((Tryz.f27.body).getD .skip) := funext fun x => by kernel_rfl
  rw [e]
  exact h
noncomputable def E_l_toSrcS (N : Nat) : Cz := { tab := tabP, n := 23, V := Vp, ann := look [(7, t51o)], fn := look [(27, (⟨[t51l], [t51o], l_toSrc N⟩ : Fn))], fx := look [] }
def A_l_toSrcS : An := { join := look [], loop := look [(0, ⟨[⟨3, .own false, (.sl .own t51o)⟩, ⟨4, .val, (.int .i64)⟩], [⟨3, .own false, (.sl .own t51o)⟩], [4, 8, 9, 10, 11, 12, 13, 14, 15, 16, 17, 18, 19, 20, 21]⟩)], ret := [⟨2, .own false, (.sl .own t51o)⟩] }
theorem c_l_toSrcS (N : Nat) : Ctr Tryz.prog Vp 36 ⟨[(.sl .lend t51l)], [(.sl .own t51o)], l_toSrcS N⟩ := by
  have hE : EnvOK Tryz.prog (E_l_toSrcS N) := ⟨tabP_ok, look_all (Q := fun t s => Ctr Tryz.prog Vp t s) _ (by
    intro p hp
    simp only [List.mem_cons, List.not_mem_nil, or_false] at hp
    rcases hp with rfl
    · exact c_l_toSrc N), (fun _ _ h => by cases h)⟩
  have h := fn_sound hE (by kernel_rfl) (N := N) (A := A_l_toSrcS) (pl := [⟨0, .val, (.sl .lend t51l)⟩]) (fid := 36) (fn := Tryz.f36) (c := ((Tryz.f36.body).getD .skip)) ⟨Tryz.func36, by kernel_rfl, by kernel_rfl, by kernel_rfl, Nat.le_of_ble_eq_true (by kernel_rfl), by kernel_rfl, by kernel_rfl, Nat.le_of_ble_eq_true (by kernel_rfl), by kernel_rfl⟩
  have e : l_toSrcS N = evalF (E_l_toSrcS N) A_l_toSrcS N [⟨0, .val, (.sl .lend t51l)⟩] ((Tryz.f36.body).getD .skip) := funext fun x => by kernel_rfl
  rw [e]
  exact h
noncomputable def E_i_isSymByte (N : Nat) : Cz := { tab := tabP, n := 22, V := Vp, ann := look [], fn := look [(187, (⟨[.str, (.int .u8)], [(.int .i64)], g_strings_IndexByte N⟩ : Fn))], fx := look [] }
def A_i_isSymByte : An := { join := look [], loop := look [], ret := [⟨2, .val, .bool⟩] }
theorem c_i_isSymByte (N : Nat) : Ctr Tryz.prog Vp 153 ⟨[(.int .u8)], [.bool], i_isSymByte N⟩ := by
  have hE : EnvOK Tryz.prog (E_i_isSymByte N) := ⟨tabP_ok, look_all (Q := fun t s => Ctr Tryz.prog Vp t s) _ (by
    intro p hp
    simp only [List.mem_cons, List.not_mem_nil, or_false] at hp
    rcases hp with rfl
    · exact c_g_strings_IndexByte N), (fun _ _ h => by cases h)⟩
  have h := fn_sound hE (by kernel_rfl) (N := N) (A := A_i_isSymByte) (pl := [⟨0, .val, (.int .u8)⟩]) (fid := 153) (fn := Tryz.f153) (c := ((Tryz.f153.body).getD .skip)) ⟨Tryz.func153, by kernel_rfl, by kernel_rfl, by kernel_rfl, Nat.le_of_ble_eq_true (by kernel_rfl), by kernel_rfl, by kernel_rfl, Nat.le_of_ble_eq_true (by kernel_rfl), by kernel_rfl⟩
  have e : i_isSymByte N = evalF (E_i_isSymByte N) A_i_isSymByte N [⟨0, .val, (.int .u8)⟩] ((Tryz.f153.body).getD .skip) := funext fun x => by kernel_rfl
  rw [e]
  exact h
noncomputable def E_i_symOk (N : Nat) : Cz := { tab := tabP, n := 38, V := Vp, ann := look [], fn := look [(107, (⟨[(.int .i64), (.int .i64), (.int .i64)], [.bool], i_inRange N⟩ : Fn)), (153, (⟨[(.int .u8)], [.bool], i_isSymByte N⟩ : Fn)), (154, (⟨[.str], [(.int .i64), .bool], i_ReadDec N⟩ : Fn))], fx := look [] }
def A_i_symOk : An := { join := look [], loop := look [(0, ⟨[⟨3, .val, (.int .i64)⟩], [], [2, 3, 6, 7, 8, 9, 10, 11, 12, 13, 14, 15, 16]⟩)], ret := [⟨2, .val, .bool⟩] }
theorem c_i_symOk (N : Nat) : Ctr Tryz.prog Vp 108 ⟨[.str], [.bool], i_symOk N⟩ := by
  have hE : EnvOK Tryz.prog (E_i_symOk N) := ⟨tabP_ok, look_all (Q := fun t s => Ctr Tryz.prog Vp t s) _ (by
    intro p hp
    simp only [List.mem_cons, List.not_mem_nil, or_false] at hp
    rcases hp with rfl | rfl | rfl
    · exact c_i_inRange N
    · exact c_i_isSymByte N
    · exact c_i_ReadDec N), (fun _ _ h => by cases h)⟩
  have h := fn_sound hE (by kernel_rfl) (N := N) (A := A_i_symOk) (pl := [⟨0, .val, .str⟩]) (fid := 108) (fn := Tryz.f108) (c := ((Tryz.f108.body).getD .skip)) ⟨Tryz.func108, by kernel_rfl, by kernel_rfl, by kernel_rfl, Nat.le_of_ble_eq_true (by kernel_rfl), by kernel_rfl, by kernel_rfl, Nat.le_of_ble_eq_true (by kernel_rfl), by kernel_rfl⟩
  have e : i_symOk N = evalF (E_i_symOk N) A_i_symOk N [⟨0, .val, .str⟩] ((Tryz.f108.body).getD .skip) := funext fun x => by kernel_rfl
  rw [e]
  exact h
noncomputable def E_i_isOneOf (N : Nat) : Cz := { tab := tabP, n := 21, V := Vp, ann := look [], fn := look [(197, (⟨[.str, .str], [.bool], g_strings_Contains N⟩ : Fn))], fx := look [] }
def A_i_isOneOf : An := { join := look [], loop := look [], ret := [⟨4, .val, .bool⟩] }
theorem c_i_isOneOf (N : Nat) : Ctr Tryz.prog Vp 164 ⟨[.str, .str], [.bool], i_isOneOf N⟩ := by
  have hE : EnvOK Tryz.prog (E_i_isOneOf N) := ⟨tabP_ok, look_all (Q := fun t s => Ctr Tryz.prog Vp t s) _ (by
    intro p hp
    simp only [List.mem_cons, List.not_mem_nil, or_false] at hp
    rcases hp with rfl
    · exact c_g_strings_Contains N), (fun _ _ h => by cases h)⟩
  have h := fn_sound hE (by kernel_rfl) (N := N) (A := A_i_isOneOf) (pl := [⟨0, .val, .str⟩, ⟨1, .val, .str⟩]) (fid := 164) (fn := Tryz.f164) (c := ((Tryz.f164.body).getD .skip)) ⟨Tryz.func164, by kernel_rfl, by kernel_rfl, by kernel_rfl, Nat.le_of_ble_eq_true (by kernel_rfl), by kernel_rfl, by kernel_rfl, Nat.le_of_ble_eq_true (by kernel_rfl), by kernel_rfl⟩
  have e : i_isOneOf N = evalF (E_i_isOneOf N) A_i_isOneOf N [⟨0, .val, .str⟩, ⟨1, .val, .str⟩] ((Tryz.f164.body).getD .skip) := funext fun x => by kernel_rfl
  rw [e]
  exact h
noncomputable def E_i_Arity (N : Nat) : Cz := { tab := tabP, n := 12, V := Vp, ann := look [], fn := look [(164, (⟨[.str, .str], [.bool], i_isOneOf N⟩ : Fn))], fx := look [] }
def A_i_Arity : An := { join := look [], loop := look [], ret := [⟨2, .val, (.int .i64)⟩] }
theorem c_i_Arity (N : Nat) : Ctr Tryz.prog Vp 165 ⟨[.str], [(.int .i64)], i_Arity N⟩ := by
  have hE : EnvOK Tryz.prog (E_i_Arity N) := ⟨tabP_ok, look_all (Q := fun t s => Ctr Tryz.prog Vp t s) _ (by
    intro p hp
    simp only [List.mem_cons, List.not_mem_nil, or_false] at hp
    rcases hp with rfl
    · exact c_i_isOneOf N), (fun _ _ h => by cases h)⟩
  have h := fn_sound hE (by kernel_rfl) (N := N) (A := A_i_Arity) (pl := [⟨0, .val, .str⟩]) (fid := 165) (fn := Tryz.f165) (c := ((Tryz.f165.body).getD .skip)) ⟨Tryz.func165, by kernel_rfl, by kernel_rfl, by kernel_rfl, Nat.le_of_ble_eq_true (by kernel_rfl), by kernel_rfl, by kernel_rfl, Nat.le_of_ble_eq_true (by kernel_rfl), by kernel_rfl⟩
  have e : i_Arity N = evalF (E_i_Arity N) A_i_Arity N [⟨0, .val, .str⟩] ((Tryz.f165.body).getD .skip) := funext fun x => by kernel_rfl
  rw [e]
  exact h
noncomputable def E_i_IsName (N : Nat) : Cz := { tab := tabP, n := 17, V := Vp, ann := look [], fn := look [(108, (⟨[.str], [.bool], i_symOk N⟩ : Fn)), (164, (⟨[.str, .str], [.bool], i_isOneOf N⟩ : Fn)), (165, (⟨[.str], [(.int .i64)], i_Arity N⟩ : Fn))], fx := look [] }
def A_i_IsName : An := { join := look [], loop := look [], ret := [⟨2, .val, .bool⟩] }
theorem c_i_IsName (N : Nat) : Ctr Tryz.prog Vp 132 ⟨[.str], [.bool], i_IsName N⟩ := by
  have hE : EnvOK Tryz.prog (E_i_IsName N) := ⟨tabP_ok, look_all (Q := fun t s => Ctr Tryz.prog Vp t s) _ (by
    intro p hp
    simp only [List.mem_cons, List.not_mem_nil, or_false] at hp
    rcases hp with rfl | rfl | rfl
    · exact c_i_symOk N
    · exact c_i_isOneOf N
    · exact c_i_Arity N), (fun _ _ h => by cases h)⟩
  have h := fn_sound hE (by kernel_rfl) (N := N) (A := A_i_IsName) (pl := [⟨0, .val, .str⟩]) (fid := 132) (fn := Tryz.f132) (c := ((Tryz.f132.body).getD .skip)) ⟨Tryz.func132, by kernel_rfl, by kernel_rfl, by kernel_rfl, Nat.le_of_ble_eq_true (by kernel_rfl), by kernel_rfl, by kernel_rfl, Nat.le_of_ble_eq_true (by kernel_rfl), by kernel_rfl⟩
  have e : i_IsName N = evalF (E_i_IsName N) A_i_IsName N [⟨0, .val, .str⟩] ((Tryz.f132.body).getD .skip) := funext fun x => by kernel_rfl
  rw [e]
  exact h
noncomputable def E_i_Src_isFew (N : Nat) : Cz := { tab := tabP, n := 41, V := Vp, ann := look [], fn := look [], fx := look [] }
def A_i_Src_isFew : An := { join := look [], loop := look [], ret := [⟨2, .val, .bool⟩] }
theorem c_i_Src_isFew (N : Nat) : CtrX Tryz.prog Vp 133 ⟨[.look], [t51l], [.val], [.bool], i_Src_isFew N⟩ := by
  have hE : EnvOK Tryz.prog (E_i_Src_isFew N) := ⟨tabP_ok, (fun _ _ h => by cases h), (fun _ _ h => by cases h)⟩
  have h := fn_soundX hE (by kernel_rfl) (N := N) (A := A_i_Src_isFew) (pl := [⟨0, .look, t51l⟩]) (io := [.look]) (ks := [.val]) (fid := 133) (fn := Tryz.f133) (c := ((Tryz.f133.body).getD .skip)) ⟨Tryz.func133, by kernel_rfl, by kernel_rfl, by kernel_rfl, by kernel_rfl, by kernel_rfl, Nat.le_of_ble_eq_true (by kernel_rfl), by kernel_rfl⟩
  have e : i_Src_isFew N = evalF (E_i_Src_isFew N) A_i_Src_isFew N [⟨0, .look, t51l⟩] ((Tryz.f133.body).getD .skip) := funext fun x => by kernel_rfl
  rw [e]
  exact h
noncomputable def E_g_slices_Index_string_string_ (N : Nat) : Cz := { tab := tabP, n := 19, V := Vp, ann := look [], fn := look [], fx := look [] }
def A_g_slices_Index_string_string_ : An := { join := look [], loop := look [(0, ⟨[⟨8, .val, (.int .i64)⟩], [], [4, 5, 8, 9, 10, 11, 12, 13, 14, 15, 16, 17, 18]⟩)], ret := [⟨4, .val, (.int .i64)⟩] }
theorem c_g_slices_Index_string_string_ (N : Nat) : Ctr Tryz.prog Vp 148 ⟨[(.sl .lend .str), .str], [(.int .i64)], g_slices_Index_string_string_ N⟩ := by
  have hE : EnvOK Tryz.prog (E_g_slices_Index_string_string_ N) := ⟨tabP_ok, (fun _ _ h => by cases h), (fun _ _ h => by cases h)⟩
  have h := fn_sound hE (by kernel_rfl) (N := N) (A := A_g_slices_Index_string_string_) (pl := [⟨0, .val, (.sl .lend .str)⟩, ⟨1, .val, .str⟩]) (fid := 148) (fn := Tryz.f148) (c := ((Tryz.f148.body).getD .skip)) ⟨Tryz.func148, by kernel_rfl, by kernel_rfl, by kernel_rfl, Nat.le_of_ble_eq_true (by kernel_rfl), by kernel_rfl, by kernel_rfl, Nat.le_of_ble_eq_true (by kernel_rfl), by kernel_rfl⟩
  have e : g_slices_Index_string_string_ N = evalF (E_g_slices_Index_string_string_ N) A_g_slices_Index_string_string_ N [⟨0, .val, (.sl .lend .str)⟩, ⟨1, .val, .str⟩] ((Tryz.f148.body).getD .skip) := funext fun x => by kernel_rfl
  rw [e]
  exact h
noncomputable def E_g_slices_Contains_string_string_ (N : Nat) : Cz := { tab := tabP, n := 9, V := Vp, ann := look [], fn := look [(148, (⟨[(.sl .lend .str), .str], [(.int .i64)], g_slices_Index_string_string_ N⟩ : Fn))], fx := look [] }
def A_g_slices_Contains_string_string_ : An := { join := look [], loop := look [], ret := [⟨4, .val, .bool⟩] }
theorem c_g_slices_Contains_string_string_ (N : Nat) : Ctr Tryz.prog Vp 92 ⟨[(.sl .lend .str), .str], [.bool], g_slices_Contains_string_string_ N⟩ := by
  have hE : EnvOK Tryz.prog (E_g_slices_Contains_string_string_ N) := ⟨tabP_ok, look_all (Q := fun t s => Ctr Tryz.prog Vp t s) _ (by
    intro p hp
    simp only [List.mem_cons, List.not_mem_nil, or_false] at hp
    rcases hp with rfl
    · exact c_g_slices_Index_string_string_ N), (fun _ _ h => by cases h)⟩
  have h := fn_sound hE (by kernel_rfl) (N := N) (A := A_g_slices_Contains_string_string_) (pl := [⟨0, .val, (.sl .lend .str)⟩, ⟨1, .val, .str⟩]) (fid := 92) (fn := Tryz.f92) (c := ((Tryz.f92.body).getD .skip)) ⟨Tryz.func92, by kernel_rfl, by kernel_rfl, by kernel_rfl, Nat.le_of_ble_eq_true (by kernel_rfl), by kernel_rfl, by kernel_rfl, Nat.le_of_ble_eq_true (by kernel_rfl), by kernel_rfl⟩
  have e : g_slices_Contains_string_string_ N = evalF (E_g_slices_Contains_string_string_ N) A_g_slices_Contains_string_string_ N [⟨0, .val, (.sl .lend .str)⟩, ⟨1, .val, .str⟩] ((Tryz.f92.body).getD .skip) := funext fun x => by kernel_rfl
  rw [e]
  exact h
noncomputable def E_i_namesOfDefs (N : Nat) : Cz := { tab := tabP, n := 19, V := Vp, ann := look [(15, .str), (16, .str)], fn := look [], fx := look [] }
def A_i_namesOfDefs : An := { join := look [], loop := look [(0, ⟨[⟨3, .own false, (.sl .own .str)⟩, ⟨8, .val, (.int .i64)⟩], [⟨3, .own false, (.sl .own .str)⟩], [3, 5, 8, 9, 10, 11, 12, 13, 14, 15, 16, 17]⟩)], ret := [⟨2, .own false, (.sl .own .str)⟩] }
theorem c_i_namesOfDefs (N : Nat) : Ctr Tryz.prog Vp 137 ⟨[(.sl .lend t159l)], [(.sl .own .str)], i_namesOfDefs N⟩ := by
  have hE : EnvOK Tryz.prog (E_i_namesOfDefs N) := ⟨tabP_ok, (fun _ _ h => by cases h), (fun _ _ h => by cases h)⟩
  have h := fn_sound hE (by kernel_rfl) (N := N) (A := A_i_namesOfDefs) (pl := [⟨0, .val, (.sl .lend t159l)⟩]) (fid := 137) (fn := Tryz.f137) (c := ((Tryz.f137.body).getD .skip)) ⟨Tryz.func137, by kernel_rfl, by kernel_rfl, by kernel_rfl, Nat.le_of_ble_eq_true (by kernel_rfl), by kernel_rfl, by kernel_rfl, Nat.le_of_ble_eq_true (by kernel_rfl), by kernel_rfl⟩
  have e : i_namesOfDefs N = evalF (E_i_namesOfDefs N) A_i_namesOfDefs N [⟨0, .val, (.sl .lend t159l)⟩] ((Tryz.f137.body).getD .skip) := funext fun x => by kernel_rfl
  rw [e]
  exact h
noncomputable def E_i_isOnce (N : Nat) : Cz := { tab := tabP, n := 18, V := Vp, ann := look [], fn := look [(148, (⟨[(.sl .lend .str), .str], [(.int .i64)], g_slices_Index_string_string_ N⟩ : Fn))], fx := look [] }
def A_i_isOnce : An := { join := look [], loop := look [(0, ⟨[⟨7, .val, (.int .i64)⟩], [], [2, 3, 4, 7, 8, 9, 10, 11, 12, 13, 14, 15, 16, 17]⟩)], ret := [⟨2, .val, .bool⟩] }
theorem c_i_isOnce (N : Nat) : Ctr Tryz.prog Vp 146 ⟨[(.sl .lend .str)], [.bool], i_isOnce N⟩ := by
  have hE : EnvOK Tryz.prog (E_i_isOnce N) := ⟨tabP_ok, look_all (Q := fun t s => Ctr Tryz.prog Vp t s) _ (by
    intro p hp
    simp only [List.mem_cons, List.not_mem_nil, or_false] at hp
    rcases hp with rfl
    · exact c_g_slices_Index_string_string_ N), (fun _ _ h => by cases h)⟩
  have h := fn_sound hE (by kernel_rfl) (N := N) (A := A_i_isOnce) (pl := [⟨0, .val, (.sl .lend .str)⟩]) (fid := 146) (fn := Tryz.f146) (c := ((Tryz.f146.body).getD .skip)) ⟨Tryz.func146, by kernel_rfl, by kernel_rfl, by kernel_rfl, Nat.le_of_ble_eq_true (by kernel_rfl), by kernel_rfl, by kernel_rfl, Nat.le_of_ble_eq_true (by kernel_rfl), by kernel_rfl⟩
  have e : i_isOnce N = evalF (E_i_isOnce N) A_i_isOnce N [⟨0, .val, (.sl .lend .str)⟩] ((Tryz.f146.body).getD .skip) := funext fun x => by kernel_rfl
  rw [e]
  exact h
noncomputable def E_i_namesOfTypes (N : Nat) : Cz := { tab := tabP, n := 19, V := Vp, ann := look [(15, .str), (16, .str)], fn := look [], fx := look [] }
def A_i_namesOfTypes : An := { join := look [], loop := look [(0, ⟨[⟨3, .own false, (.sl .own .str)⟩, ⟨8, .val, (.int .i64)⟩], [⟨3, .own false, (.sl .own .str)⟩], [3, 5, 8, 9, 10, 11, 12, 13, 14, 15, 16, 17]⟩)], ret := [⟨2, .own false, (.sl .own .str)⟩] }
theorem c_i_namesOfTypes (N : Nat) : Ctr Tryz.prog Vp 166 ⟨[(.sl .lend (.pair .str (.pair (.int .i64) .unit)))], [(.sl .own .str)], i_namesOfTypes N⟩ := by
  have hE : EnvOK Tryz.prog (E_i_namesOfTypes N) := ⟨tabP_ok, (fun _ _ h => by cases h), (fun _ _ h => by cases h)⟩
  have h := fn_sound hE (by kernel_rfl) (N := N) (A := A_i_namesOfTypes) (pl := [⟨0, .val, (.sl .lend (.pair .str (.pair (.int .i64) .unit)))⟩]) (fid := 166) (fn := Tryz.f166) (c := ((Tryz.f166.body).getD .skip)) ⟨Tryz.func166, by kernel_rfl, by kernel_rfl, by kernel_rfl, Nat.le_of_ble_eq_true (by kernel_rfl), by kernel_rfl, by kernel_rfl, Nat.le_of_ble_eq_true (by kernel_rfl), by kernel_rfl⟩
  have e : i_namesOfTypes N = evalF (E_i_namesOfTypes N) A_i_namesOfTypes N [⟨0, .val, (.sl .lend (.pair .str (.pair (.int .i64) .unit)))⟩] ((Tryz.f166.body).getD .skip) := funext fun x => by kernel_rfl
  rw [e]
  exact h
noncomputable def E_i_Src_isUnlike (N : Nat) : Cz := { tab := tabP, n := 51, V := Vp, ann := look [], fn := look [(92, (⟨[(.sl .lend .str), .str], [.bool], g_slices_Contains_string_string_ N⟩ : Fn)), (137, (⟨[(.sl .lend t159l)], [(.sl .own .str)], i_namesOfDefs N⟩ : Fn)), (146, (⟨[(.sl .lend .str)], [.bool], i_isOnce N⟩ : Fn)), (166, (⟨[(.sl .lend (.pair .str (.pair (.int .i64) .unit)))], [(.sl .own .str)], i_namesOfTypes N⟩ : Fn))], fx := look [] }
def A_i_Src_isUnlike : An := { join := look [], loop := look [], ret := [⟨2, .val, .bool⟩] }
theorem c_i_Src_isUnlike (N : Nat) : CtrX Tryz.prog Vp 134 ⟨[.look], [t51l], [.val], [.bool], i_Src_isUnlike N⟩ := by
  have hE : EnvOK Tryz.prog (E_i_Src_isUnlike N) := ⟨tabP_ok, look_all (Q := fun t s => Ctr Tryz.prog Vp t s) _ (by
    intro p hp
    simp only [List.mem_cons, List.not_mem_nil, or_false] at hp
    rcases hp with rfl | rfl | rfl | rfl
    · exact c_g_slices_Contains_string_string_ N
    · exact c_i_namesOfDefs N
    · exact c_i_isOnce N
    · exact c_i_namesOfTypes N), (fun _ _ h => by cases h)⟩
  have h := fn_soundX hE (by kernel_rfl) (N := N) (A := A_i_Src_isUnlike) (pl := [⟨0, .look, t51l⟩]) (io := [.look]) (ks := [.val]) (fid := 134) (fn := Tryz.f134) (c := ((Tryz.f134.body).getD .skip)) ⟨Tryz.func134, by kernel_rfl, by kernel_rfl, by kernel_rfl, by kernel_rfl, by kernel_rfl, Nat.le_of_ble_eq_true (by kernel_rfl), by kernel_rfl⟩
  have e : i_Src_isUnlike N = evalF (E_i_Src_isUnlike N) A_i_Src_isUnlike N [⟨0, .look, t51l⟩] ((Tryz.f134.body).getD .skip) := funext fun x => by kernel_rfl
  rw [e]
  exact h
noncomputable def E_i_areIn (N : Nat) : Cz := { tab := tabP, n := 18, V := Vp, ann := look [], fn := look [(92, (⟨[(.sl .lend .str), .str], [.bool], g_slices_Contains_string_string_ N⟩ : Fn))], fx := look [] }
def A_i_areIn : An := { join := look [], loop := look [(0, ⟨[⟨9, .val, (.int .i64)⟩], [], [4, 6, 9, 10, 11, 12, 13, 14, 15, 16, 17]⟩)], ret := [⟨4, .val, .bool⟩] }
theorem c_i_areIn (N : Nat) : Ctr Tryz.prog Vp 93 ⟨[(.sl .lend .str), (.sl .lend .str)], [.bool], i_areIn N⟩ := by
  have hE : EnvOK Tryz.prog (E_i_areIn N) := ⟨tabP_ok, look_all (Q := fun t s => Ctr Tryz.prog Vp t s) _ (by
    intro p hp
    simp only [List.mem_cons, List.not_mem_nil, or_false] at hp
    rcases hp with rfl
    · exact c_g_slices_Contains_string_string_ N), (fun _ _ h => by cases h)⟩
  have h := fn_sound hE (by kernel_rfl) (N := N) (A := A_i_areIn) (pl := [⟨0, .val, (.sl .lend .str)⟩, ⟨1, .val, (.sl .lend .str)⟩]) (fid := 93) (fn := Tryz.f93) (c := ((Tryz.f93.body).getD .skip)) ⟨Tryz.func93, by kernel_rfl, by kernel_rfl, by kernel_rfl, Nat.le_of_ble_eq_true (by kernel_rfl), by kernel_rfl, by kernel_rfl, Nat.le_of_ble_eq_true (by kernel_rfl), by kernel_rfl⟩
  have e : i_areIn N = evalF (E_i_areIn N) A_i_areIn N [⟨0, .val, (.sl .lend .str)⟩, ⟨1, .val, (.sl .lend .str)⟩] ((Tryz.f93.body).getD .skip) := funext fun x => by kernel_rfl
  rw [e]
  exact h
noncomputable def E_i_Src_isFit (N : Nat) : Cz := { tab := tabP, n := 26, V := Vp, ann := look [], fn := look [(93, (⟨[(.sl .lend .str), (.sl .lend .str)], [.bool], i_areIn N⟩ : Fn)), (137, (⟨[(.sl .lend t159l)], [(.sl .own .str)], i_namesOfDefs N⟩ : Fn)), (166, (⟨[(.sl .lend (.pair .str (.pair (.int .i64) .unit)))], [(.sl .own .str)], i_namesOfTypes N⟩ : Fn))], fx := look [] }
def A_i_Src_isFit : An := { join := look [], loop := look [], ret := [⟨2, .val, .bool⟩] }
theorem c_i_Src_isFit (N : Nat) : CtrX Tryz.prog Vp 135 ⟨[.look], [t51l], [.val], [.bool], i_Src_isFit N⟩ := by
  have hE : EnvOK Tryz.prog (E_i_Src_isFit N) := ⟨tabP_ok, look_all (Q := fun t s => Ctr Tryz.prog Vp t s) _ (by
    intro p hp
    simp only [List.mem_cons, List.not_mem_nil, or_false] at hp
    rcases hp with rfl | rfl | rfl
    · exact c_i_areIn N
    · exact c_i_namesOfDefs N
    · exact c_i_namesOfTypes N), (fun _ _ h => by cases h)⟩
  have h := fn_soundX hE (by kernel_rfl) (N := N) (A := A_i_Src_isFit) (pl := [⟨0, .look, t51l⟩]) (io := [.look]) (ks := [.val]) (fid := 135) (fn := Tryz.f135) (c := ((Tryz.f135.body).getD .skip)) ⟨Tryz.func135, by kernel_rfl, by kernel_rfl, by kernel_rfl, by kernel_rfl, by kernel_rfl, Nat.le_of_ble_eq_true (by kernel_rfl), by kernel_rfl⟩
  have e : i_Src_isFit N = evalF (E_i_Src_isFit N) A_i_Src_isFit N [⟨0, .look, t51l⟩] ((Tryz.f135.body).getD .skip) := funext fun x => by kernel_rfl
  rw [e]
  exact h
noncomputable def E_i_allNames (N : Nat) : Cz := { tab := tabP, n := 15, V := Vp, ann := look [], fn := look [(132, (⟨[.str], [.bool], i_IsName N⟩ : Fn))], fx := look [] }
def A_i_allNames : An := { join := look [], loop := look [(0, ⟨[⟨7, .val, (.int .i64)⟩], [], [2, 4, 7, 8, 9, 10, 11, 12, 13, 14]⟩)], ret := [⟨2, .val, .bool⟩] }
theorem c_i_allNames (N : Nat) : Ctr Tryz.prog Vp 136 ⟨[(.sl .lend .str)], [.bool], i_allNames N⟩ := by
  have hE : EnvOK Tryz.prog (E_i_allNames N) := ⟨tabP_ok, look_all (Q := fun t s => Ctr Tryz.prog Vp t s) _ (by
    intro p hp
    simp only [List.mem_cons, List.not_mem_nil, or_false] at hp
    rcases hp with rfl
    · exact c_i_IsName N), (fun _ _ h => by cases h)⟩
  have h := fn_sound hE (by kernel_rfl) (N := N) (A := A_i_allNames) (pl := [⟨0, .val, (.sl .lend .str)⟩]) (fid := 136) (fn := Tryz.f136) (c := ((Tryz.f136.body).getD .skip)) ⟨Tryz.func136, by kernel_rfl, by kernel_rfl, by kernel_rfl, Nat.le_of_ble_eq_true (by kernel_rfl), by kernel_rfl, by kernel_rfl, Nat.le_of_ble_eq_true (by kernel_rfl), by kernel_rfl⟩
  have e : i_allNames N = evalF (E_i_allNames N) A_i_allNames N [⟨0, .val, (.sl .lend .str)⟩] ((Tryz.f136.body).getD .skip) := funext fun x => by kernel_rfl
  rw [e]
  exact h
noncomputable def E_i_namesOk (N : Nat) : Cz := { tab := tabP, n := 29, V := Vp, ann := look [], fn := look [(132, (⟨[.str], [.bool], i_IsName N⟩ : Fn)), (148, (⟨[(.sl .lend .str), .str], [(.int .i64)], g_slices_Index_string_string_ N⟩ : Fn))], fx := look [] }
def A_i_namesOk : An := { join := look [], loop := look [(0, ⟨[⟨9, .val, (.int .i64)⟩], [], [4, 5, 6, 9, 10, 11, 12, 13, 14, 15, 16, 17, 18, 19, 20, 21, 22, 23, 24]⟩)], ret := [⟨4, .val, .bool⟩] }
theorem c_i_namesOk (N : Nat) : Ctr Tryz.prog Vp 167 ⟨[(.sl .lend .str), (.int .i64)], [.bool], i_namesOk N⟩ := by
  have hE : EnvOK Tryz.prog (E_i_namesOk N) := ⟨tabP_ok, look_all (Q := fun t s => Ctr Tryz.prog Vp t s) _ (by
    intro p hp
    simp only [List.mem_cons, List.not_mem_nil, or_false] at hp
    rcases hp with rfl | rfl
    · exact c_i_IsName N
    · exact c_g_slices_Index_string_string_ N), (fun _ _ h => by cases h)⟩
  have h := fn_sound hE (by kernel_rfl) (N := N) (A := A_i_namesOk) (pl := [⟨0, .val, (.sl .lend .str)⟩, ⟨1, .val, (.int .i64)⟩]) (fid := 167) (fn := Tryz.f167) (c := ((Tryz.f167.body).getD .skip)) ⟨Tryz.func167, by kernel_rfl, by kernel_rfl, by kernel_rfl, Nat.le_of_ble_eq_true (by kernel_rfl), by kernel_rfl, by kernel_rfl, Nat.le_of_ble_eq_true (by kernel_rfl), by kernel_rfl⟩
  have e : i_namesOk N = evalF (E_i_namesOk N) A_i_namesOk N [⟨0, .val, (.sl .lend .str)⟩, ⟨1, .val, (.int .i64)⟩] ((Tryz.f167.body).getD .skip) := funext fun x => by kernel_rfl
  rw [e]
  exact h
noncomputable def E_i_typesOk (N : Nat) : Cz := { tab := tabP, n := 24, V := Vp, ann := look [(15, .str), (16, .str)], fn := look [(107, (⟨[(.int .i64), (.int .i64), (.int .i64)], [.bool], i_inRange N⟩ : Fn)), (167, (⟨[(.sl .lend .str), (.int .i64)], [.bool], i_namesOk N⟩ : Fn))], fx := look [] }
def A_i_typesOk : An := { join := look [], loop := look [(0, ⟨[⟨3, .own false, (.sl .own .str)⟩, ⟨8, .val, (.int .i64)⟩], [⟨3, .own false, (.sl .own .str)⟩], [2, 3, 5, 8, 9, 10, 11, 12, 13, 14, 15, 16, 17, 18, 19, 20, 21]⟩)], ret := [⟨2, .val, .bool⟩] }
theorem c_i_typesOk (N : Nat) : Ctr Tryz.prog Vp 138 ⟨[(.sl .lend (.pair .str (.pair (.int .i64) .unit)))], [.bool], i_typesOk N⟩ := by
  have hE : EnvOK Tryz.prog (E_i_typesOk N) := ⟨tabP_ok, look_all (Q := fun t s => Ctr Tryz.prog Vp t s) _ (by
    intro p hp
    simp only [List.mem_cons, List.not_mem_nil, or_false] at hp
    rcases hp with rfl | rfl
    · exact c_i_inRange N
    · exact c_i_namesOk N), (fun _ _ h => by cases h)⟩
  have h := fn_sound hE (by kernel_rfl) (N := N) (A := A_i_typesOk) (pl := [⟨0, .val, (.sl .lend (.pair .str (.pair (.int .i64) .unit)))⟩]) (fid := 138) (fn := Tryz.f138) (c := ((Tryz.f138.body).getD .skip)) ⟨Tryz.func138, by kernel_rfl, by kernel_rfl, by kernel_rfl, Nat.le_of_ble_eq_true (by kernel_rfl), by kernel_rfl, by kernel_rfl, Nat.le_of_ble_eq_true (by kernel_rfl), by kernel_rfl⟩
  have e : i_typesOk N = evalF (E_i_typesOk N) A_i_typesOk N [⟨0, .val, (.sl .lend (.pair .str (.pair (.int .i64) .unit)))⟩] ((Tryz.f138.body).getD .skip) := funext fun x => by kernel_rfl
  rw [e]
  exact h
noncomputable def E_i_isTyped (N : Nat) : Cz := { tab := tabP, n := 13, V := Vp, ann := look [], fn := look [], fx := look [] }
def A_i_isTyped : An := { join := look [], loop := look [], ret := [⟨2, .val, .bool⟩] }
theorem c_i_isTyped (N : Nat) : Ctr Tryz.prog Vp 241 ⟨[.str], [.bool], i_isTyped N⟩ := by
  have hE : EnvOK Tryz.prog (E_i_isTyped N) := ⟨tabP_ok, (fun _ _ h => by cases h), (fun _ _ h => by cases h)⟩
  have h := fn_sound hE (by kernel_rfl) (N := N) (A := A_i_isTyped) (pl := [⟨0, .val, .str⟩]) (fid := 241) (fn := Tryz.f241) (c := ((Tryz.f241.body).getD .skip)) ⟨Tryz.func241, by kernel_rfl, by kernel_rfl, by kernel_rfl, Nat.le_of_ble_eq_true (by kernel_rfl), by kernel_rfl, by kernel_rfl, Nat.le_of_ble_eq_true (by kernel_rfl), by kernel_rfl⟩
  have e : i_isTyped N = evalF (E_i_isTyped N) A_i_isTyped N [⟨0, .val, .str⟩] ((Tryz.f241.body).getD .skip) := funext fun x => by kernel_rfl
  rw [e]
  exact h
noncomputable def E_i_primOk (N : Nat) : Cz := { tab := tabP, n := 78, V := Vp, ann := look [], fn := look [(107, (⟨[(.int .i64), (.int .i64), (.int .i64)], [.bool], i_inRange N⟩ : Fn)), (132, (⟨[.str], [.bool], i_IsName N⟩ : Fn)), (165, (⟨[.str], [(.int .i64)], i_Arity N⟩ : Fn)), (241, (⟨[.str], [.bool], i_isTyped N⟩ : Fn))], fx := look [] }
def A_i_primOk : An := { join := look [], loop := look [], ret := [⟨2, .val, .bool⟩] }
theorem c_i_primOk (N : Nat) : Ctr Tryz.prog Vp 219 ⟨[t167l], [.bool], i_primOk N⟩ := by
  have hE : EnvOK Tryz.prog (E_i_primOk N) := ⟨tabP_ok, look_all (Q := fun t s => Ctr Tryz.prog Vp t s) _ (by
    intro p hp
    simp only [List.mem_cons, List.not_mem_nil, or_false] at hp
    rcases hp with rfl | rfl | rfl | rfl
    · exact c_i_inRange N
    · exact c_i_IsName N
    · exact c_i_Arity N
    · exact c_i_isTyped N), (fun _ _ h => by cases h)⟩
  have h := fn_sound hE (by kernel_rfl) (N := N) (A := A_i_primOk) (pl := [⟨0, .val, t167l⟩]) (fid := 219) (fn := Tryz.f219) (c := ((Tryz.f219.body).getD .skip)) ⟨Tryz.func219, by kernel_rfl, by kernel_rfl, by kernel_rfl, Nat.le_of_ble_eq_true (by kernel_rfl), by kernel_rfl, by kernel_rfl, Nat.le_of_ble_eq_true (by kernel_rfl), by kernel_rfl⟩
  have e : i_primOk N = evalF (E_i_primOk N) A_i_primOk N [⟨0, .val, t167l⟩] ((Tryz.f219.body).getD .skip) := funext fun x => by kernel_rfl
  rw [e]
  exact h
noncomputable def E_i_nodeOk (N : Nat) : Cz := { tab := tabP, n := 168, V := Vp, ann := look [], fn := look [(107, (⟨[(.int .i64), (.int .i64), (.int .i64)], [.bool], i_inRange N⟩ : Fn)), (108, (⟨[.str], [.bool], i_symOk N⟩ : Fn)), (132, (⟨[.str], [.bool], i_IsName N⟩ : Fn)), (167, (⟨[(.sl .lend .str), (.int .i64)], [.bool], i_namesOk N⟩ : Fn)), (219, (⟨[t167l], [.bool], i_primOk N⟩ : Fn))], fx := look [] }
def A_i_nodeOk : An := { join := look [], loop := look [], ret := [⟨2, .val, .bool⟩] }
theorem c_i_nodeOk (N : Nat) : Ctr Tryz.prog Vp 198 ⟨[t167l], [.bool], i_nodeOk N⟩ := by
  have hE : EnvOK Tryz.prog (E_i_nodeOk N) := ⟨tabP_ok, look_all (Q := fun t s => Ctr Tryz.prog Vp t s) _ (by
    intro p hp
    simp only [List.mem_cons, List.not_mem_nil, or_false] at hp
    rcases hp with rfl | rfl | rfl | rfl | rfl
    · exact c_i_inRange N
    · exact c_i_symOk N
    · exact c_i_IsName N
    · exact c_i_namesOk N
    · exact c_i_primOk N), (fun _ _ h => by cases h)⟩
  have h := fn_sound hE (by kernel_rfl) (N := N) (A := A_i_nodeOk) (pl := [⟨0, .val, t167l⟩]) (fid := 198) (fn := Tryz.f198) (c := ((Tryz.f198.body).getD .skip)) ⟨Tryz.func198, by kernel_rfl, by kernel_rfl, by kernel_rfl, Nat.le_of_ble_eq_true (by kernel_rfl), by kernel_rfl, by kernel_rfl, Nat.le_of_ble_eq_true (by kernel_rfl), by kernel_rfl⟩
  have e : i_nodeOk N = evalF (E_i_nodeOk N) A_i_nodeOk N [⟨0, .val, t167l⟩] ((Tryz.f198.body).getD .skip) := funext fun x => by kernel_rfl
  rw [e]
  exact h
noncomputable def E_i_ProgOk (N : Nat) : Cz := { tab := tabP, n := 77, V := Vp, ann := look [(29, (.int .i64))], fn := look [(107, (⟨[(.int .i64), (.int .i64), (.int .i64)], [.bool], i_inRange N⟩ : Fn)), (198, (⟨[t167l], [.bool], i_nodeOk N⟩ : Fn))], fx := look [] }
def A_i_ProgOk : An := { join := look [], loop := look [(2, ⟨[⟨4, .own false, (.sl .own (.int .i64))⟩, ⟨44, .val, (.int .i64)⟩], [⟨4, .own false, (.sl .own (.int .i64))⟩], [2, 8, 44, 45, 46, 47, 48, 49, 50, 51, 52, 53, 54, 55, 56, 57, 58, 59]⟩), (0, ⟨[⟨4, .own false, (.sl .own (.int .i64))⟩, ⟨33, .val, (.int .i64)⟩], [⟨4, .own false, (.sl .own (.int .i64))⟩], [2, 5, 6, 8, 33, 34, 35, 36, 37, 38, 39, 40, 41, 42, 43, 44, 45, 46, 47, 48, 49, 50, 51, 52, 53, 54, 55, 56, 57, 58, 59, 60]⟩), (4, ⟨[⟨65, .val, (.int .i64)⟩], [], [2, 10, 65, 66, 67, 68, 69, 70, 71]⟩)], ret := [⟨2, .val, .bool⟩], frz := look [(18, 4)] }
theorem c_i_ProgOk (N : Nat) : Ctr Tryz.prog Vp 168 ⟨[t115l], [.bool], i_ProgOk N⟩ := by
  have hE : EnvOK Tryz.prog (E_i_ProgOk N) := ⟨tabP_ok, look_all (Q := fun t s => Ctr Tryz.prog Vp t s) _ (by
    intro p hp
    simp only [List.mem_cons, List.not_mem_nil, or_false] at hp
    rcases hp with rfl | rfl
    · exact c_i_inRange N
    · exact c_i_nodeOk N), (fun _ _ h => by cases h)⟩
  have h := fn_sound hE (by kernel_rfl) (N := N) (A := A_i_ProgOk) (pl := [⟨0, .val, t115l⟩]) (fid := 168) (fn := Tryz.f168) (c := ((Tryz.f168.body).getD .skip)) ⟨Tryz.func168, by kernel_rfl, by kernel_rfl, by kernel_rfl, Nat.le_of_ble_eq_true (by kernel_rfl), by kernel_rfl, by kernel_rfl, Nat.le_of_ble_eq_true (by kernel_rfl), by kernel_rfl⟩
  have e : i_ProgOk N = evalF (E_i_ProgOk N) A_i_ProgOk N [⟨0, .val, t115l⟩] ((Tryz.f168.body).getD .skip) := funext fun x => by kernel_rfl
  rw [e]
  exact h
noncomputable def E_i_progsOk (N : Nat) : Cz := { tab := tabP, n := 16, V := Vp, ann := look [], fn := look [(168, (⟨[t115l], [.bool], i_ProgOk N⟩ : Fn))], fx := look [] }
def A_i_progsOk : An := { join := look [], loop := look [(0, ⟨[⟨7, .val, (.int .i64)⟩], [], [2, 4, 7, 8, 9, 10, 11, 12, 13, 14, 15]⟩)], ret := [⟨2, .val, .bool⟩] }
theorem c_i_progsOk (N : Nat) : Ctr Tryz.prog Vp 139 ⟨[(.sl .lend t159l)], [.bool], i_progsOk N⟩ := by
  have hE : EnvOK Tryz.prog (E_i_progsOk N) := ⟨tabP_ok, look_all (Q := fun t s => Ctr Tryz.prog Vp t s) _ (by
    intro p hp
    simp only [List.mem_cons, List.not_mem_nil, or_false] at hp
    rcases hp with rfl
    · exact c_i_ProgOk N), (fun _ _ h => by cases h)⟩
  have h := fn_sound hE (by kernel_rfl) (N := N) (A := A_i_progsOk) (pl := [⟨0, .val, (.sl .lend t159l)⟩]) (fid := 139) (fn := Tryz.f139) (c := ((Tryz.f139.body).getD .skip)) ⟨Tryz.func139, by kernel_rfl, by kernel_rfl, by kernel_rfl, Nat.le_of_ble_eq_true (by kernel_rfl), by kernel_rfl, by kernel_rfl, Nat.le_of_ble_eq_true (by kernel_rfl), by kernel_rfl⟩
  have e : i_progsOk N = evalF (E_i_progsOk N) A_i_progsOk N [⟨0, .val, (.sl .lend t159l)⟩] ((Tryz.f139.body).getD .skip) := funext fun x => by kernel_rfl
  rw [e]
  exact h
noncomputable def E_i_SrcOk (N : Nat) : Cz := { tab := tabP, n := 56, V := Vp, ann := look [], fn := look [(132, (⟨[.str], [.bool], i_IsName N⟩ : Fn)), (136, (⟨[(.sl .lend .str)], [.bool], i_allNames N⟩ : Fn)), (137, (⟨[(.sl .lend t159l)], [(.sl .own .str)], i_namesOfDefs N⟩ : Fn)), (138, (⟨[(.sl .lend (.pair .str (.pair (.int .i64) .unit)))], [.bool], i_typesOk N⟩ : Fn)), (139, (⟨[(.sl .lend t159l)], [.bool], i_progsOk N⟩ : Fn))], fx := look [(133, (⟨[.look], [t51l], [.val], [.bool], i_Src_isFew N⟩ : Fx)), (134, (⟨[.look], [t51l], [.val], [.bool], i_Src_isUnlike N⟩ : Fx)), (135, (⟨[.look], [t51l], [.val], [.bool], i_Src_isFit N⟩ : Fx))] }
def A_i_SrcOk : An := { join := look [], loop := look [], ret := [⟨2, .val, .bool⟩] }
theorem c_i_SrcOk (N : Nat) : Ctr Tryz.prog Vp 82 ⟨[t51l], [.bool], i_SrcOk N⟩ := by
  have hE : EnvOK Tryz.prog (E_i_SrcOk N) := ⟨tabP_ok, look_all (Q := fun t s => Ctr Tryz.prog Vp t s) _ (by
    intro p hp
    simp only [List.mem_cons, List.not_mem_nil, or_false] at hp
    rcases hp with rfl | rfl | rfl | rfl | rfl
    · exact c_i_IsName N
    · exact c_i_allNames N
    · exact c_i_namesOfDefs N
    · exact c_i_typesOk N
    · exact c_i_progsOk N), look_all (Q := fun t s => CtrX Tryz.prog Vp t s) _ (by
    intro p hp
    simp only [List.mem_cons, List.not_mem_nil, or_false] at hp
    rcases hp with rfl | rfl | rfl
    · exact c_i_Src_isFew N
    · exact c_i_Src_isUnlike N
    · exact c_i_Src_isFit N)⟩
  have h := fn_sound hE (by kernel_rfl) (N := N) (A := A_i_SrcOk) (pl := [⟨0, .val, t51l⟩]) (fid := 82) (fn := Tryz.f82) (c := ((Tryz.f82.body).getD .skip)) ⟨Tryz.func82, by kernel_rfl, by kernel_rfl, by kernel_rfl, Nat.le_of_ble_eq_true (by kernel_rfl), by kernel_rfl, by kernel_rfl, Nat.le_of_ble_eq_true (by kernel_rfl), by kernel_rfl⟩
  have e : i_SrcOk N = evalF (E_i_SrcOk N) A_i_SrcOk N [⟨0, .val, t51l⟩] ((Tryz.f82.body).getD .skip) := funext fun x => by kernel_rfl
  rw [e]
  exact h
noncomputable def E_i_namesOfSrcs (N : Nat) : Cz := { tab := tabP, n := 19, V := Vp, ann := look [(15, .str), (16, .str)], fn := look [], fx := look [] }
def A_i_namesOfSrcs : An := { join := look [], loop := look [(0, ⟨[⟨3, .own false, (.sl .own .str)⟩, ⟨8, .val, (.int .i64)⟩], [⟨3, .own false, (.sl .own .str)⟩], [3, 5, 8, 9, 10, 11, 12, 13, 14, 15, 16, 17]⟩)], ret := [⟨2, .own false, (.sl .own .str)⟩] }
theorem c_i_namesOfSrcs (N : Nat) : Ctr Tryz.prog Vp 145 ⟨[(.sl .lend t51l)], [(.sl .own .str)], i_namesOfSrcs N⟩ := by
  have hE : EnvOK Tryz.prog (E_i_namesOfSrcs N) := ⟨tabP_ok, (fun _ _ h => by cases h), (fun _ _ h => by cases h)⟩
  have h := fn_sound hE (by kernel_rfl) (N := N) (A := A_i_namesOfSrcs) (pl := [⟨0, .val, (.sl .lend t51l)⟩]) (fid := 145) (fn := Tryz.f145) (c := ((Tryz.f145.body).getD .skip)) ⟨Tryz.func145, by kernel_rfl, by kernel_rfl, by kernel_rfl, Nat.le_of_ble_eq_true (by kernel_rfl), by kernel_rfl, by kernel_rfl, Nat.le_of_ble_eq_true (by kernel_rfl), by kernel_rfl⟩
  have e : i_namesOfSrcs N = evalF (E_i_namesOfSrcs N) A_i_namesOfSrcs N [⟨0, .val, (.sl .lend t51l)⟩] ((Tryz.f145.body).getD .skip) := funext fun x => by kernel_rfl
  rw [e]
  exact h
noncomputable def E_i_order (N : Nat) : Cz := { tab := tabP, n := 58, V := Vp, ann := look [(55, .str), (56, .str)], fn := look [(92, (⟨[(.sl .lend .str), .str], [.bool], g_slices_Contains_string_string_ N⟩ : Fn)), (93, (⟨[(.sl .lend .str), (.sl .lend .str)], [.bool], i_areIn N⟩ : Fn))], fx := look [] }
def A_i_order : An := { join := look [(44, ([⟨4, .own false, (.sl .own .str)⟩, ⟨5, .val, (.int .i64)⟩], [5, 45]))], loop := look [(2, ⟨[⟨4, .own false, (.sl .own .str)⟩, ⟨5, .val, (.int .i64)⟩, ⟨15, .val, (.int .i64)⟩], [⟨4, .own false, (.sl .own .str)⟩, ⟨5, .val, (.int .i64)⟩], [5, 6, 7, 15, 16, 17, 18, 19, 20, 21, 22, 23, 24, 25, 26, 27, 28, 29, 30, 31, 32, 33, 34, 35, 36, 37, 38, 39, 40, 41, 42, 43, 44, 45, 46]⟩), (0, ⟨[⟨4, .own false, (.sl .own .str)⟩], [⟨4, .own false, (.sl .own .str)⟩], [2, 3, 4, 5, 6, 7, 8, 9, 10, 11, 12, 13, 14, 15, 16, 17, 18, 19, 20, 21, 22, 23, 24, 25, 26, 27, 28, 29, 30, 31, 32, 33, 34, 35, 36, 37, 38, 39, 40, 41, 42, 43, 44, 45, 46, 47, 48, 49, 50, 51, 52, 53, 54, 55, 56]⟩)], ret := [⟨2, .own false, (.sl .own .str)⟩, ⟨3, .val, .bool⟩] }
theorem c_i_order (N : Nat) : CtrX Tryz.prog Vp 147 ⟨[.no], [(.sl .lend t51l)], [.val, .val], [(.sl .own .str), .bool], i_order N⟩ := by
  have hE : EnvOK Tryz.prog (E_i_order N) := ⟨tabP_ok, look_all (Q := fun t s => Ctr Tryz.prog Vp t s) _ (by
    intro p hp
    simp only [List.mem_cons, List.not_mem_nil, or_false] at hp
    rcases hp with rfl | rfl
    · exact c_g_slices_Contains_string_string_ N
    · exact c_i_areIn N), (fun _ _ h => by cases h)⟩
  have h := fn_soundX hE (by kernel_rfl) (N := N) (A := A_i_order) (pl := [⟨0, .val, (.sl .lend t51l)⟩]) (io := [.no]) (ks := [.val, .val]) (fid := 147) (fn := Tryz.f147) (c := ((Tryz.f147.body).getD .skip)) ⟨Tryz.func147, by kernel_rfl, by kernel_rfl, by kernel_rfl, by kernel_rfl, by kernel_rfl, Nat.le_of_ble_eq_true (by kernel_rfl), by kernel_rfl⟩
  have e : i_order N = evalF (E_i_order N) A_i_order N [⟨0, .val, (.sl .lend t51l)⟩] ((Tryz.f147.body).getD .skip) := funext fun x => by kernel_rfl
  rw [e]
  exact h
noncomputable def E_i_Order (N : Nat) : Cz := { tab := tabP, n := 33, V := Vp, ann := look [], fn := look [(82, (⟨[t51l], [.bool], i_SrcOk N⟩ : Fn)), (93, (⟨[(.sl .lend .str), (.sl .lend .str)], [.bool], i_areIn N⟩ : Fn)), (145, (⟨[(.sl .lend t51l)], [(.sl .own .str)], i_namesOfSrcs N⟩ : Fn)), (146, (⟨[(.sl .lend .str)], [.bool], i_isOnce N⟩ : Fn))], fx := look [(147, (⟨[.no], [(.sl .lend t51l)], [.val, .val], [(.sl .own .str), .bool], i_order N⟩ : Fx))] }
def A_i_Order : An := { join := look [], loop := look [(0, ⟨[⟨4, .own false, (.sl .own .str)⟩, ⟨11, .val, (.int .i64)⟩], [⟨4, .own false, (.sl .own .str)⟩], [2, 3, 6, 11, 12, 13, 14, 15, 16, 17, 18, 19, 20, 21, 22, 23, 24, 25]⟩)], ret := [⟨2, .own false, (.sl .own .str)⟩, ⟨3, .val, .bool⟩] }
theorem c_i_Order (N : Nat) : CtrX Tryz.prog Vp 91 ⟨[.no], [(.sl .lend t51l)], [.val, .val], [(.sl .own .str), .bool], i_Order N⟩ := by
  have hE : EnvOK Tryz.prog (E_i_Order N) := ⟨tabP_ok, look_all (Q := fun t s => Ctr Tryz.prog Vp t s) _ (by
    intro p hp
    simp only [List.mem_cons, List.not_mem_nil, or_false] at hp
    rcases hp with rfl | rfl | rfl | rfl
    · exact c_i_SrcOk N
    · exact c_i_areIn N
    · exact c_i_namesOfSrcs N
    · exact c_i_isOnce N), look_all (Q := fun t s => CtrX Tryz.prog Vp t s) _ (by
    intro p hp
    simp only [List.mem_cons, List.not_mem_nil, or_false] at hp
    rcases hp with rfl
    · exact c_i_order N)⟩
  have h := fn_soundX hE (by kernel_rfl) (N := N) (A := A_i_Order) (pl := [⟨0, .val, (.sl .lend t51l)⟩]) (io := [.no]) (ks := [.val, .val]) (fid := 91) (fn := Tryz.f91) (c := ((Tryz.f91.body).getD .skip)) ⟨Tryz.func91, by kernel_rfl, by kernel_rfl, by kernel_rfl, by kernel_rfl, by kernel_rfl, Nat.le_of_ble_eq_true (by kernel_rfl), by kernel_rfl⟩
  have e : i_Order N = evalF (E_i_Order N) A_i_Order N [⟨0, .val, (.sl .lend t51l)⟩] ((Tryz.f91.body).getD .skip) := funext fun x => by kernel_rfl
  rw [e]
  exact h
noncomputable def E_i_Levels (N : Nat) : Cz := { tab := tabP, n := 55, V := Vp, ann := look [(42, .str), (43, .str), (50, (.sl .own .str)), (53, .str)], fn := look [(92, (⟨[(.sl .lend .str), .str], [.bool], g_slices_Contains_string_string_ N⟩ : Fn)), (93, (⟨[(.sl .lend .str), (.sl .lend .str)], [.bool], i_areIn N⟩ : Fn))], fx := look [(91, (⟨[.no], [(.sl .lend t51l)], [.val, .val], [(.sl .own .str), .bool], i_Order N⟩ : Fx)), (94, (⟨[.io true], [(.sl .own .str)], [.io], [(.sl .own .str)], g_slices_Sort_string_string_ N⟩ : Fx))] }
def A_i_Levels : An := { join := look [(38, ([⟨5, .own false, (.sl .own (.sl .own .str))⟩, ⟨6, .own false, (.sl .own .str)⟩, ⟨7, .own false, (.sl .own .str)⟩], [7, 39, 40, 41, 42, 43]))], loop := look [(2, ⟨[⟨5, .own false, (.sl .own (.sl .own .str))⟩, ⟨6, .own false, (.sl .own .str)⟩, ⟨7, .own false, (.sl .own .str)⟩, ⟨24, .val, (.int .i64)⟩], [⟨5, .own false, (.sl .own (.sl .own .str))⟩, ⟨6, .own false, (.sl .own .str)⟩, ⟨7, .own false, (.sl .own .str)⟩], [7, 9, 24, 25, 26, 27, 28, 29, 30, 31, 32, 33, 34, 35, 36, 37, 38, 39, 40, 41, 42, 43, 44]⟩), (0, ⟨[⟨5, .own false, (.sl .own (.sl .own .str))⟩, ⟨6, .own false, (.sl .own .str)⟩], [⟨5, .own false, (.sl .own (.sl .own .str))⟩], [5, 6, 7, 9, 17, 18, 19, 20, 21, 22, 23, 24, 25, 26, 27, 28, 29, 30, 31, 32, 33, 34, 35, 36, 37, 38, 39, 40, 41, 42, 43, 44, 45, 46, 47, 48, 49, 50, 51, 52, 53]⟩)], ret := [⟨2, .own false, (.sl .own (.sl .own .str))⟩] }
theorem c_i_Levels (N : Nat) : Ctr Tryz.prog Vp 37 ⟨[(.sl .lend t51l)], [(.sl .own (.sl .own .str))], i_Levels N⟩ := by
  have hE : EnvOK Tryz.prog (E_i_Levels N) := ⟨tabP_ok, look_all (Q := fun t s => Ctr Tryz.prog Vp t s) _ (by
    intro p hp
    simp only [List.mem_cons, List.not_mem_nil, or_false] at hp
    rcases hp with rfl | rfl
    · exact c_g_slices_Contains_string_string_ N
    · exact c_i_areIn N), look_all (Q := fun t s => CtrX Tryz.prog Vp t s) _ (by
    intro p hp
    simp only [List.mem_cons, List.not_mem_nil, or_false] at hp
    rcases hp with rfl | rfl
    · exact c_i_Order N
    · exact c_g_slices_Sort_string_string_ N)⟩
  have h := fn_sound hE (by kernel_rfl) (N := N) (A := A_i_Levels) (pl := [⟨0, .val, (.sl .lend t51l)⟩]) (fid := 37) (fn := Tryz.f37) (c := ((Tryz.f37.body).getD .skip)) ⟨Tryz.func37, by kernel_rfl, by kernel_rfl, by kernel_rfl, Nat.le_of_ble_eq_true (by kernel_rfl), by kernel_rfl, by kernel_rfl, Nat.le_of_ble_eq_true (by kernel_rfl), by kernel_rfl⟩
  have e : i_Levels N = evalF (E_i_Levels N) A_i_Levels N [⟨0, .val, (.sl .lend t51l)⟩] ((Tryz.f37.body).getD .skip) := funext fun x => by kernel_rfl
  rw [e]
  exact h
noncomputable def E_l_eqStringS (N : Nat) : Cz := { tab := tabP, n := 26, V := Vp, ann := look [], fn := look [], fx := look [] }
def A_l_eqStringS : An := { join := look [], loop := look [(0, ⟨[⟨5, .val, (.int .i64)⟩], [], [4, 5, 11, 12, 13, 14, 15, 16, 17, 18, 19, 20, 21, 22, 23, 24, 25]⟩)], ret := [⟨4, .val, .bool⟩] }
theorem c_l_eqStringS (N : Nat) : Ctr Tryz.prog Vp 29 ⟨[(.sl .lend .str), (.sl .lend .str)], [.bool], l_eqStringS N⟩ := by
  have hE : EnvOK Tryz.prog (E_l_eqStringS N) := ⟨tabP_ok, (fun _ _ h => by cases h), (fun _ _ h => by cases h)⟩
  have h := fn_sound hE (by kernel_rfl) (N := N) (A := A_l_eqStringS) (pl := [⟨0, .val, (.sl .lend .str)⟩, ⟨1, .val, (.sl .lend .str)⟩]) (fid := 29) (fn := Tryz.f29) (c := ((Tryz.f29.body).getD .skip)) ⟨Tryz.func29, by kernel_rfl, by kernel_rfl, by kernel_rfl, Nat.le_of_ble_eq_true (by kernel_rfl), by kernel_rfl, by kernel_rfl, Nat.le_of_ble_eq_true (by kernel_rfl), by kernel_rfl⟩
  have e : l_eqStringS N = evalF (E_l_eqStringS N) A_l_eqStringS N [⟨0, .val, (.sl .lend .str)⟩, ⟨1, .val, (.sl .lend .str)⟩] ((Tryz.f29.body).getD .skip) := funext fun x => by kernel_rfl
  rw [e]
  exact h
noncomputable def E_l_eqStringSS (N : Nat) : Cz := { tab := tabP, n := 27, V := Vp, ann := look [], fn := look [(29, (⟨[(.sl .lend .str), (.sl .lend .str)], [.bool], l_eqStringS N⟩ : Fn))], fx := look [] }
def A_l_eqStringSS : An := { join := look [], loop := look [(0, ⟨[⟨5, .val, (.int .i64)⟩], [], [4, 5, 11, 12, 13, 14, 15, 16, 17, 18, 19, 20, 21, 22, 23, 24, 25, 26]⟩)], ret := [⟨4, .val, .bool⟩] }
theorem c_l_eqStringSS (N : Nat) : Ctr Tryz.prog Vp 38 ⟨[(.sl .lend (.sl .lend .str)), (.sl .lend (.sl .lend .str))], [.bool], l_eqStringSS N⟩ := by
  have hE : EnvOK Tryz.prog (E_l_eqStringSS N) := ⟨tabP_ok, look_all (Q := fun t s => Ctr Tryz.prog Vp t s) _ (by
    intro p hp
    simp only [List.mem_cons, List.not_mem_nil, or_false] at hp
    rcases hp with rfl
    · exact c_l_eqStringS N), (fun _ _ h => by cases h)⟩
  have h := fn_sound hE (by kernel_rfl) (N := N) (A := A_l_eqStringSS) (pl := [⟨0, .val, (.sl .lend (.sl .lend .str))⟩, ⟨1, .val, (.sl .lend (.sl .lend .str))⟩]) (fid := 38) (fn := Tryz.f38) (c := ((Tryz.f38.body).getD .skip)) ⟨Tryz.func38, by kernel_rfl, by kernel_rfl, by kernel_rfl, Nat.le_of_ble_eq_true (by kernel_rfl), by kernel_rfl, by kernel_rfl, Nat.le_of_ble_eq_true (by kernel_rfl), by kernel_rfl⟩
  have e : l_eqStringSS N = evalF (E_l_eqStringSS N) A_l_eqStringSS N [⟨0, .val, (.sl .lend (.sl .lend .str))⟩, ⟨1, .val, (.sl .lend (.sl .lend .str))⟩] ((Tryz.f38.body).getD .skip) := funext fun x => by kernel_rfl
  rw [e]
  exact h
noncomputable def E_l_eqType (N : Nat) : Cz := { tab := tabP, n := 15, V := Vp, ann := look [], fn := look [], fx := look [] }
def A_l_eqType : An := { join := look [], loop := look [], ret := [⟨4, .val, .bool⟩] }
theorem c_l_eqType (N : Nat) : Ctr Tryz.prog Vp 142 ⟨[(.pair .str (.pair (.int .i64) .unit)), (.pair .str (.pair (.int .i64) .unit))], [.bool], l_eqType N⟩ := by
  have hE : EnvOK Tryz.prog (E_l_eqType N) := ⟨tabP_ok, (fun _ _ h => by cases h), (fun _ _ h => by cases h)⟩
  have h := fn_sound hE (by kernel_rfl) (N := N) (A := A_l_eqType) (pl := [⟨0, .val, (.pair .str (.pair (.int .i64) .unit))⟩, ⟨1, .val, (.pair .str (.pair (.int .i64) .unit))⟩]) (fid := 142) (fn := Tryz.f142) (c := ((Tryz.f142.body).getD .skip)) ⟨Tryz.func142, by kernel_rfl, by kernel_rfl, by kernel_rfl, Nat.le_of_ble_eq_true (by kernel_rfl), by kernel_rfl, by kernel_rfl, Nat.le_of_ble_eq_true (by kernel_rfl), by kernel_rfl⟩
  have e : l_eqType N = evalF (E_l_eqType N) A_l_eqType N [⟨0, .val, (.pair .str (.pair (.int .i64) .unit))⟩, ⟨1, .val, (.pair .str (.pair (.int .i64) .unit))⟩] ((Tryz.f142.body).getD .skip) := funext fun x => by kernel_rfl
  rw [e]
  exact h
noncomputable def E_l_eqTypeS (N : Nat) : Cz := { tab := tabP, n := 27, V := Vp, ann := look [], fn := look [(142, (⟨[(.pair .str (.pair (.int .i64) .unit)), (.pair .str (.pair (.int .i64) .unit))], [.bool], l_eqType N⟩ : Fn))], fx := look [] }
def A_l_eqTypeS : An := { join := look [], loop := look [(0, ⟨[⟨5, .val, (.int .i64)⟩], [], [4, 5, 11, 12, 13, 14, 15, 16, 17, 18, 19, 20, 21, 22, 23, 24, 25, 26]⟩)], ret := [⟨4, .val, .bool⟩] }
theorem c_l_eqTypeS (N : Nat) : Ctr Tryz.prog Vp 84 ⟨[(.sl .lend (.pair .str (.pair (.int .i64) .unit))), (.sl .lend (.pair .str (.pair (.int .i64) .unit)))], [.bool], l_eqTypeS N⟩ := by
  have hE : EnvOK Tryz.prog (E_l_eqTypeS N) := ⟨tabP_ok, look_all (Q := fun t s => Ctr Tryz.prog Vp t s) _ (by
    intro p hp
    simp only [List.mem_cons, List.not_mem_nil, or_false] at hp
    rcases hp with rfl
    · exact c_l_eqType N), (fun _ _ h => by cases h)⟩
  have h := fn_sound hE (by kernel_rfl) (N := N) (A := A_l_eqTypeS) (pl := [⟨0, .val, (.sl .lend (.pair .str (.pair (.int .i64) .unit)))⟩, ⟨1, .val, (.sl .lend (.pair .str (.pair (.int .i64) .unit)))⟩]) (fid := 84) (fn := Tryz.f84) (c := ((Tryz.f84.body).getD .skip)) ⟨Tryz.func84, by kernel_rfl, by kernel_rfl, by kernel_rfl, Nat.le_of_ble_eq_true (by kernel_rfl), by kernel_rfl, by kernel_rfl, Nat.le_of_ble_eq_true (by kernel_rfl), by kernel_rfl⟩
  have e : l_eqTypeS N = evalF (E_l_eqTypeS N) A_l_eqTypeS N [⟨0, .val, (.sl .lend (.pair .str (.pair (.int .i64) .unit)))⟩, ⟨1, .val, (.sl .lend (.pair .str (.pair (.int .i64) .unit)))⟩] ((Tryz.f84.body).getD .skip) := funext fun x => by kernel_rfl
  rw [e]
  exact h
noncomputable def E_l_eqIntS (N : Nat) : Cz := { tab := tabP, n := 26, V := Vp, ann := look [], fn := look [], fx := look [] }
def A_l_eqIntS : An := { join := look [], loop := look [(0, ⟨[⟨5, .val, (.int .i64)⟩], [], [4, 5, 11, 12, 13, 14, 15, 16, 17, 18, 19, 20, 21, 22, 23, 24, 25]⟩)], ret := [⟨4, .val, .bool⟩] }
theorem c_l_eqIntS (N : Nat) : Ctr Tryz.prog Vp 243 ⟨[(.sl .lend (.int .i64)), (.sl .lend (.int .i64))], [.bool], l_eqIntS N⟩ := by
  have hE : EnvOK Tryz.prog (E_l_eqIntS N) := ⟨tabP_ok, (fun _ _ h => by cases h), (fun _ _ h => by cases h)⟩
  have h := fn_sound hE (by kernel_rfl) (N := N) (A := A_l_eqIntS) (pl := [⟨0, .val, (.sl .lend (.int .i64))⟩, ⟨1, .val, (.sl .lend (.int .i64))⟩]) (fid := 243) (fn := Tryz.f243) (c := ((Tryz.f243.body).getD .skip)) ⟨Tryz.func243, by kernel_rfl, by kernel_rfl, by kernel_rfl, Nat.le_of_ble_eq_true (by kernel_rfl), by kernel_rfl, by kernel_rfl, Nat.le_of_ble_eq_true (by kernel_rfl), by kernel_rfl⟩
  have e : l_eqIntS N = evalF (E_l_eqIntS N) A_l_eqIntS N [⟨0, .val, (.sl .lend (.int .i64))⟩, ⟨1, .val, (.sl .lend (.int .i64))⟩] ((Tryz.f243.body).getD .skip) := funext fun x => by kernel_rfl
  rw [e]
  exact h
noncomputable def E_l_eqNode (N : Nat) : Cz := { tab := tabP, n := 32, V := Vp, ann := look [], fn := look [(29, (⟨[(.sl .lend .str), (.sl .lend .str)], [.bool], l_eqStringS N⟩ : Fn)), (243, (⟨[(.sl .lend (.int .i64)), (.sl .lend (.int .i64))], [.bool], l_eqIntS N⟩ : Fn))], fx := look [] }
def A_l_eqNode : An := { join := look [], loop := look [], ret := [⟨4, .val, .bool⟩] }
theorem c_l_eqNode (N : Nat) : Ctr Tryz.prog Vp 222 ⟨[t167l, t167l], [.bool], l_eqNode N⟩ := by
  have hE : EnvOK Tryz.prog (E_l_eqNode N) := ⟨tabP_ok, look_all (Q := fun t s => Ctr Tryz.prog Vp t s) _ (by
    intro p hp
    simp only [List.mem_cons, List.not_mem_nil, or_false] at hp
    rcases hp with rfl | rfl
    · exact c_l_eqStringS N
    · exact c_l_eqIntS N), (fun _ _ h => by cases h)⟩
  have h := fn_sound hE (by kernel_rfl) (N := N) (A := A_l_eqNode) (pl := [⟨0, .val, t167l⟩, ⟨1, .val, t167l⟩]) (fid := 222) (fn := Tryz.f222) (c := ((Tryz.f222.body).getD .skip)) ⟨Tryz.func222, by kernel_rfl, by kernel_rfl, by kernel_rfl, Nat.le_of_ble_eq_true (by kernel_rfl), by kernel_rfl, by kernel_rfl, Nat.le_of_ble_eq_true (by kernel_rfl), by kernel_rfl⟩
  have e : l_eqNode N = evalF (E_l_eqNode N) A_l_eqNode N [⟨0, .val, t167l⟩, ⟨1, .val, t167l⟩] ((Tryz.f222.body).getD .skip) := funext fun x => by kernel_rfl
  rw [e]
  exact h
noncomputable def E_l_eqNodeS (N : Nat) : Cz := { tab := tabP, n := 27, V := Vp, ann := look [], fn := look [(222, (⟨[t167l, t167l], [.bool], l_eqNode N⟩ : Fn))], fx := look [] }
def A_l_eqNodeS : An := { join := look [], loop := look [(0, ⟨[⟨5, .val, (.int .i64)⟩], [], [4, 5, 11, 12, 13, 14, 15, 16, 17, 18, 19, 20, 21, 22, 23, 24, 25, 26]⟩)], ret := [⟨4, .val, .bool⟩] }
theorem c_l_eqNodeS (N : Nat) : Ctr Tryz.prog Vp 201 ⟨[(.sl .lend t167l), (.sl .lend t167l)], [.bool], l_eqNodeS N⟩ := by
  have hE : EnvOK Tryz.prog (E_l_eqNodeS N) := ⟨tabP_ok, look_all (Q := fun t s => Ctr Tryz.prog Vp t s) _ (by
    intro p hp
    simp only [List.mem_cons, List.not_mem_nil, or_false] at hp
    rcases hp with rfl
    · exact c_l_eqNode N), (fun _ _ h => by cases h)⟩
  have h := fn_sound hE (by kernel_rfl) (N := N) (A := A_l_eqNodeS) (pl := [⟨0, .val, (.sl .lend t167l)⟩, ⟨1, .val, (.sl .lend t167l)⟩]) (fid := 201) (fn := Tryz.f201) (c := ((Tryz.f201.body).getD .skip)) ⟨Tryz.func201, by kernel_rfl, by kernel_rfl, by kernel_rfl, Nat.le_of_ble_eq_true (by kernel_rfl), by kernel_rfl, by kernel_rfl, Nat.le_of_ble_eq_true (by kernel_rfl), by kernel_rfl⟩
  have e : l_eqNodeS N = evalF (E_l_eqNodeS N) A_l_eqNodeS N [⟨0, .val, (.sl .lend t167l)⟩, ⟨1, .val, (.sl .lend t167l)⟩] ((Tryz.f201.body).getD .skip) := funext fun x => by kernel_rfl
  rw [e]
  exact h
noncomputable def E_l_eqProg (N : Nat) : Cz := { tab := tabP, n := 16, V := Vp, ann := look [], fn := look [(201, (⟨[(.sl .lend t167l), (.sl .lend t167l)], [.bool], l_eqNodeS N⟩ : Fn))], fx := look [] }
def A_l_eqProg : An := { join := look [], loop := look [], ret := [⟨4, .val, .bool⟩] }
theorem c_l_eqProg (N : Nat) : Ctr Tryz.prog Vp 172 ⟨[t115l, t115l], [.bool], l_eqProg N⟩ := by
  have hE : EnvOK Tryz.prog (E_l_eqProg N) := ⟨tabP_ok, look_all (Q := fun t s => Ctr Tryz.prog Vp t s) _ (by
    intro p hp
    simp only [List.mem_cons, List.not_mem_nil, or_false] at hp
    rcases hp with rfl
    · exact c_l_eqNodeS N), (fun _ _ h => by cases h)⟩
  have h := fn_sound hE (by kernel_rfl) (N := N) (A := A_l_eqProg) (pl := [⟨0, .val, t115l⟩, ⟨1, .val, t115l⟩]) (fid := 172) (fn := Tryz.f172) (c := ((Tryz.f172.body).getD .skip)) ⟨Tryz.func172, by kernel_rfl, by kernel_rfl, by kernel_rfl, Nat.le_of_ble_eq_true (by kernel_rfl), by kernel_rfl, by kernel_rfl, Nat.le_of_ble_eq_true (by kernel_rfl), by kernel_rfl⟩
  have e : l_eqProg N = evalF (E_l_eqProg N) A_l_eqProg N [⟨0, .val, t115l⟩, ⟨1, .val, t115l⟩] ((Tryz.f172.body).getD .skip) := funext fun x => by kernel_rfl
  rw [e]
  exact h
noncomputable def E_l_eqDef (N : Nat) : Cz := { tab := tabP, n := 16, V := Vp, ann := look [], fn := look [(172, (⟨[t115l, t115l], [.bool], l_eqProg N⟩ : Fn))], fx := look [] }
def A_l_eqDef : An := { join := look [], loop := look [], ret := [⟨4, .val, .bool⟩] }
theorem c_l_eqDef (N : Nat) : Ctr Tryz.prog Vp 143 ⟨[t159l, t159l], [.bool], l_eqDef N⟩ := by
  have hE : EnvOK Tryz.prog (E_l_eqDef N) := ⟨tabP_ok, look_all (Q := fun t s => Ctr Tryz.prog Vp t s) _ (by
    intro p hp
    simp only [List.mem_cons, List.not_mem_nil, or_false] at hp
    rcases hp with rfl
    · exact c_l_eqProg N), (fun _ _ h => by cases h)⟩
  have h := fn_sound hE (by kernel_rfl) (N := N) (A := A_l_eqDef) (pl := [⟨0, .val, t159l⟩, ⟨1, .val, t159l⟩]) (fid := 143) (fn := Tryz.f143) (c := ((Tryz.f143.body).getD .skip)) ⟨Tryz.func143, by kernel_rfl, by kernel_rfl, by kernel_rfl, Nat.le_of_ble_eq_true (by kernel_rfl), by kernel_rfl, by kernel_rfl, Nat.le_of_ble_eq_true (by kernel_rfl), by kernel_rfl⟩
  have e : l_eqDef N = evalF (E_l_eqDef N) A_l_eqDef N [⟨0, .val, t159l⟩, ⟨1, .val, t159l⟩] ((Tryz.f143.body).getD .skip) := funext fun x => by kernel_rfl
  rw [e]
  exact h
noncomputable def E_l_eqDefS (N : Nat) : Cz := { tab := tabP, n := 27, V := Vp, ann := look [], fn := look [(143, (⟨[t159l, t159l], [.bool], l_eqDef N⟩ : Fn))], fx := look [] }
def A_l_eqDefS : An := { join := look [], loop := look [(0, ⟨[⟨5, .val, (.int .i64)⟩], [], [4, 5, 11, 12, 13, 14, 15, 16, 17, 18, 19, 20, 21, 22, 23, 24, 25, 26]⟩)], ret := [⟨4, .val, .bool⟩] }
theorem c_l_eqDefS (N : Nat) : Ctr Tryz.prog Vp 85 ⟨[(.sl .lend t159l), (.sl .lend t159l)], [.bool], l_eqDefS N⟩ := by
  have hE : EnvOK Tryz.prog (E_l_eqDefS N) := ⟨tabP_ok, look_all (Q := fun t s => Ctr Tryz.prog Vp t s) _ (by
    intro p hp
    simp only [List.mem_cons, List.not_mem_nil, or_false] at hp
    rcases hp with rfl
    · exact c_l_eqDef N), (fun _ _ h => by cases h)⟩
  have h := fn_sound hE (by kernel_rfl) (N := N) (A := A_l_eqDefS) (pl := [⟨0, .val, (.sl .lend t159l)⟩, ⟨1, .val, (.sl .lend t159l)⟩]) (fid := 85) (fn := Tryz.f85) (c := ((Tryz.f85.body).getD .skip)) ⟨Tryz.func85, by kernel_rfl, by kernel_rfl, by kernel_rfl, Nat.le_of_ble_eq_true (by kernel_rfl), by kernel_rfl, by kernel_rfl, Nat.le_of_ble_eq_true (by kernel_rfl), by kernel_rfl⟩
  have e : l_eqDefS N = evalF (E_l_eqDefS N) A_l_eqDefS N [⟨0, .val, (.sl .lend t159l)⟩, ⟨1, .val, (.sl .lend t159l)⟩] ((Tryz.f85.body).getD .skip) := funext fun x => by kernel_rfl
  rw [e]
  exact h
noncomputable def E_l_eqSrc (N : Nat) : Cz := { tab := tabP, n := 40, V := Vp, ann := look [], fn := look [(29, (⟨[(.sl .lend .str), (.sl .lend .str)], [.bool], l_eqStringS N⟩ : Fn)), (84, (⟨[(.sl .lend (.pair .str (.pair (.int .i64) .unit))), (.sl .lend (.pair .str (.pair (.int .i64) .unit)))], [.bool], l_eqTypeS N⟩ : Fn)), (85, (⟨[(.sl .lend t159l), (.sl .lend t159l)], [.bool], l_eqDefS N⟩ : Fn))], fx := look [] }
def A_l_eqSrc : An := { join := look [], loop := look [], ret := [⟨4, .val, .bool⟩] }
theorem c_l_eqSrc (N : Nat) : Ctr Tryz.prog Vp 30 ⟨[t51l, t51l], [.bool], l_eqSrc N⟩ := by
  have hE : EnvOK Tryz.prog (E_l_eqSrc N) := ⟨tabP_ok, look_all (Q := fun t s => Ctr Tryz.prog Vp t s) _ (by
    intro p hp
    simp only [List.mem_cons, List.not_mem_nil, or_false] at hp
    rcases hp with rfl | rfl | rfl
    · exact c_l_eqStringS N
    · exact c_l_eqTypeS N
    · exact c_l_eqDefS N), (fun _ _ h => by cases h)⟩
  have h := fn_sound hE (by kernel_rfl) (N := N) (A := A_l_eqSrc) (pl := [⟨0, .val, t51l⟩, ⟨1, .val, t51l⟩]) (fid := 30) (fn := Tryz.f30) (c := ((Tryz.f30.body).getD .skip)) ⟨Tryz.func30, by kernel_rfl, by kernel_rfl, by kernel_rfl, Nat.le_of_ble_eq_true (by kernel_rfl), by kernel_rfl, by kernel_rfl, Nat.le_of_ble_eq_true (by kernel_rfl), by kernel_rfl⟩
  have e : l_eqSrc N = evalF (E_l_eqSrc N) A_l_eqSrc N [⟨0, .val, t51l⟩, ⟨1, .val, t51l⟩] ((Tryz.f30.body).getD .skip) := funext fun x => by kernel_rfl
  rw [e]
  exact h
noncomputable def E_l_eqSrcS (N : Nat) : Cz := { tab := tabP, n := 27, V := Vp, ann := look [], fn := look [(30, (⟨[t51l, t51l], [.bool], l_eqSrc N⟩ : Fn))], fx := look [] }
def A_l_eqSrcS : An := { join := look [], loop := look [(0, ⟨[⟨5, .val, (.int .i64)⟩], [], [4, 5, 11, 12, 13, 14, 15, 16, 17, 18, 19, 20, 21, 22, 23, 24, 25, 26]⟩)], ret := [⟨4, .val, .bool⟩] }
theorem c_l_eqSrcS (N : Nat) : Ctr Tryz.prog Vp 39 ⟨[(.sl .lend t51l), (.sl .lend t51l)], [.bool], l_eqSrcS N⟩ := by
  have hE : EnvOK Tryz.prog (E_l_eqSrcS N) := ⟨tabP_ok, look_all (Q := fun t s => Ctr Tryz.prog Vp t s) _ (by
    intro p hp
    simp only [List.mem_cons, List.not_mem_nil, or_false] at hp
    rcases hp with rfl
    · exact c_l_eqSrc N), (fun _ _ h => by cases h)⟩
  have h := fn_sound hE (by kernel_rfl) (N := N) (A := A_l_eqSrcS) (pl := [⟨0, .val, (.sl .lend t51l)⟩, ⟨1, .val, (.sl .lend t51l)⟩]) (fid := 39) (fn := Tryz.f39) (c := ((Tryz.f39.body).getD .skip)) ⟨Tryz.func39, by kernel_rfl, by kernel_rfl, by kernel_rfl, Nat.le_of_ble_eq_true (by kernel_rfl), by kernel_rfl, by kernel_rfl, Nat.le_of_ble_eq_true (by kernel_rfl), by kernel_rfl⟩
  have e : l_eqSrcS N = evalF (E_l_eqSrcS N) A_l_eqSrcS N [⟨0, .val, (.sl .lend t51l)⟩, ⟨1, .val, (.sl .lend t51l)⟩] ((Tryz.f39.body).getD .skip) := funext fun x => by kernel_rfl
  rw [e]
  exact h
noncomputable def E_l_markText (N : Nat) : Cz := { tab := tabP, n := 20, V := Vp, ann := look [(12, (.int .u8))], fn := look [], fx := look [] }
def A_l_markText : An := { join := look [], loop := look [(0, ⟨[⟨0, .val, (.int .i64)⟩, ⟨3, .val, .str⟩], [⟨3, .val, .str⟩], [0, 3, 6, 7, 8, 9, 10, 11, 12, 13, 14, 15, 16, 17]⟩)], ret := [⟨2, .val, .str⟩] }
theorem c_l_markText (N : Nat) : Ctr Tryz.prog Vp 68 ⟨[(.int .i64)], [.str], l_markText N⟩ := by
  have hE : EnvOK Tryz.prog (E_l_markText N) := ⟨tabP_ok, (fun _ _ h => by cases h), (fun _ _ h => by cases h)⟩
  have h := fn_sound hE (by kernel_rfl) (N := N) (A := A_l_markText) (pl := [⟨0, .val, (.int .i64)⟩]) (fid := 68) (fn := Tryz.f68) (c := ((Tryz.f68.body).getD .skip)) ⟨Tryz.func68, by kernel_rfl, by kernel_rfl, by kernel_rfl, Nat.le_of_ble_eq_true (by kernel_rfl), by kernel_rfl, by kernel_rfl, Nat.le_of_ble_eq_true (by kernel_rfl), by kernel_rfl⟩
  have e : l_markText N = evalF (E_l_markText N) A_l_markText N [⟨0, .val, (.int .i64)⟩] ((Tryz.f68.body).getD .skip) := funext fun x => by kernel_rfl
  rw [e]
  exact h
noncomputable def E_l_markStringS (N : Nat) : Cz := { tab := tabP, n := 20, V := Vp, ann := look [], fn := look [(68, (⟨[(.int .i64)], [.str], l_markText N⟩ : Fn))], fx := look [] }
def A_l_markStringS : An := { join := look [], loop := look [(0, ⟨[⟨0, .own true, (.sl .own .str)⟩, ⟨1, .val, (.int .i64)⟩, ⟨5, .val, (.int .i64)⟩], [⟨0, .own true, (.sl .own .str)⟩, ⟨1, .val, (.int .i64)⟩], [1, 5, 6, 7, 8, 9, 10, 11, 12, 13, 14, 15, 16, 17, 18]⟩)], ret := [⟨4, .val, (.int .i64)⟩, ⟨0, .own true, (.sl .own .str)⟩] }
theorem c_l_markStringS (N : Nat) : CtrX Tryz.prog Vp 32 ⟨[.io true, .no], [(.sl .own .str), (.int .i64)], [.val, .io], [(.int .i64), (.sl .own .str)], l_markStringS N⟩ := by
  have hE : EnvOK Tryz.prog (E_l_markStringS N) := ⟨tabP_ok, look_all (Q := fun t s => Ctr Tryz.prog Vp t s) _ (by
    intro p hp
    simp only [List.mem_cons, List.not_mem_nil, or_false] at hp
    rcases hp with rfl
    · exact c_l_markText N), (fun _ _ h => by cases h)⟩
  have h := fn_soundX hE (by kernel_rfl) (N := N) (A := A_l_markStringS) (pl := [⟨0, .own true, (.sl .own .str)⟩, ⟨1, .val, (.int .i64)⟩]) (io := [.io true, .no]) (ks := [.val, .io]) (fid := 32) (fn := Tryz.f32) (c := ((Tryz.f32.body).getD .skip)) ⟨Tryz.func32, by kernel_rfl, by kernel_rfl, by kernel_rfl, by kernel_rfl, by kernel_rfl, Nat.le_of_ble_eq_true (by kernel_rfl), by kernel_rfl⟩
  have e : l_markStringS N = evalF (E_l_markStringS N) A_l_markStringS N [⟨0, .own true, (.sl .own .str)⟩, ⟨1, .val, (.int .i64)⟩] ((Tryz.f32.body).getD .skip) := funext fun x => by kernel_rfl
  rw [e]
  exact h
noncomputable def E_l_markTypeS (N : Nat) : Cz := { tab := tabP, n := 28, V := Vp, ann := look [], fn := look [(68, (⟨[(.int .i64)], [.str], l_markText N⟩ : Fn))], fx := look [] }
def A_l_markTypeS : An := { join := look [], loop := look [(0, ⟨[⟨0, .own true, (.sl .own (.pair .str (.pair (.int .i64) .unit)))⟩, ⟨1, .val, (.int .i64)⟩, ⟨5, .val, (.int .i64)⟩], [⟨0, .own true, (.sl .own (.pair .str (.pair (.int .i64) .unit)))⟩, ⟨1, .val, (.int .i64)⟩], [1, 5, 6, 7, 8, 9, 10, 11, 12, 13, 14, 15, 16, 17, 18, 19, 20, 21, 22, 23, 24, 25, 26]⟩)], ret := [⟨4, .val, (.int .i64)⟩, ⟨0, .own true, (.sl .own (.pair .str (.pair (.int .i64) .unit)))⟩] }
theorem c_l_markTypeS (N : Nat) : CtrX Tryz.prog Vp 86 ⟨[.io true, .no], [(.sl .own (.pair .str (.pair (.int .i64) .unit))), (.int .i64)], [.val, .io], [(.int .i64), (.sl .own (.pair .str (.pair (.int .i64) .unit)))], l_markTypeS N⟩ := by
  have hE : EnvOK Tryz.prog (E_l_markTypeS N) := ⟨tabP_ok, look_all (Q := fun t s => Ctr Tryz.prog Vp t s) _ (by
    intro p hp
    simp only [List.mem_cons, List.not_mem_nil, or_false] at hp
    rcases hp with rfl
    · exact c_l_markText N), (fun _ _ h => by cases h)⟩
  have h := fn_soundX hE (by kernel_rfl) (N := N) (A := A_l_markTypeS) (pl := [⟨0, .own true, (.sl .own (.pair .str (.pair (.int .i64) .unit)))⟩, ⟨1, .val, (.int .i64)⟩]) (io := [.io true, .no]) (ks := [.val, .io]) (fid := 86) (fn := Tryz.f86) (c := ((Tryz.f86.body).getD .skip)) ⟨Tryz.func86, by kernel_rfl, by kernel_rfl, by kernel_rfl, by kernel_rfl, by kernel_rfl, Nat.le_of_ble_eq_true (by kernel_rfl), by kernel_rfl⟩
  have e : l_markTypeS N = evalF (E_l_markTypeS N) A_l_markTypeS N [⟨0, .own true, (.sl .own (.pair .str (.pair (.int .i64) .unit)))⟩, ⟨1, .val, (.int .i64)⟩] ((Tryz.f86.body).getD .skip) := funext fun x => by kernel_rfl
  rw [e]
  exact h
noncomputable def E_l_markIntS (N : Nat) : Cz := { tab := tabP, n := 19, V := Vp, ann := look [], fn := look [], fx := look [] }
def A_l_markIntS : An := { join := look [], loop := look [(0, ⟨[⟨0, .own true, (.sl .own (.int .i64))⟩, ⟨1, .val, (.int .i64)⟩, ⟨5, .val, (.int .i64)⟩], [⟨0, .own true, (.sl .own (.int .i64))⟩, ⟨1, .val, (.int .i64)⟩], [1, 5, 6, 7, 8, 9, 10, 11, 12, 13, 14, 15, 16, 17]⟩)], ret := [⟨4, .val, (.int .i64)⟩, ⟨0, .own true, (.sl .own (.int .i64))⟩] }
theorem c_l_markIntS (N : Nat) : CtrX Tryz.prog Vp 173 ⟨[.io true, .no], [(.sl .own (.int .i64)), (.int .i64)], [.val, .io], [(.int .i64), (.sl .own (.int .i64))], l_markIntS N⟩ := by
  have hE : EnvOK Tryz.prog (E_l_markIntS N) := ⟨tabP_ok, (fun _ _ h => by cases h), (fun _ _ h => by cases h)⟩
  have h := fn_soundX hE (by kernel_rfl) (N := N) (A := A_l_markIntS) (pl := [⟨0, .own true, (.sl .own (.int .i64))⟩, ⟨1, .val, (.int .i64)⟩]) (io := [.io true, .no]) (ks := [.val, .io]) (fid := 173) (fn := Tryz.f173) (c := ((Tryz.f173.body).getD .skip)) ⟨Tryz.func173, by kernel_rfl, by kernel_rfl, by kernel_rfl, by kernel_rfl, by kernel_rfl, Nat.le_of_ble_eq_true (by kernel_rfl), by kernel_rfl⟩
  have e : l_markIntS N = evalF (E_l_markIntS N) A_l_markIntS N [⟨0, .own true, (.sl .own (.int .i64))⟩, ⟨1, .val, (.int .i64)⟩] ((Tryz.f173.body).getD .skip) := funext fun x => by kernel_rfl
  rw [e]
  exact h
noncomputable def E_l_markNodeS (N : Nat) : Cz := { tab := tabP, n := 49, V := Vp, ann := look [], fn := look [(68, (⟨[(.int .i64)], [.str], l_markText N⟩ : Fn))], fx := look [(32, (⟨[.io true, .no], [(.sl .own .str), (.int .i64)], [.val, .io], [(.int .i64), (.sl .own .str)], l_markStringS N⟩ : Fx)), (173, (⟨[.io true, .no], [(.sl .own (.int .i64)), (.int .i64)], [.val, .io], [(.int .i64), (.sl .own (.int .i64))], l_markIntS N⟩ : Fx))] }
def A_l_markNodeS : An := { join := look [], loop := look [(0, ⟨[⟨0, .own true, (.sl .own t167o)⟩, ⟨1, .val, (.int .i64)⟩, ⟨5, .val, (.int .i64)⟩], [⟨0, .own true, (.sl .own t167o)⟩, ⟨1, .val, (.int .i64)⟩], [1, 5, 6, 7, 8, 9, 10, 11, 12, 13, 14, 15, 16, 17, 18, 19, 20, 21, 22, 23, 24, 25, 26, 27, 28, 29, 30, 31, 32, 33, 34, 35, 36, 37, 38, 39, 40, 41, 42, 43, 44, 45, 46, 47]⟩)], ret := [⟨4, .val, (.int .i64)⟩, ⟨0, .own true, (.sl .own t167o)⟩] }
theorem c_l_markNodeS (N : Nat) : CtrX Tryz.prog Vp 144 ⟨[.io true, .no], [(.sl .own t167o), (.int .i64)], [.val, .io], [(.int .i64), (.sl .own t167o)], l_markNodeS N⟩ := by
  have hE : EnvOK Tryz.prog (E_l_markNodeS N) := ⟨tabP_ok, look_all (Q := fun t s => Ctr Tryz.prog Vp t s) _ (by
    intro p hp
    simp only [List.mem_cons, List.not_mem_nil, or_false] at hp
    rcases hp with rfl
    · exact c_l_markText N), look_all (Q := fun t s => CtrX Tryz.prog Vp t s) _ (by
    intro p hp
    simp only [List.mem_cons, List.not_mem_nil, or_false] at hp
    rcases hp with rfl | rfl
    · exact c_l_markStringS N
    · exact c_l_markIntS N)⟩
  have h := fn_soundX hE (by kernel_rfl) (N := N) (A := A_l_markNodeS) (pl := [⟨0, .own true, (.sl .own t167o)⟩, ⟨1, .val, (.int .i64)⟩]) (io := [.io true, .no]) (ks := [.val, .io]) (fid := 144) (fn := Tryz.f144) (c := ((Tryz.f144.body).getD .skip)) ⟨Tryz.func144, by kernel_rfl, by kernel_rfl, by kernel_rfl, by kernel_rfl, by kernel_rfl, Nat.le_of_ble_eq_true (by kernel_rfl), by kernel_rfl⟩
  have e : l_markNodeS N = evalF (E_l_markNodeS N) A_l_markNodeS N [⟨0, .own true, (.sl .own t167o)⟩, ⟨1, .val, (.int .i64)⟩] ((Tryz.f144.body).getD .skip) := funext fun x => by kernel_rfl
  rw [e]
  exact h
noncomputable def E_l_markDefS (N : Nat) : Cz := { tab := tabP, n := 37, V := Vp, ann := look [], fn := look [(68, (⟨[(.int .i64)], [.str], l_markText N⟩ : Fn))], fx := look [(144, (⟨[.io true, .no], [(.sl .own t167o), (.int .i64)], [.val, .io], [(.int .i64), (.sl .own t167o)], l_markNodeS N⟩ : Fx))] }
def A_l_markDefS : An := { join := look [], loop := look [(0, ⟨[⟨0, .own true, (.sl .own t159o)⟩, ⟨1, .val, (.int .i64)⟩, ⟨5, .val, (.int .i64)⟩], [⟨0, .own true, (.sl .own t159o)⟩, ⟨1, .val, (.int .i64)⟩], [1, 5, 6, 7, 8, 9, 10, 11, 12, 13, 14, 15, 16, 17, 18, 19, 20, 21, 22, 23, 24, 25, 26, 27, 28, 29, 30, 31, 32, 33, 34, 35]⟩)], ret := [⟨4, .val, (.int .i64)⟩, ⟨0, .own true, (.sl .own t159o)⟩] }
theorem c_l_markDefS (N : Nat) : CtrX Tryz.prog Vp 87 ⟨[.io true, .no], [(.sl .own t159o), (.int .i64)], [.val, .io], [(.int .i64), (.sl .own t159o)], l_markDefS N⟩ := by
  have hE : EnvOK Tryz.prog (E_l_markDefS N) := ⟨tabP_ok, look_all (Q := fun t s => Ctr Tryz.prog Vp t s) _ (by
    intro p hp
    simp only [List.mem_cons, List.not_mem_nil, or_false] at hp
    rcases hp with rfl
    · exact c_l_markText N), look_all (Q := fun t s => CtrX Tryz.prog Vp t s) _ (by
    intro p hp
    simp only [List.mem_cons, List.not_mem_nil, or_false] at hp
    rcases hp with rfl
    · exact c_l_markNodeS N)⟩
  have h := fn_soundX hE (by kernel_rfl) (N := N) (A := A_l_markDefS) (pl := [⟨0, .own true, (.sl .own t159o)⟩, ⟨1, .val, (.int .i64)⟩]) (io := [.io true, .no]) (ks := [.val, .io]) (fid := 87) (fn := Tryz.f87) (c := ((Tryz.f87.body).getD .skip)) ⟨Tryz.func87, by kernel_rfl, by kernel_rfl, by kernel_rfl, by kernel_rfl, by kernel_rfl, Nat.le_of_ble_eq_true (by kernel_rfl), by kernel_rfl⟩
  have e : l_markDefS N = evalF (E_l_markDefS N) A_l_markDefS N [⟨0, .own true, (.sl .own t159o)⟩, ⟨1, .val, (.int .i64)⟩] ((Tryz.f87.body).getD .skip) := funext fun x => by kernel_rfl
  rw [e]
  exact h
noncomputable def E_l_markSrcS (N : Nat) : Cz := { tab := tabP, n := 56, V := Vp, ann := look [], fn := look [(68, (⟨[(.int .i64)], [.str], l_markText N⟩ : Fn))], fx := look [(32, (⟨[.io true, .no], [(.sl .own .str), (.int .i64)], [.val, .io], [(.int .i64), (.sl .own .str)], l_markStringS N⟩ : Fx)), (86, (⟨[.io true, .no], [(.sl .own (.pair .str (.pair (.int .i64) .unit))), (.int .i64)], [.val, .io], [(.int .i64), (.sl .own (.pair .str (.pair (.int .i64) .unit)))], l_markTypeS N⟩ : Fx)), (87, (⟨[.io true, .no], [(.sl .own t159o), (.int .i64)], [.val, .io], [(.int .i64), (.sl .own t159o)], l_markDefS N⟩ : Fx))] }
def A_l_markSrcS : An := { join := look [], loop := look [(0, ⟨[⟨0, .own true, (.sl .own t51o)⟩, ⟨1, .val, (.int .i64)⟩, ⟨5, .val, (.int .i64)⟩], [⟨0, .own true, (.sl .own t51o)⟩, ⟨1, .val, (.int .i64)⟩], [1, 5, 6, 7, 8, 9, 10, 11, 12, 13, 14, 15, 16, 17, 18, 19, 20, 21, 22, 23, 24, 25, 26, 27, 28, 29, 30, 31, 32, 33, 34, 35, 36, 37, 38, 39, 40, 41, 42, 43, 44, 45, 46, 47, 48, 49, 50, 51, 52, 53, 54]⟩)], ret := [⟨4, .val, (.int .i64)⟩, ⟨0, .own true, (.sl .own t51o)⟩] }
theorem c_l_markSrcS (N : Nat) : CtrX Tryz.prog Vp 40 ⟨[.io true, .no], [(.sl .own t51o), (.int .i64)], [.val, .io], [(.int .i64), (.sl .own t51o)], l_markSrcS N⟩ := by
  have hE : EnvOK Tryz.prog (E_l_markSrcS N) := ⟨tabP_ok, look_all (Q := fun t s => Ctr Tryz.prog Vp t s) _ (by
    intro p hp
    simp only [List.mem_cons, List.not_mem_nil, or_false] at hp
    rcases hp with rfl
    · exact c_l_markText N), look_all (Q := fun t s => CtrX Tryz.prog Vp t s) _ (by
    intro p hp
    simp only [List.mem_cons, List.not_mem_nil, or_false] at hp
    rcases hp with rfl | rfl | rfl
    · exact c_l_markStringS N
    · exact c_l_markTypeS N
    · exact c_l_markDefS N)⟩
  have h := fn_soundX hE (by kernel_rfl) (N := N) (A := A_l_markSrcS) (pl := [⟨0, .own true, (.sl .own t51o)⟩, ⟨1, .val, (.int .i64)⟩]) (io := [.io true, .no]) (ks := [.val, .io]) (fid := 40) (fn := Tryz.f40) (c := ((Tryz.f40.body).getD .skip)) ⟨Tryz.func40, by kernel_rfl, by kernel_rfl, by kernel_rfl, by kernel_rfl, by kernel_rfl, Nat.le_of_ble_eq_true (by kernel_rfl), by kernel_rfl⟩
  have e : l_markSrcS N = evalF (E_l_markSrcS N) A_l_markSrcS N [⟨0, .own true, (.sl .own t51o)⟩, ⟨1, .val, (.int .i64)⟩] ((Tryz.f40.body).getD .skip) := funext fun x => by kernel_rfl
  rw [e]
  exact h
noncomputable def E_l_markStringSS (N : Nat) : Cz := { tab := tabP, n := 19, V := Vp, ann := look [], fn := look [], fx := look [(32, (⟨[.io true, .no], [(.sl .own .str), (.int .i64)], [.val, .io], [(.int .i64), (.sl .own .str)], l_markStringS N⟩ : Fx))] }
def A_l_markStringSS : An := { join := look [], loop := look [(0, ⟨[⟨0, .own true, (.sl .own (.sl .own .str))⟩, ⟨1, .val, (.int .i64)⟩, ⟨5, .val, (.int .i64)⟩], [⟨0, .own true, (.sl .own (.sl .own .str))⟩, ⟨1, .val, (.int .i64)⟩], [1, 5, 6, 7, 8, 9, 10, 11, 12, 13, 14, 15, 16, 17]⟩)], ret := [⟨4, .val, (.int .i64)⟩, ⟨0, .own true, (.sl .own (.sl .own .str))⟩] }
theorem c_l_markStringSS (N : Nat) : CtrX Tryz.prog Vp 41 ⟨[.io true, .no], [(.sl .own (.sl .own .str)), (.int .i64)], [.val, .io], [(.int .i64), (.sl .own (.sl .own .str))], l_markStringSS N⟩ := by
  have hE : EnvOK Tryz.prog (E_l_markStringSS N) := ⟨tabP_ok, (fun _ _ h => by cases h), look_all (Q := fun t s => CtrX Tryz.prog Vp t s) _ (by
    intro p hp
    simp only [List.mem_cons, List.not_mem_nil, or_false] at hp
    rcases hp with rfl
    · exact c_l_markStringS N)⟩
  have h := fn_soundX hE (by kernel_rfl) (N := N) (A := A_l_markStringSS) (pl := [⟨0, .own true, (.sl .own (.sl .own .str))⟩, ⟨1, .val, (.int .i64)⟩]) (io := [.io true, .no]) (ks := [.val, .io]) (fid := 41) (fn := Tryz.f41) (c := ((Tryz.f41.body).getD .skip)) ⟨Tryz.func41, by kernel_rfl, by kernel_rfl, by kernel_rfl, by kernel_rfl, by kernel_rfl, Nat.le_of_ble_eq_true (by kernel_rfl), by kernel_rfl⟩
  have e : l_markStringSS N = evalF (E_l_markStringSS N) A_l_markStringSS N [⟨0, .own true, (.sl .own (.sl .own .str))⟩, ⟨1, .val, (.int .i64)⟩] ((Tryz.f41.body).getD .skip) := funext fun x => by kernel_rfl
  rw [e]
  exact h
noncomputable def E_l_heldStringS (N : Nat) : Cz := { tab := tabP, n := 22, V := Vp, ann := look [], fn := look [(68, (⟨[(.int .i64)], [.str], l_markText N⟩ : Fn))], fx := look [] }
def A_l_heldStringS : An := { join := look [], loop := look [(0, ⟨[⟨1, .val, (.int .i64)⟩, ⟨5, .val, (.int .i64)⟩], [⟨1, .val, (.int .i64)⟩], [1, 4, 5, 6, 7, 8, 9, 10, 11, 12, 13, 14, 15, 16, 17, 18, 19, 20]⟩)], ret := [⟨4, .val, (.int .i64)⟩] }
theorem c_l_heldStringS (N : Nat) : Ctr Tryz.prog Vp 33 ⟨[(.sl .lend .str), (.int .i64)], [(.int .i64)], l_heldStringS N⟩ := by
  have hE : EnvOK Tryz.prog (E_l_heldStringS N) := ⟨tabP_ok, look_all (Q := fun t s => Ctr Tryz.prog Vp t s) _ (by
    intro p hp
    simp only [List.mem_cons, List.not_mem_nil, or_false] at hp
    rcases hp with rfl
    · exact c_l_markText N), (fun _ _ h => by cases h)⟩
  have h := fn_sound hE (by kernel_rfl) (N := N) (A := A_l_heldStringS) (pl := [⟨0, .val, (.sl .lend .str)⟩, ⟨1, .val, (.int .i64)⟩]) (fid := 33) (fn := Tryz.f33) (c := ((Tryz.f33.body).getD .skip)) ⟨Tryz.func33, by kernel_rfl, by kernel_rfl, by kernel_rfl, Nat.le_of_ble_eq_true (by kernel_rfl), by kernel_rfl, by kernel_rfl, Nat.le_of_ble_eq_true (by kernel_rfl), by kernel_rfl⟩
  have e : l_heldStringS N = evalF (E_l_heldStringS N) A_l_heldStringS N [⟨0, .val, (.sl .lend .str)⟩, ⟨1, .val, (.int .i64)⟩] ((Tryz.f33.body).getD .skip) := funext fun x => by kernel_rfl
  rw [e]
  exact h
noncomputable def E_l_heldStringSS (N : Nat) : Cz := { tab := tabP, n := 21, V := Vp, ann := look [], fn := look [(33, (⟨[(.sl .lend .str), (.int .i64)], [(.int .i64)], l_heldStringS N⟩ : Fn))], fx := look [] }
def A_l_heldStringSS : An := { join := look [], loop := look [(0, ⟨[⟨1, .val, (.int .i64)⟩, ⟨5, .val, (.int .i64)⟩], [⟨1, .val, (.int .i64)⟩], [1, 4, 5, 6, 7, 8, 9, 10, 11, 12, 13, 14, 15, 16, 17, 18, 19]⟩)], ret := [⟨4, .val, (.int .i64)⟩] }
theorem c_l_heldStringSS (N : Nat) : Ctr Tryz.prog Vp 42 ⟨[(.sl .lend (.sl .lend .str)), (.int .i64)], [(.int .i64)], l_heldStringSS N⟩ := by
  have hE : EnvOK Tryz.prog (E_l_heldStringSS N) := ⟨tabP_ok, look_all (Q := fun t s => Ctr Tryz.prog Vp t s) _ (by
    intro p hp
    simp only [List.mem_cons, List.not_mem_nil, or_false] at hp
    rcases hp with rfl
    · exact c_l_heldStringS N), (fun _ _ h => by cases h)⟩
  have h := fn_sound hE (by kernel_rfl) (N := N) (A := A_l_heldStringSS) (pl := [⟨0, .val, (.sl .lend (.sl .lend .str))⟩, ⟨1, .val, (.int .i64)⟩]) (fid := 42) (fn := Tryz.f42) (c := ((Tryz.f42.body).getD .skip)) ⟨Tryz.func42, by kernel_rfl, by kernel_rfl, by kernel_rfl, Nat.le_of_ble_eq_true (by kernel_rfl), by kernel_rfl, by kernel_rfl, Nat.le_of_ble_eq_true (by kernel_rfl), by kernel_rfl⟩
  have e : l_heldStringSS N = evalF (E_l_heldStringSS N) A_l_heldStringSS N [⟨0, .val, (.sl .lend (.sl .lend .str))⟩, ⟨1, .val, (.int .i64)⟩] ((Tryz.f42.body).getD .skip) := funext fun x => by kernel_rfl
  rw [e]
  exact h
noncomputable def E_l_FnExactLevels (N : Nat) : Cz := { tab := tabP, n := 69, V := Vp, ann := look [], fn := look [(34, (⟨[(.sl .lend t51l), (.int .i64)], [(.int .i64)], l_szSrcS N⟩ : Fn)), (35, (⟨[(.sl .lend t51l)], [(.sl .own (.sl .own .str))], s_Levels N⟩ : Fn)), (36, (⟨[(.sl .lend t51l)], [(.sl .own t51o)], l_toSrcS N⟩ : Fn)), (37, (⟨[(.sl .lend t51l)], [(.sl .own (.sl .own .str))], i_Levels N⟩ : Fn)), (38, (⟨[(.sl .lend (.sl .lend .str)), (.sl .lend (.sl .lend .str))], [.bool], l_eqStringSS N⟩ : Fn)), (39, (⟨[(.sl .lend t51l), (.sl .lend t51l)], [.bool], l_eqSrcS N⟩ : Fn)), (42, (⟨[(.sl .lend (.sl .lend .str)), (.int .i64)], [(.int .i64)], l_heldStringSS N⟩ : Fn))], fx := look [(40, (⟨[.io true, .no], [(.sl .own t51o), (.int .i64)], [.val, .io], [(.int .i64), (.sl .own t51o)], l_markSrcS N⟩ : Fx)), (41, (⟨[.io true, .no], [(.sl .own (.sl .own .str)), (.int .i64)], [.val, .io], [(.int .i64), (.sl .own (.sl .own .str))], l_markStringSS N⟩ : Fx))] }
def A_l_FnExactLevels : An := { join := look [], loop := look [], ret := [⟨2, .val, .bool⟩] }
theorem c_l_FnExactLevels (N : Nat) : Ctr Tryz.prog Vp 6 ⟨[(.sl .lend t51l)], [.bool], l_FnExactLevels N⟩ := by
  have hE : EnvOK Tryz.prog (E_l_FnExactLevels N) := ⟨tabP_ok, look_all (Q := fun t s => Ctr Tryz.prog Vp t s) _ (by
    intro p hp
    simp only [List.mem_cons, List.not_mem_nil, or_false] at hp
    rcases hp with rfl | rfl | rfl | rfl | rfl | rfl | rfl
    · exact c_l_szSrcS N
    · exact c_s_Levels N
    · exact c_l_toSrcS N
    · exact c_i_Levels N
    · exact c_l_eqStringSS N
    · exact c_l_eqSrcS N
    · exact c_l_heldStringSS N), look_all (Q := fun t s => CtrX Tryz.prog Vp t s) _ (by
    intro p hp
    simp only [List.mem_cons, List.not_mem_nil, or_false] at hp
    rcases hp with rfl | rfl
    · exact c_l_markSrcS N
    · exact c_l_markStringSS N)⟩
  have h := fn_sound hE (by kernel_rfl) (N := N) (A := A_l_FnExactLevels) (pl := [⟨0, .val, (.sl .lend t51l)⟩]) (fid := 6) (fn := Tryz.f6) (c := ((Tryz.f6.body).getD .skip)) ⟨Tryz.func6, by kernel_rfl, by kernel_rfl, by kernel_rfl, Nat.le_of_ble_eq_true (by kernel_rfl), by kernel_rfl, by kernel_rfl, Nat.le_of_ble_eq_true (by kernel_rfl), by kernel_rfl⟩
  have e : l_FnExactLevels N = evalF (E_l_FnExactLevels N) A_l_FnExactLevels N [⟨0, .val, (.sl .lend t51l)⟩] ((Tryz.f6.body).getD .skip) := funext fun x => by kernel_rfl
  rw [e]
  exact h
end Go.Rf
