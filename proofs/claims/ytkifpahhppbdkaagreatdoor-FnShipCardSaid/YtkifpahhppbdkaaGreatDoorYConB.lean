/-
  Functions of the program do what their plain functions say (contracts).
-/
import Derived.Test.YtkifpahhppbdkaaGreatDoorYCopy
set_option linter.unusedSimpArgs false
set_option linter.unusedVariables false
set_option autoImplicit false
namespace Go.Rf
open Go.Proofs
set_option maxRecDepth 100000
noncomputable def E_l_big (N : Nat) : Cz := { tab := tabP, n := 6, V := Vp, ann := look [], fn := look [], fx := look [] }
def A_l_big : An := { join := look [], loop := look [], ret := [⟨2, .val, .bool⟩] }
theorem c_l_big (N : Nat) : Ctr Tryz.prog Vp 8 ⟨[(.sl .lend (.int .u8))], [.bool], l_big N⟩ := by
  have hE : EnvOK Tryz.prog (E_l_big N) := ⟨tabP_ok, (fun _ _ h => by cases h), (fun _ _ h => by cases h)⟩
  have h := fn_sound hE (by kernel_rfl) (N := N) (A := A_l_big) (pl := [⟨0, .val, (.sl .lend (.int .u8))⟩]) (fid := 8) (fn := Tryz.f8) (c := ((Tryz.f8.body).getD .skip)) ⟨Tryz.func8, by kernel_rfl, by kernel_rfl, by kernel_rfl, Nat.le_of_ble_eq_true (by kernel_rfl), by kernel_rfl, by kernel_rfl, Nat.le_of_ble_eq_true (by kernel_rfl), by kernel_rfl⟩
  have e : l_big N = evalF (E_l_big N) A_l_big N [⟨0, .val, (.sl .lend (.int .u8))⟩] ((Tryz.f8.body).getD .skip) := funext fun x => by kernel_rfl
  rw [e]
  exact h
noncomputable def E_s_l1New (N : Nat) : Cz := { tab := tabP, n := 32, V := Vp, ann := look [], fn := look [], fx := look [] }
def A_s_l1New : An := { join := look [], loop := look [(0, ⟨[⟨3, .val, (.int .i64)⟩, ⟨4, .val, (.int .i64)⟩], [⟨3, .val, (.int .i64)⟩], [3, 4, 8, 9, 10, 11, 12, 13, 14, 15, 16, 17, 18, 19, 20, 21, 22, 23, 24, 25, 26, 27]⟩)], ret := [⟨2, .box false, (.pair (.sl .keep (.int .u8)) (.pair (.int .i64) (.pair (.int .i64) .unit)))⟩] }
theorem c_s_l1New (N : Nat) : CtrX Tryz.prog Vp 48 ⟨[.no], [(.sl .keep (.int .u8))], [.ptr], [(.pair (.sl .keep (.int .u8)) (.pair (.int .i64) (.pair (.int .i64) .unit)))], s_l1New N⟩ := by
  have hE : EnvOK Tryz.prog (E_s_l1New N) := ⟨tabP_ok, (fun _ _ h => by cases h), (fun _ _ h => by cases h)⟩
  have h := fn_soundX hE (by kernel_rfl) (N := N) (A := A_s_l1New) (pl := [⟨0, .val, (.sl .keep (.int .u8))⟩]) (io := [.no]) (ks := [.ptr]) (fid := 48) (fn := Tryz.f48) (c := ((Tryz.f48.body).getD .skip)) ⟨Tryz.func48, by kernel_rfl, by kernel_rfl, by kernel_rfl, by kernel_rfl, by kernel_rfl, Nat.le_of_ble_eq_true (by kernel_rfl), by kernel_rfl⟩
  have e : s_l1New N = evalF (E_s_l1New N) A_s_l1New N [⟨0, .val, (.sl .keep (.int .u8))⟩] ((Tryz.f48.body).getD .skip) := funext fun x => by kernel_rfl
  rw [e]
  exact h
noncomputable def E_s_l1Byte (N : Nat) : Cz := { tab := tabP, n := 58, V := Vp, ann := look [], fn := look [], fx := look [] }
def A_s_l1Byte : An := { join := look [(34, ([⟨0, .box true, (.pair (.sl .keep (.int .u8)) (.pair (.int .i64) (.pair (.int .i64) .unit)))⟩, ⟨3, .val, (.int .i64)⟩], [3, 35, 36, 37, 38, 39, 40, 41, 42, 43, 44, 45, 46, 47, 48, 49, 50, 51, 52, 53, 54, 55, 56]))], loop := look [], ret := [⟨2, .val, (.int .i64)⟩, ⟨0, .box true, (.pair (.sl .keep (.int .u8)) (.pair (.int .i64) (.pair (.int .i64) .unit)))⟩] }
theorem c_s_l1Byte (N : Nat) : CtrX Tryz.prog Vp 152 ⟨[.io false], [(.pair (.sl .keep (.int .u8)) (.pair (.int .i64) (.pair (.int .i64) .unit)))], [.val, .io], [(.int .i64), (.pair (.sl .keep (.int .u8)) (.pair (.int .i64) (.pair (.int .i64) .unit)))], s_l1Byte N⟩ := by
  have hE : EnvOK Tryz.prog (E_s_l1Byte N) := ⟨tabP_ok, (fun _ _ h => by cases h), (fun _ _ h => by cases h)⟩
  have h := fn_soundX hE (by kernel_rfl) (N := N) (A := A_s_l1Byte) (pl := [⟨0, .box true, (.pair (.sl .keep (.int .u8)) (.pair (.int .i64) (.pair (.int .i64) .unit)))⟩]) (io := [.io false]) (ks := [.val, .io]) (fid := 152) (fn := Tryz.f152) (c := ((Tryz.f152.body).getD .skip)) ⟨Tryz.func152, by kernel_rfl, by kernel_rfl, by kernel_rfl, by kernel_rfl, by kernel_rfl, Nat.le_of_ble_eq_true (by kernel_rfl), by kernel_rfl⟩
  have e : s_l1Byte N = evalF (E_s_l1Byte N) A_s_l1Byte N [⟨0, .box true, (.pair (.sl .keep (.int .u8)) (.pair (.int .i64) (.pair (.int .i64) .unit)))⟩] ((Tryz.f152.body).getD .skip) := funext fun x => by kernel_rfl
  rw [e]
  exact h
noncomputable def E_s_l1Below (N : Nat) : Cz := { tab := tabP, n := 37, V := Vp, ann := look [], fn := look [], fx := look [(152, (⟨[.io false], [(.pair (.sl .keep (.int .u8)) (.pair (.int .i64) (.pair (.int .i64) .unit)))], [.val, .io], [(.int .i64), (.pair (.sl .keep (.int .u8)) (.pair (.int .i64) (.pair (.int .i64) .unit)))], s_l1Byte N⟩ : Fx))] }
def A_s_l1Below : An := { join := look [], loop := look [], ret := [⟨4, .val, (.int .i64)⟩, ⟨0, .box true, (.pair (.sl .keep (.int .u8)) (.pair (.int .i64) (.pair (.int .i64) .unit)))⟩] }
theorem c_s_l1Below (N : Nat) : CtrX Tryz.prog Vp 99 ⟨[.io false, .no], [(.pair (.sl .keep (.int .u8)) (.pair (.int .i64) (.pair (.int .i64) .unit))), (.int .i64)], [.val, .io], [(.int .i64), (.pair (.sl .keep (.int .u8)) (.pair (.int .i64) (.pair (.int .i64) .unit)))], s_l1Below N⟩ := by
  have hE : EnvOK Tryz.prog (E_s_l1Below N) := ⟨tabP_ok, (fun _ _ h => by cases h), look_all (Q := fun t s => CtrX Tryz.prog Vp t s) _ (by
    intro p hp
    simp only [List.mem_cons, List.not_mem_nil, or_false] at hp
    rcases hp with rfl
    · exact c_s_l1Byte N)⟩
  have h := fn_soundX hE (by kernel_rfl) (N := N) (A := A_s_l1Below) (pl := [⟨0, .box true, (.pair (.sl .keep (.int .u8)) (.pair (.int .i64) (.pair (.int .i64) .unit)))⟩, ⟨1, .val, (.int .i64)⟩]) (io := [.io false, .no]) (ks := [.val, .io]) (fid := 99) (fn := Tryz.f99) (c := ((Tryz.f99.body).getD .skip)) ⟨Tryz.func99, by kernel_rfl, by kernel_rfl, by kernel_rfl, by kernel_rfl, by kernel_rfl, Nat.le_of_ble_eq_true (by kernel_rfl), by kernel_rfl⟩
  have e : s_l1Below N = evalF (E_s_l1Below N) A_s_l1Below N [⟨0, .box true, (.pair (.sl .keep (.int .u8)) (.pair (.int .i64) (.pair (.int .i64) .unit)))⟩, ⟨1, .val, (.int .i64)⟩] ((Tryz.f99.body).getD .skip) := funext fun x => by kernel_rfl
  rw [e]
  exact h
noncomputable def E_s_l1Once (N : Nat) : Cz := { tab := tabP, n := 9, V := Vp, ann := look [], fn := look [], fx := look [(99, (⟨[.io false, .no], [(.pair (.sl .keep (.int .u8)) (.pair (.int .i64) (.pair (.int .i64) .unit))), (.int .i64)], [.val, .io], [(.int .i64), (.pair (.sl .keep (.int .u8)) (.pair (.int .i64) (.pair (.int .i64) .unit)))], s_l1Below N⟩ : Fx))] }
def A_s_l1Once : An := { join := look [], loop := look [], ret := [⟨4, .val, .bool⟩, ⟨0, .box true, (.pair (.sl .keep (.int .u8)) (.pair (.int .i64) (.pair (.int .i64) .unit)))⟩] }
theorem c_s_l1Once (N : Nat) : CtrX Tryz.prog Vp 98 ⟨[.io false, .no], [(.pair (.sl .keep (.int .u8)) (.pair (.int .i64) (.pair (.int .i64) .unit))), (.int .i64)], [.val, .io], [.bool, (.pair (.sl .keep (.int .u8)) (.pair (.int .i64) (.pair (.int .i64) .unit)))], s_l1Once N⟩ := by
  have hE : EnvOK Tryz.prog (E_s_l1Once N) := ⟨tabP_ok, (fun _ _ h => by cases h), look_all (Q := fun t s => CtrX Tryz.prog Vp t s) _ (by
    intro p hp
    simp only [List.mem_cons, List.not_mem_nil, or_false] at hp
    rcases hp with rfl
    · exact c_s_l1Below N)⟩
  have h := fn_soundX hE (by kernel_rfl) (N := N) (A := A_s_l1Once) (pl := [⟨0, .box true, (.pair (.sl .keep (.int .u8)) (.pair (.int .i64) (.pair (.int .i64) .unit)))⟩, ⟨1, .val, (.int .i64)⟩]) (io := [.io false, .no]) (ks := [.val, .io]) (fid := 98) (fn := Tryz.f98) (c := ((Tryz.f98.body).getD .skip)) ⟨Tryz.func98, by kernel_rfl, by kernel_rfl, by kernel_rfl, by kernel_rfl, by kernel_rfl, Nat.le_of_ble_eq_true (by kernel_rfl), by kernel_rfl⟩
  have e : s_l1Once N = evalF (E_s_l1Once N) A_s_l1Once N [⟨0, .box true, (.pair (.sl .keep (.int .u8)) (.pair (.int .i64) (.pair (.int .i64) .unit)))⟩, ⟨1, .val, (.int .i64)⟩] ((Tryz.f98.body).getD .skip) := funext fun x => by kernel_rfl
  rw [e]
  exact h
noncomputable def E_s_l1PickInt (N : Nat) : Cz := { tab := tabP, n := 12, V := Vp, ann := look [], fn := look [], fx := look [(99, (⟨[.io false, .no], [(.pair (.sl .keep (.int .u8)) (.pair (.int .i64) (.pair (.int .i64) .unit))), (.int .i64)], [.val, .io], [(.int .i64), (.pair (.sl .keep (.int .u8)) (.pair (.int .i64) (.pair (.int .i64) .unit)))], s_l1Below N⟩ : Fx))] }
def A_s_l1PickInt : An := { join := look [], loop := look [], ret := [⟨4, .val, (.int .i64)⟩, ⟨0, .box true, (.pair (.sl .keep (.int .u8)) (.pair (.int .i64) (.pair (.int .i64) .unit)))⟩] }
theorem c_s_l1PickInt (N : Nat) : CtrX Tryz.prog Vp 102 ⟨[.io false, .no], [(.pair (.sl .keep (.int .u8)) (.pair (.int .i64) (.pair (.int .i64) .unit))), (.sl .lend (.int .i64))], [.val, .io], [(.int .i64), (.pair (.sl .keep (.int .u8)) (.pair (.int .i64) (.pair (.int .i64) .unit)))], s_l1PickInt N⟩ := by
  have hE : EnvOK Tryz.prog (E_s_l1PickInt N) := ⟨tabP_ok, (fun _ _ h => by cases h), look_all (Q := fun t s => CtrX Tryz.prog Vp t s) _ (by
    intro p hp
    simp only [List.mem_cons, List.not_mem_nil, or_false] at hp
    rcases hp with rfl
    · exact c_s_l1Below N)⟩
  have h := fn_soundX hE (by kernel_rfl) (N := N) (A := A_s_l1PickInt) (pl := [⟨0, .box true, (.pair (.sl .keep (.int .u8)) (.pair (.int .i64) (.pair (.int .i64) .unit)))⟩, ⟨1, .val, (.sl .lend (.int .i64))⟩]) (io := [.io false, .no]) (ks := [.val, .io]) (fid := 102) (fn := Tryz.f102) (c := ((Tryz.f102.body).getD .skip)) ⟨Tryz.func102, by kernel_rfl, by kernel_rfl, by kernel_rfl, by kernel_rfl, by kernel_rfl, Nat.le_of_ble_eq_true (by kernel_rfl), by kernel_rfl⟩
  have e : s_l1PickInt N = evalF (E_s_l1PickInt N) A_s_l1PickInt N [⟨0, .box true, (.pair (.sl .keep (.int .u8)) (.pair (.int .i64) (.pair (.int .i64) .unit)))⟩, ⟨1, .val, (.sl .lend (.int .i64))⟩] ((Tryz.f102.body).getD .skip) := funext fun x => by kernel_rfl
  rw [e]
  exact h
noncomputable def E_s_l1Pick (N : Nat) : Cz := { tab := tabP, n := 12, V := Vp, ann := look [], fn := look [], fx := look [(99, (⟨[.io false, .no], [(.pair (.sl .keep (.int .u8)) (.pair (.int .i64) (.pair (.int .i64) .unit))), (.int .i64)], [.val, .io], [(.int .i64), (.pair (.sl .keep (.int .u8)) (.pair (.int .i64) (.pair (.int .i64) .unit)))], s_l1Below N⟩ : Fx))] }
def A_s_l1Pick : An := { join := look [], loop := look [], ret := [⟨4, .val, .str⟩, ⟨0, .box true, (.pair (.sl .keep (.int .u8)) (.pair (.int .i64) (.pair (.int .i64) .unit)))⟩] }
theorem c_s_l1Pick (N : Nat) : CtrX Tryz.prog Vp 103 ⟨[.io false, .no], [(.pair (.sl .keep (.int .u8)) (.pair (.int .i64) (.pair (.int .i64) .unit))), (.sl .lend .str)], [.val, .io], [.str, (.pair (.sl .keep (.int .u8)) (.pair (.int .i64) (.pair (.int .i64) .unit)))], s_l1Pick N⟩ := by
  have hE : EnvOK Tryz.prog (E_s_l1Pick N) := ⟨tabP_ok, (fun _ _ h => by cases h), look_all (Q := fun t s => CtrX Tryz.prog Vp t s) _ (by
    intro p hp
    simp only [List.mem_cons, List.not_mem_nil, or_false] at hp
    rcases hp with rfl
    · exact c_s_l1Below N)⟩
  have h := fn_soundX hE (by kernel_rfl) (N := N) (A := A_s_l1Pick) (pl := [⟨0, .box true, (.pair (.sl .keep (.int .u8)) (.pair (.int .i64) (.pair (.int .i64) .unit)))⟩, ⟨1, .val, (.sl .lend .str)⟩]) (io := [.io false, .no]) (ks := [.val, .io]) (fid := 103) (fn := Tryz.f103) (c := ((Tryz.f103.body).getD .skip)) ⟨Tryz.func103, by kernel_rfl, by kernel_rfl, by kernel_rfl, by kernel_rfl, by kernel_rfl, Nat.le_of_ble_eq_true (by kernel_rfl), by kernel_rfl⟩
  have e : s_l1Pick N = evalF (E_s_l1Pick N) A_s_l1Pick N [⟨0, .box true, (.pair (.sl .keep (.int .u8)) (.pair (.int .i64) (.pair (.int .i64) .unit)))⟩, ⟨1, .val, (.sl .lend .str)⟩] ((Tryz.f103.body).getD .skip) := funext fun x => by kernel_rfl
  rw [e]
  exact h
noncomputable def E_s_l6Val (N : Nat) : Cz := { tab := tabP, n := 55, V := Vp, ann := look [(40, (.int .i64)), (52, .str)], fn := look [], fx := look [(98, (⟨[.io false, .no], [(.pair (.sl .keep (.int .u8)) (.pair (.int .i64) (.pair (.int .i64) .unit))), (.int .i64)], [.val, .io], [.bool, (.pair (.sl .keep (.int .u8)) (.pair (.int .i64) (.pair (.int .i64) .unit)))], s_l1Once N⟩ : Fx)), (99, (⟨[.io false, .no], [(.pair (.sl .keep (.int .u8)) (.pair (.int .i64) (.pair (.int .i64) .unit))), (.int .i64)], [.val, .io], [(.int .i64), (.pair (.sl .keep (.int .u8)) (.pair (.int .i64) (.pair (.int .i64) .unit)))], s_l1Below N⟩ : Fx)), (102, (⟨[.io false, .no], [(.pair (.sl .keep (.int .u8)) (.pair (.int .i64) (.pair (.int .i64) .unit))), (.sl .lend (.int .i64))], [.val, .io], [(.int .i64), (.pair (.sl .keep (.int .u8)) (.pair (.int .i64) (.pair (.int .i64) .unit)))], s_l1PickInt N⟩ : Fx)), (103, (⟨[.io false, .no], [(.pair (.sl .keep (.int .u8)) (.pair (.int .i64) (.pair (.int .i64) .unit))), (.sl .lend .str)], [.val, .io], [.str, (.pair (.sl .keep (.int .u8)) (.pair (.int .i64) (.pair (.int .i64) .unit)))], s_l1Pick N⟩ : Fx))] }
def A_s_l6Val : An := { join := look [(36, ([⟨0, .box true, (.pair (.sl .keep (.int .u8)) (.pair (.int .i64) (.pair (.int .i64) .unit)))⟩, ⟨4, .box false, (.pair (.int .i64) (.pair (.int .i64) (.pair .str .unit)))⟩, ⟨36, .val, .bool⟩], [36, 38]))], loop := look [], ret := [⟨4, .box false, (.pair (.int .i64) (.pair (.int .i64) (.pair .str .unit)))⟩, ⟨0, .box true, (.pair (.sl .keep (.int .u8)) (.pair (.int .i64) (.pair (.int .i64) .unit)))⟩] }
theorem c_s_l6Val (N : Nat) : CtrX Tryz.prog Vp 101 ⟨[.io false, .no], [(.pair (.sl .keep (.int .u8)) (.pair (.int .i64) (.pair (.int .i64) .unit))), (.sl .lend (.pair (.int .i64) (.pair .str (.pair (.int .i64) (.pair (.int .i64) (.pair (.sl .lend .str) (.pair (.sl .lend (.pair (.int .i64) (.pair (.int .i64) (.pair .str .unit)))) .unit)))))))], [.val, .io], [(.pair (.int .i64) (.pair (.int .i64) (.pair .str .unit))), (.pair (.sl .keep (.int .u8)) (.pair (.int .i64) (.pair (.int .i64) .unit)))], s_l6Val N⟩ := by
  have hE : EnvOK Tryz.prog (E_s_l6Val N) := ⟨tabP_ok, (fun _ _ h => by cases h), look_all (Q := fun t s => CtrX Tryz.prog Vp t s) _ (by
    intro p hp
    simp only [List.mem_cons, List.not_mem_nil, or_false] at hp
    rcases hp with rfl | rfl | rfl | rfl
    · exact c_s_l1Once N
    · exact c_s_l1Below N
    · exact c_s_l1PickInt N
    · exact c_s_l1Pick N)⟩
  have h := fn_soundX hE (by kernel_rfl) (N := N) (A := A_s_l6Val) (pl := [⟨0, .box true, (.pair (.sl .keep (.int .u8)) (.pair (.int .i64) (.pair (.int .i64) .unit)))⟩, ⟨1, .val, (.sl .lend (.pair (.int .i64) (.pair .str (.pair (.int .i64) (.pair (.int .i64) (.pair (.sl .lend .str) (.pair (.sl .lend (.pair (.int .i64) (.pair (.int .i64) (.pair .str .unit)))) .unit)))))))⟩]) (io := [.io false, .no]) (ks := [.val, .io]) (fid := 101) (fn := Tryz.f101) (c := ((Tryz.f101.body).getD .skip)) ⟨Tryz.func101, by kernel_rfl, by kernel_rfl, by kernel_rfl, by kernel_rfl, by kernel_rfl, Nat.le_of_ble_eq_true (by kernel_rfl), by kernel_rfl⟩
  have e : s_l6Val N = evalF (E_s_l6Val N) A_s_l6Val N [⟨0, .box true, (.pair (.sl .keep (.int .u8)) (.pair (.int .i64) (.pair (.int .i64) .unit)))⟩, ⟨1, .val, (.sl .lend (.pair (.int .i64) (.pair .str (.pair (.int .i64) (.pair (.int .i64) (.pair (.sl .lend .str) (.pair (.sl .lend (.pair (.int .i64) (.pair (.int .i64) (.pair .str .unit)))) .unit)))))))⟩] ((Tryz.f101.body).getD .skip) := funext fun x => by kernel_rfl
  rw [e]
  exact h
noncomputable def E_s_l6AnyVal (N : Nat) : Cz := { tab := tabP, n := 27, V := Vp, ann := look [(23, (.int .i64))], fn := look [], fx := look [(98, (⟨[.io false, .no], [(.pair (.sl .keep (.int .u8)) (.pair (.int .i64) (.pair (.int .i64) .unit))), (.int .i64)], [.val, .io], [.bool, (.pair (.sl .keep (.int .u8)) (.pair (.int .i64) (.pair (.int .i64) .unit)))], s_l1Once N⟩ : Fx)), (99, (⟨[.io false, .no], [(.pair (.sl .keep (.int .u8)) (.pair (.int .i64) (.pair (.int .i64) .unit))), (.int .i64)], [.val, .io], [(.int .i64), (.pair (.sl .keep (.int .u8)) (.pair (.int .i64) (.pair (.int .i64) .unit)))], s_l1Below N⟩ : Fx)), (101, (⟨[.io false, .no], [(.pair (.sl .keep (.int .u8)) (.pair (.int .i64) (.pair (.int .i64) .unit))), (.sl .lend (.pair (.int .i64) (.pair .str (.pair (.int .i64) (.pair (.int .i64) (.pair (.sl .lend .str) (.pair (.sl .lend (.pair (.int .i64) (.pair (.int .i64) (.pair .str .unit)))) .unit)))))))], [.val, .io], [(.pair (.int .i64) (.pair (.int .i64) (.pair .str .unit))), (.pair (.sl .keep (.int .u8)) (.pair (.int .i64) (.pair (.int .i64) .unit)))], s_l6Val N⟩ : Fx)), (102, (⟨[.io false, .no], [(.pair (.sl .keep (.int .u8)) (.pair (.int .i64) (.pair (.int .i64) .unit))), (.sl .lend (.int .i64))], [.val, .io], [(.int .i64), (.pair (.sl .keep (.int .u8)) (.pair (.int .i64) (.pair (.int .i64) .unit)))], s_l1PickInt N⟩ : Fx))] }
def A_s_l6AnyVal : An := { join := look [(20, ([⟨0, .box true, (.pair (.sl .keep (.int .u8)) (.pair (.int .i64) (.pair (.int .i64) .unit)))⟩, ⟨4, .box false, (.pair (.int .i64) (.pair (.int .i64) (.pair .str .unit)))⟩, ⟨5, .box false, (.pair (.int .i64) (.pair (.int .i64) (.pair .str .unit)))⟩], [13, 22, 23, 24, 25])), (14, ([⟨0, .box true, (.pair (.sl .keep (.int .u8)) (.pair (.int .i64) (.pair (.int .i64) .unit)))⟩, ⟨4, .box false, (.pair (.int .i64) (.pair (.int .i64) (.pair .str .unit)))⟩, ⟨5, .box false, (.pair (.int .i64) (.pair (.int .i64) (.pair .str .unit)))⟩], [13, 16, 17, 18, 19, 20, 21, 22, 23, 24, 25])), (10, ([⟨0, .box true, (.pair (.sl .keep (.int .u8)) (.pair (.int .i64) (.pair (.int .i64) .unit)))⟩, ⟨4, .box false, (.pair (.int .i64) (.pair (.int .i64) (.pair .str .unit)))⟩, ⟨5, .box false, (.pair (.int .i64) (.pair (.int .i64) (.pair .str .unit)))⟩], [11, 12, 13, 14, 15, 16, 17, 18, 19, 20, 21, 22, 23, 24, 25]))], loop := look [], ret := [⟨4, .box false, (.pair (.int .i64) (.pair (.int .i64) (.pair .str .unit)))⟩, ⟨0, .box true, (.pair (.sl .keep (.int .u8)) (.pair (.int .i64) (.pair (.int .i64) .unit)))⟩] }
theorem c_s_l6AnyVal (N : Nat) : CtrX Tryz.prog Vp 100 ⟨[.io false, .no], [(.pair (.sl .keep (.int .u8)) (.pair (.int .i64) (.pair (.int .i64) .unit))), (.sl .lend (.pair (.int .i64) (.pair .str (.pair (.int .i64) (.pair (.int .i64) (.pair (.sl .lend .str) (.pair (.sl .lend (.pair (.int .i64) (.pair (.int .i64) (.pair .str .unit)))) .unit)))))))], [.val, .io], [(.pair (.int .i64) (.pair (.int .i64) (.pair .str .unit))), (.pair (.sl .keep (.int .u8)) (.pair (.int .i64) (.pair (.int .i64) .unit)))], s_l6AnyVal N⟩ := by
  have hE : EnvOK Tryz.prog (E_s_l6AnyVal N) := ⟨tabP_ok, (fun _ _ h => by cases h), look_all (Q := fun t s => CtrX Tryz.prog Vp t s) _ (by
    intro p hp
    simp only [List.mem_cons, List.not_mem_nil, or_false] at hp
    rcases hp with rfl | rfl | rfl | rfl
    · exact c_s_l1Once N
    · exact c_s_l1Below N
    · exact c_s_l6Val N
    · exact c_s_l1PickInt N)⟩
  have h := fn_soundX hE (by kernel_rfl) (N := N) (A := A_s_l6AnyVal) (pl := [⟨0, .box true, (.pair (.sl .keep (.int .u8)) (.pair (.int .i64) (.pair (.int .i64) .unit)))⟩, ⟨1, .val, (.sl .lend (.pair (.int .i64) (.pair .str (.pair (.int .i64) (.pair (.int .i64) (.pair (.sl .lend .str) (.pair (.sl .lend (.pair (.int .i64) (.pair (.int .i64) (.pair .str .unit)))) .unit)))))))⟩]) (io := [.io false, .no]) (ks := [.val, .io]) (fid := 100) (fn := Tryz.f100) (c := ((Tryz.f100.body).getD .skip)) ⟨Tryz.func100, by kernel_rfl, by kernel_rfl, by kernel_rfl, by kernel_rfl, by kernel_rfl, Nat.le_of_ble_eq_true (by kernel_rfl), by kernel_rfl⟩
  have e : s_l6AnyVal N = evalF (E_s_l6AnyVal N) A_s_l6AnyVal N [⟨0, .box true, (.pair (.sl .keep (.int .u8)) (.pair (.int .i64) (.pair (.int .i64) .unit)))⟩, ⟨1, .val, (.sl .lend (.pair (.int .i64) (.pair .str (.pair (.int .i64) (.pair (.int .i64) (.pair (.sl .lend .str) (.pair (.sl .lend (.pair (.int .i64) (.pair (.int .i64) (.pair .str .unit)))) .unit)))))))⟩] ((Tryz.f100.body).getD .skip) := funext fun x => by kernel_rfl
  rw [e]
  exact h
noncomputable def E_s_l6Heap (N : Nat) : Cz := { tab := tabP, n := 104, V := Vp, ann := look [(25, (.pair (.int .i64) (.pair (.int .i64) (.pair .str .unit)))), (27, (.pair (.int .i64) (.pair .str (.pair (.int .i64) (.pair (.int .i64) (.pair (.sl .own .str) (.pair (.sl .own (.pair (.int .i64) (.pair (.int .i64) (.pair .str .unit)))) .unit))))))), (28, (.pair (.int .i64) (.pair .str (.pair (.int .i64) (.pair (.int .i64) (.pair (.sl .own .str) (.pair (.sl .own (.pair (.int .i64) (.pair (.int .i64) (.pair .str .unit)))) .unit))))))), (35, (.pair (.int .i64) (.pair (.int .i64) (.pair .str .unit)))), (37, (.pair (.int .i64) (.pair .str (.pair (.int .i64) (.pair (.int .i64) (.pair (.sl .own .str) (.pair (.sl .own (.pair (.int .i64) (.pair (.int .i64) (.pair .str .unit)))) .unit))))))), (38, (.pair (.int .i64) (.pair .str (.pair (.int .i64) (.pair (.int .i64) (.pair (.sl .own .str) (.pair (.sl .own (.pair (.int .i64) (.pair (.int .i64) (.pair .str .unit)))) .unit))))))), (42, .str), (46, (.pair (.int .i64) (.pair (.int .i64) (.pair .str .unit)))), (48, (.pair (.int .i64) (.pair .str (.pair (.int .i64) (.pair (.int .i64) (.pair (.sl .own .str) (.pair (.sl .own (.pair (.int .i64) (.pair (.int .i64) (.pair .str .unit)))) .unit))))))), (49, (.pair (.int .i64) (.pair .str (.pair (.int .i64) (.pair (.int .i64) (.pair (.sl .own .str) (.pair (.sl .own (.pair (.int .i64) (.pair (.int .i64) (.pair .str .unit)))) .unit))))))), (66, .str), (90, (.pair (.int .i64) (.pair (.int .i64) (.pair .str .unit)))), (99, (.int .i64))], fn := look [], fx := look [(98, (⟨[.io false, .no], [(.pair (.sl .keep (.int .u8)) (.pair (.int .i64) (.pair (.int .i64) .unit))), (.int .i64)], [.val, .io], [.bool, (.pair (.sl .keep (.int .u8)) (.pair (.int .i64) (.pair (.int .i64) .unit)))], s_l1Once N⟩ : Fx)), (99, (⟨[.io false, .no], [(.pair (.sl .keep (.int .u8)) (.pair (.int .i64) (.pair (.int .i64) .unit))), (.int .i64)], [.val, .io], [(.int .i64), (.pair (.sl .keep (.int .u8)) (.pair (.int .i64) (.pair (.int .i64) .unit)))], s_l1Below N⟩ : Fx)), (100, (⟨[.io false, .no], [(.pair (.sl .keep (.int .u8)) (.pair (.int .i64) (.pair (.int .i64) .unit))), (.sl .lend (.pair (.int .i64) (.pair .str (.pair (.int .i64) (.pair (.int .i64) (.pair (.sl .lend .str) (.pair (.sl .lend (.pair (.int .i64) (.pair (.int .i64) (.pair .str .unit)))) .unit)))))))], [.val, .io], [(.pair (.int .i64) (.pair (.int .i64) (.pair .str .unit))), (.pair (.sl .keep (.int .u8)) (.pair (.int .i64) (.pair (.int .i64) .unit)))], s_l6AnyVal N⟩ : Fx)), (101, (⟨[.io false, .no], [(.pair (.sl .keep (.int .u8)) (.pair (.int .i64) (.pair (.int .i64) .unit))), (.sl .lend (.pair (.int .i64) (.pair .str (.pair (.int .i64) (.pair (.int .i64) (.pair (.sl .lend .str) (.pair (.sl .lend (.pair (.int .i64) (.pair (.int .i64) (.pair .str .unit)))) .unit)))))))], [.val, .io], [(.pair (.int .i64) (.pair (.int .i64) (.pair .str .unit))), (.pair (.sl .keep (.int .u8)) (.pair (.int .i64) (.pair (.int .i64) .unit)))], s_l6Val N⟩ : Fx)), (102, (⟨[.io false, .no], [(.pair (.sl .keep (.int .u8)) (.pair (.int .i64) (.pair (.int .i64) .unit))), (.sl .lend (.int .i64))], [.val, .io], [(.int .i64), (.pair (.sl .keep (.int .u8)) (.pair (.int .i64) (.pair (.int .i64) .unit)))], s_l1PickInt N⟩ : Fx)), (103, (⟨[.io false, .no], [(.pair (.sl .keep (.int .u8)) (.pair (.int .i64) (.pair (.int .i64) .unit))), (.sl .lend .str)], [.val, .io], [.str, (.pair (.sl .keep (.int .u8)) (.pair (.int .i64) (.pair (.int .i64) .unit)))], s_l1Pick N⟩ : Fx))] }
def A_s_l6Heap : An := { join := look [(39, ([⟨0, .box true, (.pair (.sl .keep (.int .u8)) (.pair (.int .i64) (.pair (.int .i64) .unit)))⟩, ⟨5, .own false, (.sl .own (.pair (.int .i64) (.pair .str (.pair (.int .i64) (.pair (.int .i64) (.pair (.sl .own .str) (.pair (.sl .own (.pair (.int .i64) (.pair (.int .i64) (.pair .str .unit)))) .unit)))))))⟩], [5, 18, 19, 20, 21, 22, 23, 24, 25, 26, 27, 28, 41, 42, 43, 44, 45, 46, 47, 48, 49])), (29, ([⟨0, .box true, (.pair (.sl .keep (.int .u8)) (.pair (.int .i64) (.pair (.int .i64) .unit)))⟩, ⟨5, .own false, (.sl .own (.pair (.int .i64) (.pair .str (.pair (.int .i64) (.pair (.int .i64) (.pair (.sl .own .str) (.pair (.sl .own (.pair (.int .i64) (.pair (.int .i64) (.pair .str .unit)))) .unit)))))))⟩], [5, 18, 19, 20, 21, 22, 23, 24, 25, 26, 27, 28, 31, 32, 33, 34, 35, 36, 37, 38, 39, 40, 41, 42, 43, 44, 45, 46, 47, 48, 49])), (94, ([⟨0, .box true, (.pair (.sl .keep (.int .u8)) (.pair (.int .i64) (.pair (.int .i64) .unit)))⟩, ⟨5, .own false, (.sl .own (.pair (.int .i64) (.pair .str (.pair (.int .i64) (.pair (.int .i64) (.pair (.sl .own .str) (.pair (.sl .own (.pair (.int .i64) (.pair (.int .i64) (.pair .str .unit)))) .unit)))))))⟩], [63, 64, 65, 66, 67, 68, 69, 96, 97, 98, 99, 100, 101, 102])), (78, ([⟨0, .box true, (.pair (.sl .keep (.int .u8)) (.pair (.int .i64) (.pair (.int .i64) .unit)))⟩, ⟨5, .own false, (.sl .own (.pair (.int .i64) (.pair .str (.pair (.int .i64) (.pair (.int .i64) (.pair (.sl .own .str) (.pair (.sl .own (.pair (.int .i64) (.pair (.int .i64) (.pair .str .unit)))) .unit)))))))⟩], [63, 64, 65, 66, 67, 68, 69, 80, 81, 82, 83, 84, 85, 86, 87, 88, 89, 90, 91, 92, 93, 94, 95, 96, 97, 98, 99, 100, 101, 102])), (70, ([⟨0, .box true, (.pair (.sl .keep (.int .u8)) (.pair (.int .i64) (.pair (.int .i64) .unit)))⟩, ⟨5, .own false, (.sl .own (.pair (.int .i64) (.pair .str (.pair (.int .i64) (.pair (.int .i64) (.pair (.sl .own .str) (.pair (.sl .own (.pair (.int .i64) (.pair (.int .i64) (.pair .str .unit)))) .unit)))))))⟩], [63, 64, 65, 66, 67, 68, 69, 72, 73, 74, 75, 76, 77, 78, 79, 80, 81, 82, 83, 84, 85, 86, 87, 88, 89, 90, 91, 92, 93, 94, 95, 96, 97, 98, 99, 100, 101, 102])), (56, ([⟨0, .box true, (.pair (.sl .keep (.int .u8)) (.pair (.int .i64) (.pair (.int .i64) .unit)))⟩, ⟨5, .own false, (.sl .own (.pair (.int .i64) (.pair .str (.pair (.int .i64) (.pair (.int .i64) (.pair (.sl .own .str) (.pair (.sl .own (.pair (.int .i64) (.pair (.int .i64) (.pair .str .unit)))) .unit)))))))⟩], [7, 57, 58, 59, 60, 61, 62, 63, 64, 65, 66, 67, 68, 69, 70, 71, 72, 73, 74, 75, 76, 77, 78, 79, 80, 81, 82, 83, 84, 85, 86, 87, 88, 89, 90, 91, 92, 93, 94, 95, 96, 97, 98, 99, 100, 101, 102]))], loop := look [(0, ⟨[⟨0, .box true, (.pair (.sl .keep (.int .u8)) (.pair (.int .i64) (.pair (.int .i64) .unit)))⟩, ⟨5, .own false, (.sl .own (.pair (.int .i64) (.pair .str (.pair (.int .i64) (.pair (.int .i64) (.pair (.sl .own .str) (.pair (.sl .own (.pair (.int .i64) (.pair (.int .i64) (.pair .str .unit)))) .unit)))))))⟩, ⟨6, .val, (.int .i64)⟩], [⟨0, .box true, (.pair (.sl .keep (.int .u8)) (.pair (.int .i64) (.pair (.int .i64) .unit)))⟩, ⟨5, .own false, (.sl .own (.pair (.int .i64) (.pair .str (.pair (.int .i64) (.pair (.int .i64) (.pair (.sl .own .str) (.pair (.sl .own (.pair (.int .i64) (.pair (.int .i64) (.pair .str .unit)))) .unit)))))))⟩], [5, 6, 12, 13, 14, 15, 16, 17, 18, 19, 20, 21, 22, 23, 24, 25, 26, 27, 28, 29, 30, 31, 32, 33, 34, 35, 36, 37, 38, 39, 40, 41, 42, 43, 44, 45, 46, 47, 48, 49]⟩)], ret := [⟨4, .own false, (.sl .own (.pair (.int .i64) (.pair .str (.pair (.int .i64) (.pair (.int .i64) (.pair (.sl .own .str) (.pair (.sl .own (.pair (.int .i64) (.pair (.int .i64) (.pair .str .unit)))) .unit)))))))⟩, ⟨0, .box true, (.pair (.sl .keep (.int .u8)) (.pair (.int .i64) (.pair (.int .i64) .unit)))⟩] }
theorem c_s_l6Heap (N : Nat) : CtrX Tryz.prog Vp 50 ⟨[.io false, .no], [(.pair (.sl .keep (.int .u8)) (.pair (.int .i64) (.pair (.int .i64) .unit))), (.int .i64)], [.val, .io], [(.sl .own (.pair (.int .i64) (.pair .str (.pair (.int .i64) (.pair (.int .i64) (.pair (.sl .own .str) (.pair (.sl .own (.pair (.int .i64) (.pair (.int .i64) (.pair .str .unit)))) .unit))))))), (.pair (.sl .keep (.int .u8)) (.pair (.int .i64) (.pair (.int .i64) .unit)))], s_l6Heap N⟩ := by
  have hE : EnvOK Tryz.prog (E_s_l6Heap N) := ⟨tabP_ok, (fun _ _ h => by cases h), look_all (Q := fun t s => CtrX Tryz.prog Vp t s) _ (by
    intro p hp
    simp only [List.mem_cons, List.not_mem_nil, or_false] at hp
    rcases hp with rfl | rfl | rfl | rfl | rfl | rfl
    · exact c_s_l1Once N
    · exact c_s_l1Below N
    · exact c_s_l6AnyVal N
    · exact c_s_l6Val N
    · exact c_s_l1PickInt N
    · exact c_s_l1Pick N)⟩
  have h := fn_soundX hE (by kernel_rfl) (N := N) (A := A_s_l6Heap) (pl := [⟨0, .box true, (.pair (.sl .keep (.int .u8)) (.pair (.int .i64) (.pair (.int .i64) .unit)))⟩, ⟨1, .val, (.int .i64)⟩]) (io := [.io false, .no]) (ks := [.val, .io]) (fid := 50) (fn := Tryz.f50) (c := ((Tryz.f50.body).getD .skip)) ⟨Tryz.func50, by kernel_rfl, by kernel_rfl, by kernel_rfl, by kernel_rfl, by kernel_rfl, Nat.le_of_ble_eq_true (by kernel_rfl), by kernel_rfl⟩
  have e : s_l6Heap N = evalF (E_s_l6Heap N) A_s_l6Heap N [⟨0, .box true, (.pair (.sl .keep (.int .u8)) (.pair (.int .i64) (.pair (.int .i64) .unit)))⟩, ⟨1, .val, (.int .i64)⟩] ((Tryz.f50.body).getD .skip) := funext fun x => by kernel_rfl
  rw [e]
  exact h
noncomputable def E_s_l1Size (N : Nat) : Cz := { tab := tabP, n := 15, V := Vp, ann := look [], fn := look [], fx := look [] }
def A_s_l1Size : An := { join := look [], loop := look [], ret := [⟨4, .val, (.int .i64)⟩] }
theorem c_s_l1Size (N : Nat) : Ctr Tryz.prog Vp 51 ⟨[(.sl .lend (.int .u8)), (.int .i64)], [(.int .i64)], s_l1Size N⟩ := by
  have hE : EnvOK Tryz.prog (E_s_l1Size N) := ⟨tabP_ok, (fun _ _ h => by cases h), (fun _ _ h => by cases h)⟩
  have h := fn_sound hE (by kernel_rfl) (N := N) (A := A_s_l1Size) (pl := [⟨0, .val, (.sl .lend (.int .u8))⟩, ⟨1, .val, (.int .i64)⟩]) (fid := 51) (fn := Tryz.f51) (c := ((Tryz.f51.body).getD .skip)) ⟨Tryz.func51, by kernel_rfl, by kernel_rfl, by kernel_rfl, Nat.le_of_ble_eq_true (by kernel_rfl), by kernel_rfl, by kernel_rfl, Nat.le_of_ble_eq_true (by kernel_rfl), by kernel_rfl⟩
  have e : s_l1Size N = evalF (E_s_l1Size N) A_s_l1Size N [⟨0, .val, (.sl .lend (.int .u8))⟩, ⟨1, .val, (.int .i64)⟩] ((Tryz.f51.body).getD .skip) := funext fun x => by kernel_rfl
  rw [e]
  exact h
noncomputable def E_s_l30Two (N : Nat) : Cz := { tab := tabP, n := 47, V := Vp, ann := look [(17, (.pair (.int .i64) (.pair (.int .i64) (.pair .str .unit)))), (19, (.pair (.int .i64) (.pair .str (.pair (.int .i64) (.pair (.int .i64) (.pair (.sl .own .str) (.pair (.sl .own (.pair (.int .i64) (.pair (.int .i64) (.pair .str .unit)))) .unit))))))), (34, (.pair (.int .i64) (.pair (.int .i64) (.pair .str .unit)))), (36, (.pair (.int .i64) (.pair .str (.pair (.int .i64) (.pair (.int .i64) (.pair (.sl .own .str) (.pair (.sl .own (.pair (.int .i64) (.pair (.int .i64) (.pair .str .unit)))) .unit)))))))], fn := look [(51, (⟨[(.sl .lend (.int .u8)), (.int .i64)], [(.int .i64)], s_l1Size N⟩ : Fn))], fx := look [(50, (⟨[.io false, .no], [(.pair (.sl .keep (.int .u8)) (.pair (.int .i64) (.pair (.int .i64) .unit))), (.int .i64)], [.val, .io], [(.sl .own (.pair (.int .i64) (.pair .str (.pair (.int .i64) (.pair (.int .i64) (.pair (.sl .own .str) (.pair (.sl .own (.pair (.int .i64) (.pair (.int .i64) (.pair .str .unit)))) .unit))))))), (.pair (.sl .keep (.int .u8)) (.pair (.int .i64) (.pair (.int .i64) .unit)))], s_l6Heap N⟩ : Fx)), (98, (⟨[.io false, .no], [(.pair (.sl .keep (.int .u8)) (.pair (.int .i64) (.pair (.int .i64) .unit))), (.int .i64)], [.val, .io], [.bool, (.pair (.sl .keep (.int .u8)) (.pair (.int .i64) (.pair (.int .i64) .unit)))], s_l1Once N⟩ : Fx)), (99, (⟨[.io false, .no], [(.pair (.sl .keep (.int .u8)) (.pair (.int .i64) (.pair (.int .i64) .unit))), (.int .i64)], [.val, .io], [(.int .i64), (.pair (.sl .keep (.int .u8)) (.pair (.int .i64) (.pair (.int .i64) .unit)))], s_l1Below N⟩ : Fx)), (100, (⟨[.io false, .no], [(.pair (.sl .keep (.int .u8)) (.pair (.int .i64) (.pair (.int .i64) .unit))), (.sl .lend (.pair (.int .i64) (.pair .str (.pair (.int .i64) (.pair (.int .i64) (.pair (.sl .lend .str) (.pair (.sl .lend (.pair (.int .i64) (.pair (.int .i64) (.pair .str .unit)))) .unit)))))))], [.val, .io], [(.pair (.int .i64) (.pair (.int .i64) (.pair .str .unit))), (.pair (.sl .keep (.int .u8)) (.pair (.int .i64) (.pair (.int .i64) .unit)))], s_l6AnyVal N⟩ : Fx))] }
def A_s_l30Two : An := { join := look [], loop := look [(0, ⟨[⟨0, .box true, (.pair (.sl .keep (.int .u8)) (.pair (.int .i64) (.pair (.int .i64) .unit)))⟩, ⟨5, .box false, (.pair (.int .i64) (.pair (.int .i64) (.pair .str .unit)))⟩, ⟨6, .own false, (.sl .own (.pair (.int .i64) (.pair .str (.pair (.int .i64) (.pair (.int .i64) (.pair (.sl .own .str) (.pair (.sl .own (.pair (.int .i64) (.pair (.int .i64) (.pair .str .unit)))) .unit)))))))⟩, ⟨7, .val, (.int .i64)⟩], [⟨0, .box true, (.pair (.sl .keep (.int .u8)) (.pair (.int .i64) (.pair (.int .i64) .unit)))⟩, ⟨5, .box false, (.pair (.int .i64) (.pair (.int .i64) (.pair .str .unit)))⟩, ⟨6, .own false, (.sl .own (.pair (.int .i64) (.pair .str (.pair (.int .i64) (.pair (.int .i64) (.pair (.sl .own .str) (.pair (.sl .own (.pair (.int .i64) (.pair (.int .i64) (.pair .str .unit)))) .unit)))))))⟩], [6, 7, 8, 23, 24, 25, 26, 27, 28, 29, 30, 31, 32, 33, 34, 35, 36, 37]⟩)], ret := [⟨4, .own false, (.sl .own (.pair (.int .i64) (.pair .str (.pair (.int .i64) (.pair (.int .i64) (.pair (.sl .own .str) (.pair (.sl .own (.pair (.int .i64) (.pair (.int .i64) (.pair .str .unit)))) .unit)))))))⟩, ⟨5, .box false, (.pair (.int .i64) (.pair (.int .i64) (.pair .str .unit)))⟩, ⟨0, .box true, (.pair (.sl .keep (.int .u8)) (.pair (.int .i64) (.pair (.int .i64) .unit)))⟩] }
theorem c_s_l30Two (N : Nat) : CtrX Tryz.prog Vp 49 ⟨[.io false, .no], [(.pair (.sl .keep (.int .u8)) (.pair (.int .i64) (.pair (.int .i64) .unit))), (.sl .lend (.int .u8))], [.val, .val, .io], [(.sl .own (.pair (.int .i64) (.pair .str (.pair (.int .i64) (.pair (.int .i64) (.pair (.sl .own .str) (.pair (.sl .own (.pair (.int .i64) (.pair (.int .i64) (.pair .str .unit)))) .unit))))))), (.pair (.int .i64) (.pair (.int .i64) (.pair .str .unit))), (.pair (.sl .keep (.int .u8)) (.pair (.int .i64) (.pair (.int .i64) .unit)))], s_l30Two N⟩ := by
  have hE : EnvOK Tryz.prog (E_s_l30Two N) := ⟨tabP_ok, look_all (Q := fun t s => Ctr Tryz.prog Vp t s) _ (by
    intro p hp
    simp only [List.mem_cons, List.not_mem_nil, or_false] at hp
    rcases hp with rfl
    · exact c_s_l1Size N), look_all (Q := fun t s => CtrX Tryz.prog Vp t s) _ (by
    intro p hp
    simp only [List.mem_cons, List.not_mem_nil, or_false] at hp
    rcases hp with rfl | rfl | rfl | rfl
    · exact c_s_l6Heap N
    · exact c_s_l1Once N
    · exact c_s_l1Below N
    · exact c_s_l6AnyVal N)⟩
  have h := fn_soundX hE (by kernel_rfl) (N := N) (A := A_s_l30Two) (pl := [⟨0, .box true, (.pair (.sl .keep (.int .u8)) (.pair (.int .i64) (.pair (.int .i64) .unit)))⟩, ⟨1, .val, (.sl .lend (.int .u8))⟩]) (io := [.io false, .no]) (ks := [.val, .val, .io]) (fid := 49) (fn := Tryz.f49) (c := ((Tryz.f49.body).getD .skip)) ⟨Tryz.func49, by kernel_rfl, by kernel_rfl, by kernel_rfl, by kernel_rfl, by kernel_rfl, Nat.le_of_ble_eq_true (by kernel_rfl), by kernel_rfl⟩
  have e : s_l30Two N = evalF (E_s_l30Two N) A_s_l30Two N [⟨0, .box true, (.pair (.sl .keep (.int .u8)) (.pair (.int .i64) (.pair (.int .i64) .unit)))⟩, ⟨1, .val, (.sl .lend (.int .u8))⟩] ((Tryz.f49.body).getD .skip) := funext fun x => by kernel_rfl
  rw [e]
  exact h
noncomputable def E_s_DrawShip (N : Nat) : Cz := { tab := tabP, n := 22, V := Vp, ann := look [], fn := look [(51, (⟨[(.sl .lend (.int .u8)), (.int .i64)], [(.int .i64)], s_l1Size N⟩ : Fn))], fx := look [(48, (⟨[.no], [(.sl .keep (.int .u8))], [.ptr], [(.pair (.sl .keep (.int .u8)) (.pair (.int .i64) (.pair (.int .i64) .unit)))], s_l1New N⟩ : Fx)), (49, (⟨[.io false, .no], [(.pair (.sl .keep (.int .u8)) (.pair (.int .i64) (.pair (.int .i64) .unit))), (.sl .lend (.int .u8))], [.val, .val, .io], [(.sl .own (.pair (.int .i64) (.pair .str (.pair (.int .i64) (.pair (.int .i64) (.pair (.sl .own .str) (.pair (.sl .own (.pair (.int .i64) (.pair (.int .i64) (.pair .str .unit)))) .unit))))))), (.pair (.int .i64) (.pair (.int .i64) (.pair .str .unit))), (.pair (.sl .keep (.int .u8)) (.pair (.int .i64) (.pair (.int .i64) .unit)))], s_l30Two N⟩ : Fx)), (50, (⟨[.io false, .no], [(.pair (.sl .keep (.int .u8)) (.pair (.int .i64) (.pair (.int .i64) .unit))), (.int .i64)], [.val, .io], [(.sl .own (.pair (.int .i64) (.pair .str (.pair (.int .i64) (.pair (.int .i64) (.pair (.sl .own .str) (.pair (.sl .own (.pair (.int .i64) (.pair (.int .i64) (.pair .str .unit)))) .unit))))))), (.pair (.sl .keep (.int .u8)) (.pair (.int .i64) (.pair (.int .i64) .unit)))], s_l6Heap N⟩ : Fx))] }
def A_s_DrawShip : An := { join := look [], loop := look [], ret := [⟨2, .own false, (.sl .own (.pair (.int .i64) (.pair .str (.pair (.int .i64) (.pair (.int .i64) (.pair (.sl .own .str) (.pair (.sl .own (.pair (.int .i64) (.pair (.int .i64) (.pair .str .unit)))) .unit)))))))⟩, ⟨3, .box false, (.pair (.int .i64) (.pair (.int .i64) (.pair .str .unit)))⟩, ⟨4, .own false, (.sl .own (.pair (.int .i64) (.pair .str (.pair (.int .i64) (.pair (.int .i64) (.pair (.sl .own .str) (.pair (.sl .own (.pair (.int .i64) (.pair (.int .i64) (.pair .str .unit)))) .unit)))))))⟩] }
theorem c_s_DrawShip (N : Nat) : CtrX Tryz.prog Vp 9 ⟨[.no], [(.sl .keep (.int .u8))], [.val, .val, .val], [(.sl .own (.pair (.int .i64) (.pair .str (.pair (.int .i64) (.pair (.int .i64) (.pair (.sl .own .str) (.pair (.sl .own (.pair (.int .i64) (.pair (.int .i64) (.pair .str .unit)))) .unit))))))), (.pair (.int .i64) (.pair (.int .i64) (.pair .str .unit))), (.sl .own (.pair (.int .i64) (.pair .str (.pair (.int .i64) (.pair (.int .i64) (.pair (.sl .own .str) (.pair (.sl .own (.pair (.int .i64) (.pair (.int .i64) (.pair .str .unit)))) .unit)))))))], s_DrawShip N⟩ := by
  have hE : EnvOK Tryz.prog (E_s_DrawShip N) := ⟨tabP_ok, look_all (Q := fun t s => Ctr Tryz.prog Vp t s) _ (by
    intro p hp
    simp only [List.mem_cons, List.not_mem_nil, or_false] at hp
    rcases hp with rfl
    · exact c_s_l1Size N), look_all (Q := fun t s => CtrX Tryz.prog Vp t s) _ (by
    intro p hp
    simp only [List.mem_cons, List.not_mem_nil, or_false] at hp
    rcases hp with rfl | rfl | rfl
    · exact c_s_l1New N
    · exact c_s_l30Two N
    · exact c_s_l6Heap N)⟩
  have h := fn_soundX hE (by kernel_rfl) (N := N) (A := A_s_DrawShip) (pl := [⟨0, .val, (.sl .keep (.int .u8))⟩]) (io := [.no]) (ks := [.val, .val, .val]) (fid := 9) (fn := Tryz.f9) (c := ((Tryz.f9.body).getD .skip)) ⟨Tryz.func9, by kernel_rfl, by kernel_rfl, by kernel_rfl, by kernel_rfl, by kernel_rfl, Nat.le_of_ble_eq_true (by kernel_rfl), by kernel_rfl⟩
  have e : s_DrawShip N = evalF (E_s_DrawShip N) A_s_DrawShip N [⟨0, .val, (.sl .keep (.int .u8))⟩] ((Tryz.f9.body).getD .skip) := funext fun x => by kernel_rfl
  rw [e]
  exact h
noncomputable def E_i_isSymByte (N : Nat) : Cz := { tab := tabP, n := 22, V := Vp, ann := look [], fn := look [(187, (⟨[.str, (.int .u8)], [(.int .i64)], g_strings_IndexByte N⟩ : Fn))], fx := look [] }
def A_i_isSymByte : An := { join := look [], loop := look [], ret := [⟨2, .val, .bool⟩] }
theorem c_i_isSymByte (N : Nat) : Ctr Tryz.prog Vp 153 ⟨[(.int .u8)], [.bool], i_isSymByte N⟩ := by
  have hE : EnvOK Tryz.prog (E_i_isSymByte N) := ⟨tabP_ok, look_all (Q := fun t s => Ctr Tryz.prog Vp t s) _ (by
    intro p hp
    simp only [List.mem_cons, List.not_mem_nil, or_false] at hp
    rcases hp with rfl
    · exact c_g_strings_IndexByte N), (fun _ _ h => by cases h)⟩
  have h := fn_sound hE (by kernel_rfl) (N := N) (A := A_i_isSymByte) (pl := [⟨0, .val, (.int .u8)⟩]) (fid := 153) (fn := Tryz.f153) (c := ((Tryz.f153.body).getD .skip)) ⟨Tryz.func153, by kernel_rfl, by kernel_rfl, by kernel_rfl, Nat.le_of_ble_eq_true (by kernel_rfl), by kernel_rfl, by kernel_rfl, Nat.le_of_ble_eq_true (by kernel_rfl), by kernel_rfl⟩
  have e : i_isSymByte N = evalF (E_i_isSymByte N) A_i_isSymByte N [⟨0, .val, (.int .u8)⟩] ((Tryz.f153.body).getD .skip) := funext fun x => by kernel_rfl
  rw [e]
  exact h
noncomputable def E_i_symOk (N : Nat) : Cz := { tab := tabP, n := 38, V := Vp, ann := look [], fn := look [(107, (⟨[(.int .i64), (.int .i64), (.int .i64)], [.bool], i_inRange N⟩ : Fn)), (153, (⟨[(.int .u8)], [.bool], i_isSymByte N⟩ : Fn)), (154, (⟨[.str], [(.int .i64), .bool], i_ReadDec N⟩ : Fn))], fx := look [] }
def A_i_symOk : An := { join := look [], loop := look [(0, ⟨[⟨3, .val, (.int .i64)⟩], [], [2, 3, 6, 7, 8, 9, 10, 11, 12, 13, 14, 15, 16]⟩)], ret := [⟨2, .val, .bool⟩] }
theorem c_i_symOk (N : Nat) : Ctr Tryz.prog Vp 108 ⟨[.str], [.bool], i_symOk N⟩ := by
  have hE : EnvOK Tryz.prog (E_i_symOk N) := ⟨tabP_ok, look_all (Q := fun t s => Ctr Tryz.prog Vp t s) _ (by
    intro p hp
    simp only [List.mem_cons, List.not_mem_nil, or_false] at hp
    rcases hp with rfl | rfl | rfl
    · exact c_i_inRange N
    · exact c_i_isSymByte N
    · exact c_i_ReadDec N), (fun _ _ h => by cases h)⟩
  have h := fn_sound hE (by kernel_rfl) (N := N) (A := A_i_symOk) (pl := [⟨0, .val, .str⟩]) (fid := 108) (fn := Tryz.f108) (c := ((Tryz.f108.body).getD .skip)) ⟨Tryz.func108, by kernel_rfl, by kernel_rfl, by kernel_rfl, Nat.le_of_ble_eq_true (by kernel_rfl), by kernel_rfl, by kernel_rfl, Nat.le_of_ble_eq_true (by kernel_rfl), by kernel_rfl⟩
  have e : i_symOk N = evalF (E_i_symOk N) A_i_symOk N [⟨0, .val, .str⟩] ((Tryz.f108.body).getD .skip) := funext fun x => by kernel_rfl
  rw [e]
  exact h
noncomputable def E_i_isOneOf (N : Nat) : Cz := { tab := tabP, n := 21, V := Vp, ann := look [], fn := look [(197, (⟨[.str, .str], [.bool], g_strings_Contains N⟩ : Fn))], fx := look [] }
def A_i_isOneOf : An := { join := look [], loop := look [], ret := [⟨4, .val, .bool⟩] }
theorem c_i_isOneOf (N : Nat) : Ctr Tryz.prog Vp 164 ⟨[.str, .str], [.bool], i_isOneOf N⟩ := by
  have hE : EnvOK Tryz.prog (E_i_isOneOf N) := ⟨tabP_ok, look_all (Q := fun t s => Ctr Tryz.prog Vp t s) _ (by
    intro p hp
    simp only [List.mem_cons, List.not_mem_nil, or_false] at hp
    rcases hp with rfl
    · exact c_g_strings_Contains N), (fun _ _ h => by cases h)⟩
  have h := fn_sound hE (by kernel_rfl) (N := N) (A := A_i_isOneOf) (pl := [⟨0, .val, .str⟩, ⟨1, .val, .str⟩]) (fid := 164) (fn := Tryz.f164) (c := ((Tryz.f164.body).getD .skip)) ⟨Tryz.func164, by kernel_rfl, by kernel_rfl, by kernel_rfl, Nat.le_of_ble_eq_true (by kernel_rfl), by kernel_rfl, by kernel_rfl, Nat.le_of_ble_eq_true (by kernel_rfl), by kernel_rfl⟩
  have e : i_isOneOf N = evalF (E_i_isOneOf N) A_i_isOneOf N [⟨0, .val, .str⟩, ⟨1, .val, .str⟩] ((Tryz.f164.body).getD .skip) := funext fun x => by kernel_rfl
  rw [e]
  exact h
noncomputable def E_i_Arity (N : Nat) : Cz := { tab := tabP, n := 12, V := Vp, ann := look [], fn := look [(164, (⟨[.str, .str], [.bool], i_isOneOf N⟩ : Fn))], fx := look [] }
def A_i_Arity : An := { join := look [], loop := look [], ret := [⟨2, .val, (.int .i64)⟩] }
theorem c_i_Arity (N : Nat) : Ctr Tryz.prog Vp 165 ⟨[.str], [(.int .i64)], i_Arity N⟩ := by
  have hE : EnvOK Tryz.prog (E_i_Arity N) := ⟨tabP_ok, look_all (Q := fun t s => Ctr Tryz.prog Vp t s) _ (by
    intro p hp
    simp only [List.mem_cons, List.not_mem_nil, or_false] at hp
    rcases hp with rfl
    · exact c_i_isOneOf N), (fun _ _ h => by cases h)⟩
  have h := fn_sound hE (by kernel_rfl) (N := N) (A := A_i_Arity) (pl := [⟨0, .val, .str⟩]) (fid := 165) (fn := Tryz.f165) (c := ((Tryz.f165.body).getD .skip)) ⟨Tryz.func165, by kernel_rfl, by kernel_rfl, by kernel_rfl, Nat.le_of_ble_eq_true (by kernel_rfl), by kernel_rfl, by kernel_rfl, Nat.le_of_ble_eq_true (by kernel_rfl), by kernel_rfl⟩
  have e : i_Arity N = evalF (E_i_Arity N) A_i_Arity N [⟨0, .val, .str⟩] ((Tryz.f165.body).getD .skip) := funext fun x => by kernel_rfl
  rw [e]
  exact h
noncomputable def E_i_IsName (N : Nat) : Cz := { tab := tabP, n := 17, V := Vp, ann := look [], fn := look [(108, (⟨[.str], [.bool], i_symOk N⟩ : Fn)), (164, (⟨[.str, .str], [.bool], i_isOneOf N⟩ : Fn)), (165, (⟨[.str], [(.int .i64)], i_Arity N⟩ : Fn))], fx := look [] }
def A_i_IsName : An := { join := look [], loop := look [], ret := [⟨2, .val, .bool⟩] }
theorem c_i_IsName (N : Nat) : Ctr Tryz.prog Vp 132 ⟨[.str], [.bool], i_IsName N⟩ := by
  have hE : EnvOK Tryz.prog (E_i_IsName N) := ⟨tabP_ok, look_all (Q := fun t s => Ctr Tryz.prog Vp t s) _ (by
    intro p hp
    simp only [List.mem_cons, List.not_mem_nil, or_false] at hp
    rcases hp with rfl | rfl | rfl
    · exact c_i_symOk N
    · exact c_i_isOneOf N
    · exact c_i_Arity N), (fun _ _ h => by cases h)⟩
  have h := fn_sound hE (by kernel_rfl) (N := N) (A := A_i_IsName) (pl := [⟨0, .val, .str⟩]) (fid := 132) (fn := Tryz.f132) (c := ((Tryz.f132.body).getD .skip)) ⟨Tryz.func132, by kernel_rfl, by kernel_rfl, by kernel_rfl, Nat.le_of_ble_eq_true (by kernel_rfl), by kernel_rfl, by kernel_rfl, Nat.le_of_ble_eq_true (by kernel_rfl), by kernel_rfl⟩
  have e : i_IsName N = evalF (E_i_IsName N) A_i_IsName N [⟨0, .val, .str⟩] ((Tryz.f132.body).getD .skip) := funext fun x => by kernel_rfl
  rw [e]
  exact h
noncomputable def E_i_allNames (N : Nat) : Cz := { tab := tabP, n := 15, V := Vp, ann := look [], fn := look [(132, (⟨[.str], [.bool], i_IsName N⟩ : Fn))], fx := look [] }
def A_i_allNames : An := { join := look [], loop := look [(0, ⟨[⟨7, .val, (.int .i64)⟩], [], [2, 4, 7, 8, 9, 10, 11, 12, 13, 14]⟩)], ret := [⟨2, .val, .bool⟩] }
theorem c_i_allNames (N : Nat) : Ctr Tryz.prog Vp 136 ⟨[(.sl .lend .str)], [.bool], i_allNames N⟩ := by
  have hE : EnvOK Tryz.prog (E_i_allNames N) := ⟨tabP_ok, look_all (Q := fun t s => Ctr Tryz.prog Vp t s) _ (by
    intro p hp
    simp only [List.mem_cons, List.not_mem_nil, or_false] at hp
    rcases hp with rfl
    · exact c_i_IsName N), (fun _ _ h => by cases h)⟩
  have h := fn_sound hE (by kernel_rfl) (N := N) (A := A_i_allNames) (pl := [⟨0, .val, (.sl .lend .str)⟩]) (fid := 136) (fn := Tryz.f136) (c := ((Tryz.f136.body).getD .skip)) ⟨Tryz.func136, by kernel_rfl, by kernel_rfl, by kernel_rfl, Nat.le_of_ble_eq_true (by kernel_rfl), by kernel_rfl, by kernel_rfl, Nat.le_of_ble_eq_true (by kernel_rfl), by kernel_rfl⟩
  have e : i_allNames N = evalF (E_i_allNames N) A_i_allNames N [⟨0, .val, (.sl .lend .str)⟩] ((Tryz.f136.body).getD .skip) := funext fun x => by kernel_rfl
  rw [e]
  exact h
noncomputable def E_i_cellOk (N : Nat) : Cz := { tab := tabP, n := 88, V := Vp, ann := look [], fn := look [(107, (⟨[(.int .i64), (.int .i64), (.int .i64)], [.bool], i_inRange N⟩ : Fn)), (136, (⟨[(.sl .lend .str)], [.bool], i_allNames N⟩ : Fn))], fx := look [] }
def A_i_cellOk : An := { join := look [], loop := look [], ret := [⟨2, .val, .bool⟩] }
theorem c_i_cellOk (N : Nat) : Ctr Tryz.prog Vp 104 ⟨[(.pair (.int .i64) (.pair .str (.pair (.int .i64) (.pair (.int .i64) (.pair (.sl .lend .str) (.pair (.sl .lend (.pair (.int .i64) (.pair (.int .i64) (.pair .str .unit)))) .unit))))))], [.bool], i_cellOk N⟩ := by
  have hE : EnvOK Tryz.prog (E_i_cellOk N) := ⟨tabP_ok, look_all (Q := fun t s => Ctr Tryz.prog Vp t s) _ (by
    intro p hp
    simp only [List.mem_cons, List.not_mem_nil, or_false] at hp
    rcases hp with rfl | rfl
    · exact c_i_inRange N
    · exact c_i_allNames N), (fun _ _ h => by cases h)⟩
  have h := fn_sound hE (by kernel_rfl) (N := N) (A := A_i_cellOk) (pl := [⟨0, .val, (.pair (.int .i64) (.pair .str (.pair (.int .i64) (.pair (.int .i64) (.pair (.sl .lend .str) (.pair (.sl .lend (.pair (.int .i64) (.pair (.int .i64) (.pair .str .unit)))) .unit))))))⟩]) (fid := 104) (fn := Tryz.f104) (c := ((Tryz.f104.body).getD .skip)) ⟨Tryz.func104, by kernel_rfl, by kernel_rfl, by kernel_rfl, Nat.le_of_ble_eq_true (by kernel_rfl), by kernel_rfl, by kernel_rfl, Nat.le_of_ble_eq_true (by kernel_rfl), by kernel_rfl⟩
  have e : i_cellOk N = evalF (E_i_cellOk N) A_i_cellOk N [⟨0, .val, (.pair (.int .i64) (.pair .str (.pair (.int .i64) (.pair (.int .i64) (.pair (.sl .lend .str) (.pair (.sl .lend (.pair (.int .i64) (.pair (.int .i64) (.pair .str .unit)))) .unit))))))⟩] ((Tryz.f104.body).getD .skip) := funext fun x => by kernel_rfl
  rw [e]
  exact h
noncomputable def E_i_cellKind (N : Nat) : Cz := { tab := tabP, n := 10, V := Vp, ann := look [], fn := look [], fx := look [] }
def A_i_cellKind : An := { join := look [], loop := look [], ret := [⟨2, .val, (.int .i64)⟩] }
theorem c_i_cellKind (N : Nat) : Ctr Tryz.prog Vp 109 ⟨[(.int .i64)], [(.int .i64)], i_cellKind N⟩ := by
  have hE : EnvOK Tryz.prog (E_i_cellKind N) := ⟨tabP_ok, (fun _ _ h => by cases h), (fun _ _ h => by cases h)⟩
  have h := fn_sound hE (by kernel_rfl) (N := N) (A := A_i_cellKind) (pl := [⟨0, .val, (.int .i64)⟩]) (fid := 109) (fn := Tryz.f109) (c := ((Tryz.f109.body).getD .skip)) ⟨Tryz.func109, by kernel_rfl, by kernel_rfl, by kernel_rfl, Nat.le_of_ble_eq_true (by kernel_rfl), by kernel_rfl, by kernel_rfl, Nat.le_of_ble_eq_true (by kernel_rfl), by kernel_rfl⟩
  have e : i_cellKind N = evalF (E_i_cellKind N) A_i_cellKind N [⟨0, .val, (.int .i64)⟩] ((Tryz.f109.body).getD .skip) := funext fun x => by kernel_rfl
  rw [e]
  exact h
noncomputable def E_i_ValueOk (N : Nat) : Cz := { tab := tabP, n := 74, V := Vp, ann := look [], fn := look [(107, (⟨[(.int .i64), (.int .i64), (.int .i64)], [.bool], i_inRange N⟩ : Fn)), (108, (⟨[.str], [.bool], i_symOk N⟩ : Fn)), (109, (⟨[(.int .i64)], [(.int .i64)], i_cellKind N⟩ : Fn))], fx := look [] }
def A_i_ValueOk : An := { join := look [(47, ([⟨3, .box false, (.pair (.int .i64) (.pair (.int .i64) (.pair .str .unit)))⟩, ⟨47, .val, .bool⟩], [47, 49, 50]))], loop := look [], ret := [⟨4, .val, .bool⟩] }
theorem c_i_ValueOk (N : Nat) : Ctr Tryz.prog Vp 53 ⟨[(.sl .lend (.pair (.int .i64) (.pair .str (.pair (.int .i64) (.pair (.int .i64) (.pair (.sl .lend .str) (.pair (.sl .lend (.pair (.int .i64) (.pair (.int .i64) (.pair .str .unit)))) .unit))))))), (.pair (.int .i64) (.pair (.int .i64) (.pair .str .unit)))], [.bool], i_ValueOk N⟩ := by
  have hE : EnvOK Tryz.prog (E_i_ValueOk N) := ⟨tabP_ok, look_all (Q := fun t s => Ctr Tryz.prog Vp t s) _ (by
    intro p hp
    simp only [List.mem_cons, List.not_mem_nil, or_false] at hp
    rcases hp with rfl | rfl | rfl
    · exact c_i_inRange N
    · exact c_i_symOk N
    · exact c_i_cellKind N), (fun _ _ h => by cases h)⟩
  have h := fn_sound hE (by kernel_rfl) (N := N) (A := A_i_ValueOk) (pl := [⟨0, .val, (.sl .lend (.pair (.int .i64) (.pair .str (.pair (.int .i64) (.pair (.int .i64) (.pair (.sl .lend .str) (.pair (.sl .lend (.pair (.int .i64) (.pair (.int .i64) (.pair .str .unit)))) .unit)))))))⟩, ⟨1, .val, (.pair (.int .i64) (.pair (.int .i64) (.pair .str .unit)))⟩]) (fid := 53) (fn := Tryz.f53) (c := ((Tryz.f53.body).getD .skip)) ⟨Tryz.func53, by kernel_rfl, by kernel_rfl, by kernel_rfl, Nat.le_of_ble_eq_true (by kernel_rfl), by kernel_rfl, by kernel_rfl, Nat.le_of_ble_eq_true (by kernel_rfl), by kernel_rfl⟩
  have e : i_ValueOk N = evalF (E_i_ValueOk N) A_i_ValueOk N [⟨0, .val, (.sl .lend (.pair (.int .i64) (.pair .str (.pair (.int .i64) (.pair (.int .i64) (.pair (.sl .lend .str) (.pair (.sl .lend (.pair (.int .i64) (.pair (.int .i64) (.pair .str .unit)))) .unit)))))))⟩, ⟨1, .val, (.pair (.int .i64) (.pair (.int .i64) (.pair .str .unit)))⟩] ((Tryz.f53.body).getD .skip) := funext fun x => by kernel_rfl
  rw [e]
  exact h
noncomputable def E_i_valuesOk (N : Nat) : Cz := { tab := tabP, n := 18, V := Vp, ann := look [], fn := look [(53, (⟨[(.sl .lend (.pair (.int .i64) (.pair .str (.pair (.int .i64) (.pair (.int .i64) (.pair (.sl .lend .str) (.pair (.sl .lend (.pair (.int .i64) (.pair (.int .i64) (.pair .str .unit)))) .unit))))))), (.pair (.int .i64) (.pair (.int .i64) (.pair .str .unit)))], [.bool], i_ValueOk N⟩ : Fn))], fx := look [] }
def A_i_valuesOk : An := { join := look [], loop := look [(0, ⟨[⟨9, .val, (.int .i64)⟩], [], [4, 6, 9, 10, 11, 12, 13, 14, 15, 16, 17]⟩)], ret := [⟨4, .val, .bool⟩] }
theorem c_i_valuesOk (N : Nat) : Ctr Tryz.prog Vp 105 ⟨[(.sl .lend (.pair (.int .i64) (.pair .str (.pair (.int .i64) (.pair (.int .i64) (.pair (.sl .lend .str) (.pair (.sl .lend (.pair (.int .i64) (.pair (.int .i64) (.pair .str .unit)))) .unit))))))), (.sl .lend (.pair (.int .i64) (.pair (.int .i64) (.pair .str .unit))))], [.bool], i_valuesOk N⟩ := by
  have hE : EnvOK Tryz.prog (E_i_valuesOk N) := ⟨tabP_ok, look_all (Q := fun t s => Ctr Tryz.prog Vp t s) _ (by
    intro p hp
    simp only [List.mem_cons, List.not_mem_nil, or_false] at hp
    rcases hp with rfl
    · exact c_i_ValueOk N), (fun _ _ h => by cases h)⟩
  have h := fn_sound hE (by kernel_rfl) (N := N) (A := A_i_valuesOk) (pl := [⟨0, .val, (.sl .lend (.pair (.int .i64) (.pair .str (.pair (.int .i64) (.pair (.int .i64) (.pair (.sl .lend .str) (.pair (.sl .lend (.pair (.int .i64) (.pair (.int .i64) (.pair .str .unit)))) .unit)))))))⟩, ⟨1, .val, (.sl .lend (.pair (.int .i64) (.pair (.int .i64) (.pair .str .unit))))⟩]) (fid := 105) (fn := Tryz.f105) (c := ((Tryz.f105.body).getD .skip)) ⟨Tryz.func105, by kernel_rfl, by kernel_rfl, by kernel_rfl, Nat.le_of_ble_eq_true (by kernel_rfl), by kernel_rfl, by kernel_rfl, Nat.le_of_ble_eq_true (by kernel_rfl), by kernel_rfl⟩
  have e : i_valuesOk N = evalF (E_i_valuesOk N) A_i_valuesOk N [⟨0, .val, (.sl .lend (.pair (.int .i64) (.pair .str (.pair (.int .i64) (.pair (.int .i64) (.pair (.sl .lend .str) (.pair (.sl .lend (.pair (.int .i64) (.pair (.int .i64) (.pair .str .unit)))) .unit)))))))⟩, ⟨1, .val, (.sl .lend (.pair (.int .i64) (.pair (.int .i64) (.pair .str .unit))))⟩] ((Tryz.f105.body).getD .skip) := funext fun x => by kernel_rfl
  rw [e]
  exact h
noncomputable def E_i_areBelow (N : Nat) : Cz := { tab := tabP, n := 24, V := Vp, ann := look [], fn := look [(109, (⟨[(.int .i64)], [(.int .i64)], i_cellKind N⟩ : Fn))], fx := look [] }
def A_i_areBelow : An := { join := look [], loop := look [(0, ⟨[⟨9, .val, (.int .i64)⟩], [], [4, 6, 9, 10, 11, 12, 13, 14, 15, 16, 17, 18, 19, 20, 21, 22, 23]⟩)], ret := [⟨4, .val, .bool⟩] }
theorem c_i_areBelow (N : Nat) : Ctr Tryz.prog Vp 106 ⟨[(.sl .lend (.pair (.int .i64) (.pair (.int .i64) (.pair .str .unit)))), (.int .i64)], [.bool], i_areBelow N⟩ := by
  have hE : EnvOK Tryz.prog (E_i_areBelow N) := ⟨tabP_ok, look_all (Q := fun t s => Ctr Tryz.prog Vp t s) _ (by
    intro p hp
    simp only [List.mem_cons, List.not_mem_nil, or_false] at hp
    rcases hp with rfl
    · exact c_i_cellKind N), (fun _ _ h => by cases h)⟩
  have h := fn_sound hE (by kernel_rfl) (N := N) (A := A_i_areBelow) (pl := [⟨0, .val, (.sl .lend (.pair (.int .i64) (.pair (.int .i64) (.pair .str .unit))))⟩, ⟨1, .val, (.int .i64)⟩]) (fid := 106) (fn := Tryz.f106) (c := ((Tryz.f106.body).getD .skip)) ⟨Tryz.func106, by kernel_rfl, by kernel_rfl, by kernel_rfl, Nat.le_of_ble_eq_true (by kernel_rfl), by kernel_rfl, by kernel_rfl, Nat.le_of_ble_eq_true (by kernel_rfl), by kernel_rfl⟩
  have e : i_areBelow N = evalF (E_i_areBelow N) A_i_areBelow N [⟨0, .val, (.sl .lend (.pair (.int .i64) (.pair (.int .i64) (.pair .str .unit))))⟩, ⟨1, .val, (.int .i64)⟩] ((Tryz.f106.body).getD .skip) := funext fun x => by kernel_rfl
  rw [e]
  exact h
noncomputable def E_i_HeapOk (N : Nat) : Cz := { tab := tabP, n := 38, V := Vp, ann := look [], fn := look [(104, (⟨[(.pair (.int .i64) (.pair .str (.pair (.int .i64) (.pair (.int .i64) (.pair (.sl .lend .str) (.pair (.sl .lend (.pair (.int .i64) (.pair (.int .i64) (.pair .str .unit)))) .unit))))))], [.bool], i_cellOk N⟩ : Fn)), (105, (⟨[(.sl .lend (.pair (.int .i64) (.pair .str (.pair (.int .i64) (.pair (.int .i64) (.pair (.sl .lend .str) (.pair (.sl .lend (.pair (.int .i64) (.pair (.int .i64) (.pair .str .unit)))) .unit))))))), (.sl .lend (.pair (.int .i64) (.pair (.int .i64) (.pair .str .unit))))], [.bool], i_valuesOk N⟩ : Fn)), (106, (⟨[(.sl .lend (.pair (.int .i64) (.pair (.int .i64) (.pair .str .unit)))), (.int .i64)], [.bool], i_areBelow N⟩ : Fn))], fx := look [] }
def A_i_HeapOk : An := { join := look [], loop := look [(0, ⟨[⟨10, .val, (.int .i64)⟩], [], [2, 3, 4, 10, 11, 12, 13, 14, 15, 16, 17, 18, 19, 20, 21, 22, 23, 24, 25, 26, 27, 28, 29, 30, 31, 32, 33, 34, 35, 36, 37]⟩)], ret := [⟨2, .val, .bool⟩] }
theorem c_i_HeapOk (N : Nat) : Ctr Tryz.prog Vp 52 ⟨[(.sl .lend (.pair (.int .i64) (.pair .str (.pair (.int .i64) (.pair (.int .i64) (.pair (.sl .lend .str) (.pair (.sl .lend (.pair (.int .i64) (.pair (.int .i64) (.pair .str .unit)))) .unit)))))))], [.bool], i_HeapOk N⟩ := by
  have hE : EnvOK Tryz.prog (E_i_HeapOk N) := ⟨tabP_ok, look_all (Q := fun t s => Ctr Tryz.prog Vp t s) _ (by
    intro p hp
    simp only [List.mem_cons, List.not_mem_nil, or_false] at hp
    rcases hp with rfl | rfl | rfl
    · exact c_i_cellOk N
    · exact c_i_valuesOk N
    · exact c_i_areBelow N), (fun _ _ h => by cases h)⟩
  have h := fn_sound hE (by kernel_rfl) (N := N) (A := A_i_HeapOk) (pl := [⟨0, .val, (.sl .lend (.pair (.int .i64) (.pair .str (.pair (.int .i64) (.pair (.int .i64) (.pair (.sl .lend .str) (.pair (.sl .lend (.pair (.int .i64) (.pair (.int .i64) (.pair .str .unit)))) .unit)))))))⟩]) (fid := 52) (fn := Tryz.f52) (c := ((Tryz.f52.body).getD .skip)) ⟨Tryz.func52, by kernel_rfl, by kernel_rfl, by kernel_rfl, Nat.le_of_ble_eq_true (by kernel_rfl), by kernel_rfl, by kernel_rfl, Nat.le_of_ble_eq_true (by kernel_rfl), by kernel_rfl⟩
  have e : i_HeapOk N = evalF (E_i_HeapOk N) A_i_HeapOk N [⟨0, .val, (.sl .lend (.pair (.int .i64) (.pair .str (.pair (.int .i64) (.pair (.int .i64) (.pair (.sl .lend .str) (.pair (.sl .lend (.pair (.int .i64) (.pair (.int .i64) (.pair .str .unit)))) .unit)))))))⟩] ((Tryz.f52.body).getD .skip) := funext fun x => by kernel_rfl
  rw [e]
  exact h
noncomputable def E_i_alloc (N : Nat) : Cz := { tab := tabP, n := 29, V := Vp, ann := look [(19, (.pair (.int .i64) (.pair .str (.pair (.int .i64) (.pair (.int .i64) (.pair (.sl .own .str) (.pair (.sl .own (.pair (.int .i64) (.pair (.int .i64) (.pair .str .unit)))) .unit)))))))], fn := look [], fx := look [] }
def A_i_alloc : An := { join := look [], loop := look [], ret := [⟨6, .box false, (.pair (.int .i64) (.pair (.int .i64) (.pair .str .unit)))⟩, ⟨7, .val, (.int .i64)⟩, ⟨0, .box true, (.sl .own (.pair (.int .i64) (.pair .str (.pair (.int .i64) (.pair (.int .i64) (.pair (.sl .own .str) (.pair (.sl .own (.pair (.int .i64) (.pair (.int .i64) (.pair .str .unit)))) .unit)))))))⟩] }
theorem c_i_alloc (N : Nat) : CtrX Tryz.prog Vp 113 ⟨[.io false, .no, .no], [(.sl .own (.pair (.int .i64) (.pair .str (.pair (.int .i64) (.pair (.int .i64) (.pair (.sl .own .str) (.pair (.sl .own (.pair (.int .i64) (.pair (.int .i64) (.pair .str .unit)))) .unit))))))), (.int .i64), (.pair (.int .i64) (.pair .str (.pair (.int .i64) (.pair (.int .i64) (.pair (.sl .own .str) (.pair (.sl .own (.pair (.int .i64) (.pair (.int .i64) (.pair .str .unit)))) .unit))))))], [.val, .val, .io], [(.pair (.int .i64) (.pair (.int .i64) (.pair .str .unit))), (.int .i64), (.sl .own (.pair (.int .i64) (.pair .str (.pair (.int .i64) (.pair (.int .i64) (.pair (.sl .own .str) (.pair (.sl .own (.pair (.int .i64) (.pair (.int .i64) (.pair .str .unit)))) .unit)))))))], i_alloc N⟩ := by
  have hE : EnvOK Tryz.prog (E_i_alloc N) := ⟨tabP_ok, (fun _ _ h => by cases h), (fun _ _ h => by cases h)⟩
  have h := fn_soundX hE (by kernel_rfl) (N := N) (A := A_i_alloc) (pl := [⟨0, .box true, (.sl .own (.pair (.int .i64) (.pair .str (.pair (.int .i64) (.pair (.int .i64) (.pair (.sl .own .str) (.pair (.sl .own (.pair (.int .i64) (.pair (.int .i64) (.pair .str .unit)))) .unit)))))))⟩, ⟨1, .val, (.int .i64)⟩, ⟨2, .own false, (.pair (.int .i64) (.pair .str (.pair (.int .i64) (.pair (.int .i64) (.pair (.sl .own .str) (.pair (.sl .own (.pair (.int .i64) (.pair (.int .i64) (.pair .str .unit)))) .unit))))))⟩]) (io := [.io false, .no, .no]) (ks := [.val, .val, .io]) (fid := 113) (fn := Tryz.f113) (c := ((Tryz.f113.body).getD .skip)) ⟨Tryz.func113, by kernel_rfl, by kernel_rfl, by kernel_rfl, by kernel_rfl, by kernel_rfl, Nat.le_of_ble_eq_true (by kernel_rfl), by kernel_rfl⟩
  have e : i_alloc N = evalF (E_i_alloc N) A_i_alloc N [⟨0, .box true, (.sl .own (.pair (.int .i64) (.pair .str (.pair (.int .i64) (.pair (.int .i64) (.pair (.sl .own .str) (.pair (.sl .own (.pair (.int .i64) (.pair (.int .i64) (.pair .str .unit)))) .unit)))))))⟩, ⟨1, .val, (.int .i64)⟩, ⟨2, .own false, (.pair (.int .i64) (.pair .str (.pair (.int .i64) (.pair (.int .i64) (.pair (.sl .own .str) (.pair (.sl .own (.pair (.int .i64) (.pair (.int .i64) (.pair .str .unit)))) .unit))))))⟩] ((Tryz.f113.body).getD .skip) := funext fun x => by kernel_rfl
  rw [e]
  exact h
noncomputable def E_i_ship (N : Nat) : Cz := { tab := tabP, n := 69, V := Vp, ann := look [(61, (.pair (.int .i64) (.pair (.int .i64) (.pair .str .unit))))], fn := look [], fx := look [(55, (⟨[.no, .no, .io false], [(.sl .lend (.pair (.int .i64) (.pair .str (.pair (.int .i64) (.pair (.int .i64) (.pair (.sl .lend .str) (.pair (.sl .lend (.pair (.int .i64) (.pair (.int .i64) (.pair .str .unit)))) .unit))))))), (.pair (.int .i64) (.pair (.int .i64) (.pair .str .unit))), (.sl .own (.pair (.int .i64) (.pair .str (.pair (.int .i64) (.pair (.int .i64) (.pair (.sl .own .str) (.pair (.sl .own (.pair (.int .i64) (.pair (.int .i64) (.pair .str .unit)))) .unit)))))))], [.val, .val, .io], [(.pair (.int .i64) (.pair (.int .i64) (.pair .str .unit))), .bool, (.sl .own (.pair (.int .i64) (.pair .str (.pair (.int .i64) (.pair (.int .i64) (.pair (.sl .own .str) (.pair (.sl .own (.pair (.int .i64) (.pair (.int .i64) (.pair .str .unit)))) .unit)))))))], i_ship N⟩ : Fx)), (113, (⟨[.io false, .no, .no], [(.sl .own (.pair (.int .i64) (.pair .str (.pair (.int .i64) (.pair (.int .i64) (.pair (.sl .own .str) (.pair (.sl .own (.pair (.int .i64) (.pair (.int .i64) (.pair .str .unit)))) .unit))))))), (.int .i64), (.pair (.int .i64) (.pair .str (.pair (.int .i64) (.pair (.int .i64) (.pair (.sl .own .str) (.pair (.sl .own (.pair (.int .i64) (.pair (.int .i64) (.pair .str .unit)))) .unit))))))], [.val, .val, .io], [(.pair (.int .i64) (.pair (.int .i64) (.pair .str .unit))), (.int .i64), (.sl .own (.pair (.int .i64) (.pair .str (.pair (.int .i64) (.pair (.int .i64) (.pair (.sl .own .str) (.pair (.sl .own (.pair (.int .i64) (.pair (.int .i64) (.pair .str .unit)))) .unit)))))))], i_alloc N⟩ : Fx))] }
def A_i_ship : An := { join := look [(17, ([⟨2, .box true, (.sl .own (.pair (.int .i64) (.pair .str (.pair (.int .i64) (.pair (.int .i64) (.pair (.sl .own .str) (.pair (.sl .own (.pair (.int .i64) (.pair (.int .i64) (.pair .str .unit)))) .unit)))))))⟩, ⟨4, .box false, (.pair (.int .i64) (.pair (.int .i64) (.pair .str .unit)))⟩, ⟨6, .box false, (.pair (.int .i64) (.pair (.int .i64) (.pair .str .unit)))⟩, ⟨17, .val, .bool⟩], [17, 19]))], loop := look [], ret := [⟨6, .box false, (.pair (.int .i64) (.pair (.int .i64) (.pair .str .unit)))⟩, ⟨7, .val, .bool⟩, ⟨2, .box true, (.sl .own (.pair (.int .i64) (.pair .str (.pair (.int .i64) (.pair (.int .i64) (.pair (.sl .own .str) (.pair (.sl .own (.pair (.int .i64) (.pair (.int .i64) (.pair .str .unit)))) .unit)))))))⟩] }
theorem c_i_ship (N : Nat) : CtrX Tryz.prog Vp 55 ⟨[.no, .no, .io false], [(.sl .lend (.pair (.int .i64) (.pair .str (.pair (.int .i64) (.pair (.int .i64) (.pair (.sl .lend .str) (.pair (.sl .lend (.pair (.int .i64) (.pair (.int .i64) (.pair .str .unit)))) .unit))))))), (.pair (.int .i64) (.pair (.int .i64) (.pair .str .unit))), (.sl .own (.pair (.int .i64) (.pair .str (.pair (.int .i64) (.pair (.int .i64) (.pair (.sl .own .str) (.pair (.sl .own (.pair (.int .i64) (.pair (.int .i64) (.pair .str .unit)))) .unit)))))))], [.val, .val, .io], [(.pair (.int .i64) (.pair (.int .i64) (.pair .str .unit))), .bool, (.sl .own (.pair (.int .i64) (.pair .str (.pair (.int .i64) (.pair (.int .i64) (.pair (.sl .own .str) (.pair (.sl .own (.pair (.int .i64) (.pair (.int .i64) (.pair .str .unit)))) .unit)))))))], i_ship N⟩ := by
  induction N with
  | zero => exact ctrX_none Tryz.func55 rfl (by kernel_rfl)
  | succ N ih =>
  have hE : EnvOK Tryz.prog (E_i_ship N) := ⟨tabP_ok, (fun _ _ h => by cases h), look_all (Q := fun t s => CtrX Tryz.prog Vp t s) _ (by
    intro p hp
    simp only [List.mem_cons, List.not_mem_nil, or_false] at hp
    rcases hp with rfl | rfl
    · exact ih
    · exact c_i_alloc N)⟩
  have h := fn_soundX hE (by kernel_rfl) (N := N) (A := A_i_ship) (pl := [⟨0, .val, (.sl .lend (.pair (.int .i64) (.pair .str (.pair (.int .i64) (.pair (.int .i64) (.pair (.sl .lend .str) (.pair (.sl .lend (.pair (.int .i64) (.pair (.int .i64) (.pair .str .unit)))) .unit)))))))⟩, ⟨1, .val, (.pair (.int .i64) (.pair (.int .i64) (.pair .str .unit)))⟩, ⟨2, .box true, (.sl .own (.pair (.int .i64) (.pair .str (.pair (.int .i64) (.pair (.int .i64) (.pair (.sl .own .str) (.pair (.sl .own (.pair (.int .i64) (.pair (.int .i64) (.pair .str .unit)))) .unit)))))))⟩]) (io := [.no, .no, .io false]) (ks := [.val, .val, .io]) (fid := 55) (fn := Tryz.f55) (c := ((Tryz.f55.body).getD .skip)) ⟨Tryz.func55, by kernel_rfl, by kernel_rfl, by kernel_rfl, by kernel_rfl, by kernel_rfl, Nat.le_of_ble_eq_true (by kernel_rfl), by kernel_rfl⟩
  have e : i_ship (N + 1) = evalF (E_i_ship N) A_i_ship N [⟨0, .val, (.sl .lend (.pair (.int .i64) (.pair .str (.pair (.int .i64) (.pair (.int .i64) (.pair (.sl .lend .str) (.pair (.sl .lend (.pair (.int .i64) (.pair (.int .i64) (.pair .str .unit)))) .unit)))))))⟩, ⟨1, .val, (.pair (.int .i64) (.pair (.int .i64) (.pair .str .unit)))⟩, ⟨2, .box true, (.sl .own (.pair (.int .i64) (.pair .str (.pair (.int .i64) (.pair (.int .i64) (.pair (.sl .own .str) (.pair (.sl .own (.pair (.int .i64) (.pair (.int .i64) (.pair .str .unit)))) .unit)))))))⟩] ((Tryz.f55.body).getD .skip) := funext fun x => by kernel_rfl
  rw [e]
  exact h
noncomputable def E_i_Ship (N : Nat) : Cz := { tab := tabP, n := 43, V := Vp, ann := look [], fn := look [(52, (⟨[(.sl .lend (.pair (.int .i64) (.pair .str (.pair (.int .i64) (.pair (.int .i64) (.pair (.sl .lend .str) (.pair (.sl .lend (.pair (.int .i64) (.pair (.int .i64) (.pair .str .unit)))) .unit)))))))], [.bool], i_HeapOk N⟩ : Fn)), (53, (⟨[(.sl .lend (.pair (.int .i64) (.pair .str (.pair (.int .i64) (.pair (.int .i64) (.pair (.sl .lend .str) (.pair (.sl .lend (.pair (.int .i64) (.pair (.int .i64) (.pair .str .unit)))) .unit))))))), (.pair (.int .i64) (.pair (.int .i64) (.pair .str .unit)))], [.bool], i_ValueOk N⟩ : Fn)), (54, (⟨[(.sl .lend (.pair (.int .i64) (.pair .str (.pair (.int .i64) (.pair (.int .i64) (.pair (.sl .lend .str) (.pair (.sl .lend (.pair (.int .i64) (.pair (.int .i64) (.pair .str .unit)))) .unit)))))))], [(.sl .own (.pair (.int .i64) (.pair .str (.pair (.int .i64) (.pair (.int .i64) (.pair (.sl .own .str) (.pair (.sl .own (.pair (.int .i64) (.pair (.int .i64) (.pair .str .unit)))) .unit)))))))], i_copyHeap N⟩ : Fn))], fx := look [(55, (⟨[.no, .no, .io false], [(.sl .lend (.pair (.int .i64) (.pair .str (.pair (.int .i64) (.pair (.int .i64) (.pair (.sl .lend .str) (.pair (.sl .lend (.pair (.int .i64) (.pair (.int .i64) (.pair .str .unit)))) .unit))))))), (.pair (.int .i64) (.pair (.int .i64) (.pair .str .unit))), (.sl .own (.pair (.int .i64) (.pair .str (.pair (.int .i64) (.pair (.int .i64) (.pair (.sl .own .str) (.pair (.sl .own (.pair (.int .i64) (.pair (.int .i64) (.pair .str .unit)))) .unit)))))))], [.val, .val, .io], [(.pair (.int .i64) (.pair (.int .i64) (.pair .str .unit))), .bool, (.sl .own (.pair (.int .i64) (.pair .str (.pair (.int .i64) (.pair (.int .i64) (.pair (.sl .own .str) (.pair (.sl .own (.pair (.int .i64) (.pair (.int .i64) (.pair .str .unit)))) .unit)))))))], i_ship N⟩ : Fx))] }
def A_i_Ship : An := { join := look [], loop := look [], ret := [⟨6, .own false, (.sl .own (.pair (.int .i64) (.pair .str (.pair (.int .i64) (.pair (.int .i64) (.pair (.sl .own .str) (.pair (.sl .own (.pair (.int .i64) (.pair (.int .i64) (.pair .str .unit)))) .unit)))))))⟩, ⟨7, .box false, (.pair (.int .i64) (.pair (.int .i64) (.pair .str .unit)))⟩, ⟨8, .val, .bool⟩] }
theorem c_i_Ship (N : Nat) : CtrX Tryz.prog Vp 10 ⟨[.no, .no, .no], [(.sl .lend (.pair (.int .i64) (.pair .str (.pair (.int .i64) (.pair (.int .i64) (.pair (.sl .lend .str) (.pair (.sl .lend (.pair (.int .i64) (.pair (.int .i64) (.pair .str .unit)))) .unit))))))), (.pair (.int .i64) (.pair (.int .i64) (.pair .str .unit))), (.sl .lend (.pair (.int .i64) (.pair .str (.pair (.int .i64) (.pair (.int .i64) (.pair (.sl .lend .str) (.pair (.sl .lend (.pair (.int .i64) (.pair (.int .i64) (.pair .str .unit)))) .unit)))))))], [.val, .val, .val], [(.sl .own (.pair (.int .i64) (.pair .str (.pair (.int .i64) (.pair (.int .i64) (.pair (.sl .own .str) (.pair (.sl .own (.pair (.int .i64) (.pair (.int .i64) (.pair .str .unit)))) .unit))))))), (.pair (.int .i64) (.pair (.int .i64) (.pair .str .unit))), .bool], i_Ship N⟩ := by
  have hE : EnvOK Tryz.prog (E_i_Ship N) := ⟨tabP_ok, look_all (Q := fun t s => Ctr Tryz.prog Vp t s) _ (by
    intro p hp
    simp only [List.mem_cons, List.not_mem_nil, or_false] at hp
    rcases hp with rfl | rfl | rfl
    · exact c_i_HeapOk N
    · exact c_i_ValueOk N
    · exact c_i_copyHeap N), look_all (Q := fun t s => CtrX Tryz.prog Vp t s) _ (by
    intro p hp
    simp only [List.mem_cons, List.not_mem_nil, or_false] at hp
    rcases hp with rfl
    · exact c_i_ship N)⟩
  have h := fn_soundX hE (by kernel_rfl) (N := N) (A := A_i_Ship) (pl := [⟨0, .val, (.sl .lend (.pair (.int .i64) (.pair .str (.pair (.int .i64) (.pair (.int .i64) (.pair (.sl .lend .str) (.pair (.sl .lend (.pair (.int .i64) (.pair (.int .i64) (.pair .str .unit)))) .unit)))))))⟩, ⟨1, .val, (.pair (.int .i64) (.pair (.int .i64) (.pair .str .unit)))⟩, ⟨2, .val, (.sl .lend (.pair (.int .i64) (.pair .str (.pair (.int .i64) (.pair (.int .i64) (.pair (.sl .lend .str) (.pair (.sl .lend (.pair (.int .i64) (.pair (.int .i64) (.pair .str .unit)))) .unit)))))))⟩]) (io := [.no, .no, .no]) (ks := [.val, .val, .val]) (fid := 10) (fn := Tryz.f10) (c := ((Tryz.f10.body).getD .skip)) ⟨Tryz.func10, by kernel_rfl, by kernel_rfl, by kernel_rfl, by kernel_rfl, by kernel_rfl, Nat.le_of_ble_eq_true (by kernel_rfl), by kernel_rfl⟩
  have e : i_Ship N = evalF (E_i_Ship N) A_i_Ship N [⟨0, .val, (.sl .lend (.pair (.int .i64) (.pair .str (.pair (.int .i64) (.pair (.int .i64) (.pair (.sl .lend .str) (.pair (.sl .lend (.pair (.int .i64) (.pair (.int .i64) (.pair .str .unit)))) .unit)))))))⟩, ⟨1, .val, (.pair (.int .i64) (.pair (.int .i64) (.pair .str .unit)))⟩, ⟨2, .val, (.sl .lend (.pair (.int .i64) (.pair .str (.pair (.int .i64) (.pair (.int .i64) (.pair (.sl .lend .str) (.pair (.sl .lend (.pair (.int .i64) (.pair (.int .i64) (.pair .str .unit)))) .unit)))))))⟩] ((Tryz.f10.body).getD .skip) := funext fun x => by kernel_rfl
  rw [e]
  exact h
noncomputable def E_s_l1In (N : Nat) : Cz := { tab := tabP, n := 15, V := Vp, ann := look [], fn := look [], fx := look [] }
def A_s_l1In : An := { join := look [], loop := look [], ret := [⟨6, .val, .bool⟩] }
theorem c_s_l1In (N : Nat) : Ctr Tryz.prog Vp 114 ⟨[(.int .i64), (.int .i64), (.int .i64)], [.bool], s_l1In N⟩ := by
  have hE : EnvOK Tryz.prog (E_s_l1In N) := ⟨tabP_ok, (fun _ _ h => by cases h), (fun _ _ h => by cases h)⟩
  have h := fn_sound hE (by kernel_rfl) (N := N) (A := A_s_l1In) (pl := [⟨0, .val, (.int .i64)⟩, ⟨1, .val, (.int .i64)⟩, ⟨2, .val, (.int .i64)⟩]) (fid := 114) (fn := Tryz.f114) (c := ((Tryz.f114.body).getD .skip)) ⟨Tryz.func114, by kernel_rfl, by kernel_rfl, by kernel_rfl, Nat.le_of_ble_eq_true (by kernel_rfl), by kernel_rfl, by kernel_rfl, Nat.le_of_ble_eq_true (by kernel_rfl), by kernel_rfl⟩
  have e : s_l1In N = evalF (E_s_l1In N) A_s_l1In N [⟨0, .val, (.int .i64)⟩, ⟨1, .val, (.int .i64)⟩, ⟨2, .val, (.int .i64)⟩] ((Tryz.f114.body).getD .skip) := funext fun x => by kernel_rfl
  rw [e]
  exact h
noncomputable def E_s_l2Digit (N : Nat) : Cz := { tab := tabP, n := 9, V := Vp, ann := look [], fn := look [], fx := look [] }
def A_s_l2Digit : An := { join := look [], loop := look [], ret := [⟨2, .val, .bool⟩] }
theorem c_s_l2Digit (N : Nat) : Ctr Tryz.prog Vp 155 ⟨[(.int .u8)], [.bool], s_l2Digit N⟩ := by
  have hE : EnvOK Tryz.prog (E_s_l2Digit N) := ⟨tabP_ok, (fun _ _ h => by cases h), (fun _ _ h => by cases h)⟩
  have h := fn_sound hE (by kernel_rfl) (N := N) (A := A_s_l2Digit) (pl := [⟨0, .val, (.int .u8)⟩]) (fid := 155) (fn := Tryz.f155) (c := ((Tryz.f155.body).getD .skip)) ⟨Tryz.func155, by kernel_rfl, by kernel_rfl, by kernel_rfl, Nat.le_of_ble_eq_true (by kernel_rfl), by kernel_rfl, by kernel_rfl, Nat.le_of_ble_eq_true (by kernel_rfl), by kernel_rfl⟩
  have e : s_l2Digit N = evalF (E_s_l2Digit N) A_s_l2Digit N [⟨0, .val, (.int .u8)⟩] ((Tryz.f155.body).getD .skip) := funext fun x => by kernel_rfl
  rw [e]
  exact h
noncomputable def E_s_l2In (N : Nat) : Cz := { tab := tabP, n := 17, V := Vp, ann := look [], fn := look [], fx := look [] }
def A_s_l2In : An := { join := look [], loop := look [(0, ⟨[⟨5, .val, (.int .i64)⟩], [], [4, 5, 6, 7, 8, 9, 10, 11, 12, 13, 14, 15, 16]⟩)], ret := [⟨4, .val, .bool⟩] }
theorem c_s_l2In (N : Nat) : Ctr Tryz.prog Vp 191 ⟨[(.int .u8), .str], [.bool], s_l2In N⟩ := by
  have hE : EnvOK Tryz.prog (E_s_l2In N) := ⟨tabP_ok, (fun _ _ h => by cases h), (fun _ _ h => by cases h)⟩
  have h := fn_sound hE (by kernel_rfl) (N := N) (A := A_s_l2In) (pl := [⟨0, .val, (.int .u8)⟩, ⟨1, .val, .str⟩]) (fid := 191) (fn := Tryz.f191) (c := ((Tryz.f191.body).getD .skip)) ⟨Tryz.func191, by kernel_rfl, by kernel_rfl, by kernel_rfl, Nat.le_of_ble_eq_true (by kernel_rfl), by kernel_rfl, by kernel_rfl, Nat.le_of_ble_eq_true (by kernel_rfl), by kernel_rfl⟩
  have e : s_l2In N = evalF (E_s_l2In N) A_s_l2In N [⟨0, .val, (.int .u8)⟩, ⟨1, .val, .str⟩] ((Tryz.f191.body).getD .skip) := funext fun x => by kernel_rfl
  rw [e]
  exact h
noncomputable def E_s_l2Sign (N : Nat) : Cz := { tab := tabP, n := 17, V := Vp, ann := look [], fn := look [(155, (⟨[(.int .u8)], [.bool], s_l2Digit N⟩ : Fn)), (191, (⟨[(.int .u8), .str], [.bool], s_l2In N⟩ : Fn))], fx := look [] }
def A_s_l2Sign : An := { join := look [], loop := look [], ret := [⟨2, .val, .bool⟩] }
theorem c_s_l2Sign (N : Nat) : Ctr Tryz.prog Vp 156 ⟨[(.int .u8)], [.bool], s_l2Sign N⟩ := by
  have hE : EnvOK Tryz.prog (E_s_l2Sign N) := ⟨tabP_ok, look_all (Q := fun t s => Ctr Tryz.prog Vp t s) _ (by
    intro p hp
    simp only [List.mem_cons, List.not_mem_nil, or_false] at hp
    rcases hp with rfl | rfl
    · exact c_s_l2Digit N
    · exact c_s_l2In N), (fun _ _ h => by cases h)⟩
  have h := fn_sound hE (by kernel_rfl) (N := N) (A := A_s_l2Sign) (pl := [⟨0, .val, (.int .u8)⟩]) (fid := 156) (fn := Tryz.f156) (c := ((Tryz.f156.body).getD .skip)) ⟨Tryz.func156, by kernel_rfl, by kernel_rfl, by kernel_rfl, Nat.le_of_ble_eq_true (by kernel_rfl), by kernel_rfl, by kernel_rfl, Nat.le_of_ble_eq_true (by kernel_rfl), by kernel_rfl⟩
  have e : s_l2Sign N = evalF (E_s_l2Sign N) A_s_l2Sign N [⟨0, .val, (.int .u8)⟩] ((Tryz.f156.body).getD .skip) := funext fun x => by kernel_rfl
  rw [e]
  exact h
noncomputable def E_s_Dec (N : Nat) : Cz := { tab := tabP, n := 31, V := Vp, ann := look [(21, (.int .u8))], fn := look [], fx := look [] }
def A_s_Dec : An := { join := look [(15, ([⟨5, .val, (.int .i64)⟩], [5, 16, 17]))], loop := look [(0, ⟨[⟨0, .val, (.int .i64)⟩, ⟨3, .val, .str⟩], [⟨3, .val, .str⟩], [0, 3, 5, 10, 11, 12, 13, 14, 15, 16, 17, 18, 19, 20, 21, 22, 23, 24, 25, 26]⟩)], ret := [⟨2, .val, .str⟩] }
theorem c_s_Dec (N : Nat) : Ctr Tryz.prog Vp 192 ⟨[(.int .i64)], [.str], s_Dec N⟩ := by
  have hE : EnvOK Tryz.prog (E_s_Dec N) := ⟨tabP_ok, (fun _ _ h => by cases h), (fun _ _ h => by cases h)⟩
  have h := fn_sound hE (by kernel_rfl) (N := N) (A := A_s_Dec) (pl := [⟨0, .val, (.int .i64)⟩]) (fid := 192) (fn := Tryz.f192) (c := ((Tryz.f192.body).getD .skip)) ⟨Tryz.func192, by kernel_rfl, by kernel_rfl, by kernel_rfl, Nat.le_of_ble_eq_true (by kernel_rfl), by kernel_rfl, by kernel_rfl, Nat.le_of_ble_eq_true (by kernel_rfl), by kernel_rfl⟩
  have e : s_Dec N = evalF (E_s_Dec N) A_s_Dec N [⟨0, .val, (.int .i64)⟩] ((Tryz.f192.body).getD .skip) := funext fun x => by kernel_rfl
  rw [e]
  exact h
noncomputable def E_s_ReadDec (N : Nat) : Cz := { tab := tabP, n := 61, V := Vp, ann := look [], fn := look [(192, (⟨[(.int .i64)], [.str], s_Dec N⟩ : Fn))], fx := look [] }
def A_s_ReadDec : An := { join := look [(26, ([⟨4, .val, (.int .i64)⟩, ⟨5, .val, (.int .i64)⟩], [4, 5, 27, 28, 29, 30, 31, 32, 33, 34, 35, 36])), (44, ([⟨4, .val, (.int .i64)⟩], [4, 45, 46]))], loop := look [(0, ⟨[⟨4, .val, (.int .i64)⟩, ⟨5, .val, (.int .i64)⟩, ⟨6, .val, (.int .i64)⟩], [⟨4, .val, (.int .i64)⟩, ⟨5, .val, (.int .i64)⟩], [4, 5, 6, 7, 8, 9, 10, 11, 12, 13, 14, 15, 16, 17, 18, 19, 20, 21, 22, 23, 24, 25, 26, 27, 28, 29, 30, 31, 32, 33, 34, 35, 36]⟩)], ret := [⟨2, .val, (.int .i64)⟩, ⟨3, .val, .bool⟩] }
theorem c_s_ReadDec (N : Nat) : Ctr Tryz.prog Vp 157 ⟨[.str], [(.int .i64), .bool], s_ReadDec N⟩ := by
  have hE : EnvOK Tryz.prog (E_s_ReadDec N) := ⟨tabP_ok, look_all (Q := fun t s => Ctr Tryz.prog Vp t s) _ (by
    intro p hp
    simp only [List.mem_cons, List.not_mem_nil, or_false] at hp
    rcases hp with rfl
    · exact c_s_Dec N), (fun _ _ h => by cases h)⟩
  have h := fn_sound hE (by kernel_rfl) (N := N) (A := A_s_ReadDec) (pl := [⟨0, .val, .str⟩]) (fid := 157) (fn := Tryz.f157) (c := ((Tryz.f157.body).getD .skip)) ⟨Tryz.func157, by kernel_rfl, by kernel_rfl, by kernel_rfl, Nat.le_of_ble_eq_true (by kernel_rfl), by kernel_rfl, by kernel_rfl, Nat.le_of_ble_eq_true (by kernel_rfl), by kernel_rfl⟩
  have e : s_ReadDec N = evalF (E_s_ReadDec N) A_s_ReadDec N [⟨0, .val, .str⟩] ((Tryz.f157.body).getD .skip) := funext fun x => by kernel_rfl
  rw [e]
  exact h
noncomputable def E_s_l2Sym (N : Nat) : Cz := { tab := tabP, n := 33, V := Vp, ann := look [], fn := look [(114, (⟨[(.int .i64), (.int .i64), (.int .i64)], [.bool], s_l1In N⟩ : Fn)), (155, (⟨[(.int .u8)], [.bool], s_l2Digit N⟩ : Fn)), (156, (⟨[(.int .u8)], [.bool], s_l2Sign N⟩ : Fn)), (157, (⟨[.str], [(.int .i64), .bool], s_ReadDec N⟩ : Fn))], fx := look [] }
def A_s_l2Sym : An := { join := look [], loop := look [(0, ⟨[⟨3, .val, (.int .i64)⟩], [], [2, 3, 15, 16, 17, 18, 19, 20, 21, 22, 23, 24, 25]⟩)], ret := [⟨2, .val, .bool⟩] }
theorem c_s_l2Sym (N : Nat) : Ctr Tryz.prog Vp 115 ⟨[.str], [.bool], s_l2Sym N⟩ := by
  have hE : EnvOK Tryz.prog (E_s_l2Sym N) := ⟨tabP_ok, look_all (Q := fun t s => Ctr Tryz.prog Vp t s) _ (by
    intro p hp
    simp only [List.mem_cons, List.not_mem_nil, or_false] at hp
    rcases hp with rfl | rfl | rfl | rfl
    · exact c_s_l1In N
    · exact c_s_l2Digit N
    · exact c_s_l2Sign N
    · exact c_s_ReadDec N), (fun _ _ h => by cases h)⟩
  have h := fn_sound hE (by kernel_rfl) (N := N) (A := A_s_l2Sym) (pl := [⟨0, .val, .str⟩]) (fid := 115) (fn := Tryz.f115) (c := ((Tryz.f115.body).getD .skip)) ⟨Tryz.func115, by kernel_rfl, by kernel_rfl, by kernel_rfl, Nat.le_of_ble_eq_true (by kernel_rfl), by kernel_rfl, by kernel_rfl, Nat.le_of_ble_eq_true (by kernel_rfl), by kernel_rfl⟩
  have e : s_l2Sym N = evalF (E_s_l2Sym N) A_s_l2Sym N [⟨0, .val, .str⟩] ((Tryz.f115.body).getD .skip) := funext fun x => by kernel_rfl
  rw [e]
  exact h
noncomputable def E_s_l6Cell (N : Nat) : Cz := { tab := tabP, n := 24, V := Vp, ann := look [], fn := look [], fx := look [] }
def A_s_l6Cell : An := { join := look [], loop := look [], ret := [⟨6, .val, .bool⟩] }
theorem c_s_l6Cell (N : Nat) : Ctr Tryz.prog Vp 116 ⟨[(.sl .lend (.pair (.int .i64) (.pair .str (.pair (.int .i64) (.pair (.int .i64) (.pair (.sl .lend .str) (.pair (.sl .lend (.pair (.int .i64) (.pair (.int .i64) (.pair .str .unit)))) .unit))))))), (.int .i64), (.int .i64)], [.bool], s_l6Cell N⟩ := by
  have hE : EnvOK Tryz.prog (E_s_l6Cell N) := ⟨tabP_ok, (fun _ _ h => by cases h), (fun _ _ h => by cases h)⟩
  have h := fn_sound hE (by kernel_rfl) (N := N) (A := A_s_l6Cell) (pl := [⟨0, .val, (.sl .lend (.pair (.int .i64) (.pair .str (.pair (.int .i64) (.pair (.int .i64) (.pair (.sl .lend .str) (.pair (.sl .lend (.pair (.int .i64) (.pair (.int .i64) (.pair .str .unit)))) .unit)))))))⟩, ⟨1, .val, (.int .i64)⟩, ⟨2, .val, (.int .i64)⟩]) (fid := 116) (fn := Tryz.f116) (c := ((Tryz.f116.body).getD .skip)) ⟨Tryz.func116, by kernel_rfl, by kernel_rfl, by kernel_rfl, Nat.le_of_ble_eq_true (by kernel_rfl), by kernel_rfl, by kernel_rfl, Nat.le_of_ble_eq_true (by kernel_rfl), by kernel_rfl⟩
  have e : s_l6Cell N = evalF (E_s_l6Cell N) A_s_l6Cell N [⟨0, .val, (.sl .lend (.pair (.int .i64) (.pair .str (.pair (.int .i64) (.pair (.int .i64) (.pair (.sl .lend .str) (.pair (.sl .lend (.pair (.int .i64) (.pair (.int .i64) (.pair .str .unit)))) .unit)))))))⟩, ⟨1, .val, (.int .i64)⟩, ⟨2, .val, (.int .i64)⟩] ((Tryz.f116.body).getD .skip) := funext fun x => by kernel_rfl
  rw [e]
  exact h
noncomputable def E_s_ValueOk (N : Nat) : Cz := { tab := tabP, n := 58, V := Vp, ann := look [], fn := look [(114, (⟨[(.int .i64), (.int .i64), (.int .i64)], [.bool], s_l1In N⟩ : Fn)), (115, (⟨[.str], [.bool], s_l2Sym N⟩ : Fn)), (116, (⟨[(.sl .lend (.pair (.int .i64) (.pair .str (.pair (.int .i64) (.pair (.int .i64) (.pair (.sl .lend .str) (.pair (.sl .lend (.pair (.int .i64) (.pair (.int .i64) (.pair .str .unit)))) .unit))))))), (.int .i64), (.int .i64)], [.bool], s_l6Cell N⟩ : Fn))], fx := look [] }
def A_s_ValueOk : An := { join := look [], loop := look [], ret := [⟨4, .val, .bool⟩] }
theorem c_s_ValueOk (N : Nat) : Ctr Tryz.prog Vp 57 ⟨[(.sl .lend (.pair (.int .i64) (.pair .str (.pair (.int .i64) (.pair (.int .i64) (.pair (.sl .lend .str) (.pair (.sl .lend (.pair (.int .i64) (.pair (.int .i64) (.pair .str .unit)))) .unit))))))), (.pair (.int .i64) (.pair (.int .i64) (.pair .str .unit)))], [.bool], s_ValueOk N⟩ := by
  have hE : EnvOK Tryz.prog (E_s_ValueOk N) := ⟨tabP_ok, look_all (Q := fun t s => Ctr Tryz.prog Vp t s) _ (by
    intro p hp
    simp only [List.mem_cons, List.not_mem_nil, or_false] at hp
    rcases hp with rfl | rfl | rfl
    · exact c_s_l1In N
    · exact c_s_l2Sym N
    · exact c_s_l6Cell N), (fun _ _ h => by cases h)⟩
  have h := fn_sound hE (by kernel_rfl) (N := N) (A := A_s_ValueOk) (pl := [⟨0, .val, (.sl .lend (.pair (.int .i64) (.pair .str (.pair (.int .i64) (.pair (.int .i64) (.pair (.sl .lend .str) (.pair (.sl .lend (.pair (.int .i64) (.pair (.int .i64) (.pair .str .unit)))) .unit)))))))⟩, ⟨1, .val, (.pair (.int .i64) (.pair (.int .i64) (.pair .str .unit)))⟩]) (fid := 57) (fn := Tryz.f57) (c := ((Tryz.f57.body).getD .skip)) ⟨Tryz.func57, by kernel_rfl, by kernel_rfl, by kernel_rfl, Nat.le_of_ble_eq_true (by kernel_rfl), by kernel_rfl, by kernel_rfl, Nat.le_of_ble_eq_true (by kernel_rfl), by kernel_rfl⟩
  have e : s_ValueOk N = evalF (E_s_ValueOk N) A_s_ValueOk N [⟨0, .val, (.sl .lend (.pair (.int .i64) (.pair .str (.pair (.int .i64) (.pair (.int .i64) (.pair (.sl .lend .str) (.pair (.sl .lend (.pair (.int .i64) (.pair (.int .i64) (.pair .str .unit)))) .unit)))))))⟩, ⟨1, .val, (.pair (.int .i64) (.pair (.int .i64) (.pair .str .unit)))⟩] ((Tryz.f57.body).getD .skip) := funext fun x => by kernel_rfl
  rw [e]
  exact h
noncomputable def E_s_l6Points (N : Nat) : Cz := { tab := tabP, n := 6, V := Vp, ann := look [], fn := look [(114, (⟨[(.int .i64), (.int .i64), (.int .i64)], [.bool], s_l1In N⟩ : Fn))], fx := look [] }
def A_s_l6Points : An := { join := look [], loop := look [], ret := [⟨2, .val, .bool⟩] }
theorem c_s_l6Points (N : Nat) : Ctr Tryz.prog Vp 117 ⟨[(.pair (.int .i64) (.pair (.int .i64) (.pair .str .unit)))], [.bool], s_l6Points N⟩ := by
  have hE : EnvOK Tryz.prog (E_s_l6Points N) := ⟨tabP_ok, look_all (Q := fun t s => Ctr Tryz.prog Vp t s) _ (by
    intro p hp
    simp only [List.mem_cons, List.not_mem_nil, or_false] at hp
    rcases hp with rfl
    · exact c_s_l1In N), (fun _ _ h => by cases h)⟩
  have h := fn_sound hE (by kernel_rfl) (N := N) (A := A_s_l6Points) (pl := [⟨0, .val, (.pair (.int .i64) (.pair (.int .i64) (.pair .str .unit)))⟩]) (fid := 117) (fn := Tryz.f117) (c := ((Tryz.f117.body).getD .skip)) ⟨Tryz.func117, by kernel_rfl, by kernel_rfl, by kernel_rfl, Nat.le_of_ble_eq_true (by kernel_rfl), by kernel_rfl, by kernel_rfl, Nat.le_of_ble_eq_true (by kernel_rfl), by kernel_rfl⟩
  have e : s_l6Points N = evalF (E_s_l6Points N) A_s_l6Points N [⟨0, .val, (.pair (.int .i64) (.pair (.int .i64) (.pair .str .unit)))⟩] ((Tryz.f117.body).getD .skip) := funext fun x => by kernel_rfl
  rw [e]
  exact h
noncomputable def E_s_l3In (N : Nat) : Cz := { tab := tabP, n := 18, V := Vp, ann := look [], fn := look [], fx := look [] }
def A_s_l3In : An := { join := look [], loop := look [(0, ⟨[⟨5, .val, (.int .i64)⟩], [], [4, 5, 6, 7, 8, 9, 10, 11, 12, 13, 14, 15, 16, 17]⟩)], ret := [⟨4, .val, .bool⟩] }
theorem c_s_l3In (N : Nat) : Ctr Tryz.prog Vp 78 ⟨[(.sl .lend .str), .str], [.bool], s_l3In N⟩ := by
  have hE : EnvOK Tryz.prog (E_s_l3In N) := ⟨tabP_ok, (fun _ _ h => by cases h), (fun _ _ h => by cases h)⟩
  have h := fn_sound hE (by kernel_rfl) (N := N) (A := A_s_l3In) (pl := [⟨0, .val, (.sl .lend .str)⟩, ⟨1, .val, .str⟩]) (fid := 78) (fn := Tryz.f78) (c := ((Tryz.f78.body).getD .skip)) ⟨Tryz.func78, by kernel_rfl, by kernel_rfl, by kernel_rfl, Nat.le_of_ble_eq_true (by kernel_rfl), by kernel_rfl, by kernel_rfl, Nat.le_of_ble_eq_true (by kernel_rfl), by kernel_rfl⟩
  have e : s_l3In N = evalF (E_s_l3In N) A_s_l3In N [⟨0, .val, (.sl .lend .str)⟩, ⟨1, .val, .str⟩] ((Tryz.f78.body).getD .skip) := funext fun x => by kernel_rfl
  rw [e]
  exact h
noncomputable def E_s_l3Word (N : Nat) : Cz := { tab := tabP, n := 6, V := Vp, ann := look [(3, .str)], fn := look [(78, (⟨[(.sl .lend .str), .str], [.bool], s_l3In N⟩ : Fn))], fx := look [] }
def A_s_l3Word : An := { join := look [], loop := look [], ret := [⟨2, .val, .bool⟩] }
theorem c_s_l3Word (N : Nat) : Ctr Tryz.prog Vp 158 ⟨[.str], [.bool], s_l3Word N⟩ := by
  have hE : EnvOK Tryz.prog (E_s_l3Word N) := ⟨tabP_ok, look_all (Q := fun t s => Ctr Tryz.prog Vp t s) _ (by
    intro p hp
    simp only [List.mem_cons, List.not_mem_nil, or_false] at hp
    rcases hp with rfl
    · exact c_s_l3In N), (fun _ _ h => by cases h)⟩
  have h := fn_sound hE (by kernel_rfl) (N := N) (A := A_s_l3Word) (pl := [⟨0, .val, .str⟩]) (fid := 158) (fn := Tryz.f158) (c := ((Tryz.f158.body).getD .skip)) ⟨Tryz.func158, by kernel_rfl, by kernel_rfl, by kernel_rfl, Nat.le_of_ble_eq_true (by kernel_rfl), by kernel_rfl, by kernel_rfl, Nat.le_of_ble_eq_true (by kernel_rfl), by kernel_rfl⟩
  have e : s_l3Word N = evalF (E_s_l3Word N) A_s_l3Word N [⟨0, .val, .str⟩] ((Tryz.f158.body).getD .skip) := funext fun x => by kernel_rfl
  rw [e]
  exact h
noncomputable def E_s_Arity (N : Nat) : Cz := { tab := tabP, n := 24, V := Vp, ann := look [], fn := look [], fx := look [] }
def A_s_Arity : An := { join := look [(4, ([⟨4, .val, .bool⟩], [4, 6, 7, 8, 9, 10, 11])), (12, ([⟨12, .val, .bool⟩], [12, 14, 15, 16, 17, 18, 19, 20, 21]))], loop := look [], ret := [⟨2, .val, (.int .i64)⟩] }
theorem c_s_Arity (N : Nat) : Ctr Tryz.prog Vp 159 ⟨[.str], [(.int .i64)], s_Arity N⟩ := by
  have hE : EnvOK Tryz.prog (E_s_Arity N) := ⟨tabP_ok, (fun _ _ h => by cases h), (fun _ _ h => by cases h)⟩
  have h := fn_sound hE (by kernel_rfl) (N := N) (A := A_s_Arity) (pl := [⟨0, .val, .str⟩]) (fid := 159) (fn := Tryz.f159) (c := ((Tryz.f159.body).getD .skip)) ⟨Tryz.func159, by kernel_rfl, by kernel_rfl, by kernel_rfl, Nat.le_of_ble_eq_true (by kernel_rfl), by kernel_rfl, by kernel_rfl, Nat.le_of_ble_eq_true (by kernel_rfl), by kernel_rfl⟩
  have e : s_Arity N = evalF (E_s_Arity N) A_s_Arity N [⟨0, .val, .str⟩] ((Tryz.f159.body).getD .skip) := funext fun x => by kernel_rfl
  rw [e]
  exact h
noncomputable def E_s_IsName (N : Nat) : Cz := { tab := tabP, n := 19, V := Vp, ann := look [], fn := look [(115, (⟨[.str], [.bool], s_l2Sym N⟩ : Fn)), (158, (⟨[.str], [.bool], s_l3Word N⟩ : Fn)), (159, (⟨[.str], [(.int .i64)], s_Arity N⟩ : Fn))], fx := look [] }
def A_s_IsName : An := { join := look [], loop := look [], ret := [⟨2, .val, .bool⟩] }
theorem c_s_IsName (N : Nat) : Ctr Tryz.prog Vp 118 ⟨[.str], [.bool], s_IsName N⟩ := by
  have hE : EnvOK Tryz.prog (E_s_IsName N) := ⟨tabP_ok, look_all (Q := fun t s => Ctr Tryz.prog Vp t s) _ (by
    intro p hp
    simp only [List.mem_cons, List.not_mem_nil, or_false] at hp
    rcases hp with rfl | rfl | rfl
    · exact c_s_l2Sym N
    · exact c_s_l3Word N
    · exact c_s_Arity N), (fun _ _ h => by cases h)⟩
  have h := fn_sound hE (by kernel_rfl) (N := N) (A := A_s_IsName) (pl := [⟨0, .val, .str⟩]) (fid := 118) (fn := Tryz.f118) (c := ((Tryz.f118.body).getD .skip)) ⟨Tryz.func118, by kernel_rfl, by kernel_rfl, by kernel_rfl, Nat.le_of_ble_eq_true (by kernel_rfl), by kernel_rfl, by kernel_rfl, Nat.le_of_ble_eq_true (by kernel_rfl), by kernel_rfl⟩
  have e : s_IsName N = evalF (E_s_IsName N) A_s_IsName N [⟨0, .val, .str⟩] ((Tryz.f118.body).getD .skip) := funext fun x => by kernel_rfl
  rw [e]
  exact h
noncomputable def E_s_l6CellOk (N : Nat) : Cz := { tab := tabP, n := 144, V := Vp, ann := look [], fn := look [(57, (⟨[(.sl .lend (.pair (.int .i64) (.pair .str (.pair (.int .i64) (.pair (.int .i64) (.pair (.sl .lend .str) (.pair (.sl .lend (.pair (.int .i64) (.pair (.int .i64) (.pair .str .unit)))) .unit))))))), (.pair (.int .i64) (.pair (.int .i64) (.pair .str .unit)))], [.bool], s_ValueOk N⟩ : Fn)), (114, (⟨[(.int .i64), (.int .i64), (.int .i64)], [.bool], s_l1In N⟩ : Fn)), (117, (⟨[(.pair (.int .i64) (.pair (.int .i64) (.pair .str .unit)))], [.bool], s_l6Points N⟩ : Fn)), (118, (⟨[.str], [.bool], s_IsName N⟩ : Fn))], fx := look [] }
def A_s_l6CellOk : An := { join := look [], loop := look [(0, ⟨[⟨5, .box false, (.pair (.int .i64) (.pair .str (.pair (.int .i64) (.pair (.int .i64) (.pair (.sl .lend .str) (.pair (.sl .lend (.pair (.int .i64) (.pair (.int .i64) (.pair .str .unit)))) .unit))))))⟩, ⟨6, .val, (.int .i64)⟩], [⟨5, .box false, (.pair (.int .i64) (.pair .str (.pair (.int .i64) (.pair (.int .i64) (.pair (.sl .lend .str) (.pair (.sl .lend (.pair (.int .i64) (.pair (.int .i64) (.pair .str .unit)))) .unit))))))⟩], [4, 6, 12, 13, 14, 15, 16, 17, 18, 19, 20, 21, 22, 23, 24, 25, 26, 27, 28, 29, 30, 31, 32, 33, 34, 35, 36, 37, 38, 39, 40, 41, 42, 43, 44, 45, 46, 47, 48, 49]⟩), (3, ⟨[⟨5, .box false, (.pair (.int .i64) (.pair .str (.pair (.int .i64) (.pair (.int .i64) (.pair (.sl .lend .str) (.pair (.sl .lend (.pair (.int .i64) (.pair (.int .i64) (.pair .str .unit)))) .unit))))))⟩, ⟨7, .val, (.int .i64)⟩], [⟨5, .box false, (.pair (.int .i64) (.pair .str (.pair (.int .i64) (.pair (.int .i64) (.pair (.sl .lend .str) (.pair (.sl .lend (.pair (.int .i64) (.pair (.int .i64) (.pair .str .unit)))) .unit))))))⟩], [4, 7, 81, 82, 83, 84, 85, 86, 87, 88, 89, 90, 91, 92, 93, 94]⟩)], ret := [⟨4, .val, .bool⟩] }
theorem c_s_l6CellOk (N : Nat) : Ctr Tryz.prog Vp 60 ⟨[(.sl .lend (.pair (.int .i64) (.pair .str (.pair (.int .i64) (.pair (.int .i64) (.pair (.sl .lend .str) (.pair (.sl .lend (.pair (.int .i64) (.pair (.int .i64) (.pair .str .unit)))) .unit))))))), (.int .i64)], [.bool], s_l6CellOk N⟩ := by
  have hE : EnvOK Tryz.prog (E_s_l6CellOk N) := ⟨tabP_ok, look_all (Q := fun t s => Ctr Tryz.prog Vp t s) _ (by
    intro p hp
    simp only [List.mem_cons, List.not_mem_nil, or_false] at hp
    rcases hp with rfl | rfl | rfl | rfl
    · exact c_s_ValueOk N
    · exact c_s_l1In N
    · exact c_s_l6Points N
    · exact c_s_IsName N), (fun _ _ h => by cases h)⟩
  have h := fn_sound hE (by kernel_rfl) (N := N) (A := A_s_l6CellOk) (pl := [⟨0, .val, (.sl .lend (.pair (.int .i64) (.pair .str (.pair (.int .i64) (.pair (.int .i64) (.pair (.sl .lend .str) (.pair (.sl .lend (.pair (.int .i64) (.pair (.int .i64) (.pair .str .unit)))) .unit)))))))⟩, ⟨1, .val, (.int .i64)⟩]) (fid := 60) (fn := Tryz.f60) (c := ((Tryz.f60.body).getD .skip)) ⟨Tryz.func60, by kernel_rfl, by kernel_rfl, by kernel_rfl, Nat.le_of_ble_eq_true (by kernel_rfl), by kernel_rfl, by kernel_rfl, Nat.le_of_ble_eq_true (by kernel_rfl), by kernel_rfl⟩
  have e : s_l6CellOk N = evalF (E_s_l6CellOk N) A_s_l6CellOk N [⟨0, .val, (.sl .lend (.pair (.int .i64) (.pair .str (.pair (.int .i64) (.pair (.int .i64) (.pair (.sl .lend .str) (.pair (.sl .lend (.pair (.int .i64) (.pair (.int .i64) (.pair .str .unit)))) .unit)))))))⟩, ⟨1, .val, (.int .i64)⟩] ((Tryz.f60.body).getD .skip) := funext fun x => by kernel_rfl
  rw [e]
  exact h
noncomputable def E_s_HeapOk (N : Nat) : Cz := { tab := tabP, n := 17, V := Vp, ann := look [], fn := look [(60, (⟨[(.sl .lend (.pair (.int .i64) (.pair .str (.pair (.int .i64) (.pair (.int .i64) (.pair (.sl .lend .str) (.pair (.sl .lend (.pair (.int .i64) (.pair (.int .i64) (.pair .str .unit)))) .unit))))))), (.int .i64)], [.bool], s_l6CellOk N⟩ : Fn))], fx := look [] }
def A_s_HeapOk : An := { join := look [], loop := look [(0, ⟨[⟨3, .val, (.int .i64)⟩], [], [2, 3, 7, 8, 9, 10, 11, 12, 13, 14, 15, 16]⟩)], ret := [⟨2, .val, .bool⟩] }
theorem c_s_HeapOk (N : Nat) : Ctr Tryz.prog Vp 12 ⟨[(.sl .lend (.pair (.int .i64) (.pair .str (.pair (.int .i64) (.pair (.int .i64) (.pair (.sl .lend .str) (.pair (.sl .lend (.pair (.int .i64) (.pair (.int .i64) (.pair .str .unit)))) .unit)))))))], [.bool], s_HeapOk N⟩ := by
  have hE : EnvOK Tryz.prog (E_s_HeapOk N) := ⟨tabP_ok, look_all (Q := fun t s => Ctr Tryz.prog Vp t s) _ (by
    intro p hp
    simp only [List.mem_cons, List.not_mem_nil, or_false] at hp
    rcases hp with rfl
    · exact c_s_l6CellOk N), (fun _ _ h => by cases h)⟩
  have h := fn_sound hE (by kernel_rfl) (N := N) (A := A_s_HeapOk) (pl := [⟨0, .val, (.sl .lend (.pair (.int .i64) (.pair .str (.pair (.int .i64) (.pair (.int .i64) (.pair (.sl .lend .str) (.pair (.sl .lend (.pair (.int .i64) (.pair (.int .i64) (.pair .str .unit)))) .unit)))))))⟩]) (fid := 12) (fn := Tryz.f12) (c := ((Tryz.f12.body).getD .skip)) ⟨Tryz.func12, by kernel_rfl, by kernel_rfl, by kernel_rfl, Nat.le_of_ble_eq_true (by kernel_rfl), by kernel_rfl, by kernel_rfl, Nat.le_of_ble_eq_true (by kernel_rfl), by kernel_rfl⟩
  have e : s_HeapOk N = evalF (E_s_HeapOk N) A_s_HeapOk N [⟨0, .val, (.sl .lend (.pair (.int .i64) (.pair .str (.pair (.int .i64) (.pair (.int .i64) (.pair (.sl .lend .str) (.pair (.sl .lend (.pair (.int .i64) (.pair (.int .i64) (.pair .str .unit)))) .unit)))))))⟩] ((Tryz.f12.body).getD .skip) := funext fun x => by kernel_rfl
  rw [e]
  exact h
noncomputable def E_s_l26Least (N : Nat) : Cz := { tab := tabP, n := 6, V := Vp, ann := look [], fn := look [], fx := look [] }
def A_s_l26Least : An := { join := look [], loop := look [], ret := [⟨2, .val, (.int .i64)⟩] }
theorem c_s_l26Least (N : Nat) : Ctr Tryz.prog Vp 64 ⟨[(.int .i64)], [(.int .i64)], s_l26Least N⟩ := by
  have hE : EnvOK Tryz.prog (E_s_l26Least N) := ⟨tabP_ok, (fun _ _ h => by cases h), (fun _ _ h => by cases h)⟩
  have h := fn_sound hE (by kernel_rfl) (N := N) (A := A_s_l26Least) (pl := [⟨0, .val, (.int .i64)⟩]) (fid := 64) (fn := Tryz.f64) (c := ((Tryz.f64.body).getD .skip)) ⟨Tryz.func64, by kernel_rfl, by kernel_rfl, by kernel_rfl, Nat.le_of_ble_eq_true (by kernel_rfl), by kernel_rfl, by kernel_rfl, Nat.le_of_ble_eq_true (by kernel_rfl), by kernel_rfl⟩
  have e : s_l26Least N = evalF (E_s_l26Least N) A_s_l26Least N [⟨0, .val, (.int .i64)⟩] ((Tryz.f64.body).getD .skip) := funext fun x => by kernel_rfl
  rw [e]
  exact h
noncomputable def E_s_Weight (N : Nat) : Cz := { tab := tabP, n := 80, V := Vp, ann := look [(24, (.int .i64))], fn := look [(12, (⟨[(.sl .lend (.pair (.int .i64) (.pair .str (.pair (.int .i64) (.pair (.int .i64) (.pair (.sl .lend .str) (.pair (.sl .lend (.pair (.int .i64) (.pair (.int .i64) (.pair .str .unit)))) .unit)))))))], [.bool], s_HeapOk N⟩ : Fn)), (57, (⟨[(.sl .lend (.pair (.int .i64) (.pair .str (.pair (.int .i64) (.pair (.int .i64) (.pair (.sl .lend .str) (.pair (.sl .lend (.pair (.int .i64) (.pair (.int .i64) (.pair .str .unit)))) .unit))))))), (.pair (.int .i64) (.pair (.int .i64) (.pair .str .unit)))], [.bool], s_ValueOk N⟩ : Fn)), (64, (⟨[(.int .i64)], [(.int .i64)], s_l26Least N⟩ : Fn))], fx := look [] }
def A_s_Weight : An := { join := look [(53, ([⟨3, .box false, (.pair (.int .i64) (.pair (.int .i64) (.pair .str .unit)))⟩, ⟨5, .own false, (.sl .own (.int .i64))⟩], [54, 55, 56, 57, 58, 59, 60, 61, 62, 63, 64, 65, 66, 67, 68, 69, 70, 71, 72, 73, 74]))], loop := look [(2, ⟨[⟨3, .box false, (.pair (.int .i64) (.pair (.int .i64) (.pair .str .unit)))⟩, ⟨5, .own false, (.sl .own (.int .i64))⟩, ⟨7, .val, (.int .i64)⟩], [⟨3, .box false, (.pair (.int .i64) (.pair (.int .i64) (.pair .str .unit)))⟩, ⟨5, .own false, (.sl .own (.int .i64))⟩], [7, 40, 41, 42, 43, 44, 45, 46, 47, 48, 49, 50, 51, 52, 53, 54, 55, 56, 57, 58, 59, 60, 61, 62, 63, 64, 65, 66, 67, 68, 69, 70, 71, 72, 73, 74]⟩), (0, ⟨[⟨3, .box false, (.pair (.int .i64) (.pair (.int .i64) (.pair .str .unit)))⟩, ⟨5, .own false, (.sl .own (.int .i64))⟩, ⟨6, .val, (.int .i64)⟩], [⟨3, .box false, (.pair (.int .i64) (.pair (.int .i64) (.pair .str .unit)))⟩, ⟨5, .own false, (.sl .own (.int .i64))⟩], [6, 7, 25, 26, 27, 28, 29, 30, 31, 32, 33, 34, 35, 36, 37, 38, 39, 40, 41, 42, 43, 44, 45, 46, 47, 48, 49, 50, 51, 52, 53, 54, 55, 56, 57, 58, 59, 60, 61, 62, 63, 64, 65, 66, 67, 68, 69, 70, 71, 72, 73, 74]⟩)], ret := [⟨4, .val, (.int .i64)⟩] }
theorem c_s_Weight (N : Nat) : Ctr Tryz.prog Vp 16 ⟨[(.sl .lend (.pair (.int .i64) (.pair .str (.pair (.int .i64) (.pair (.int .i64) (.pair (.sl .lend .str) (.pair (.sl .lend (.pair (.int .i64) (.pair (.int .i64) (.pair .str .unit)))) .unit))))))), (.pair (.int .i64) (.pair (.int .i64) (.pair .str .unit)))], [(.int .i64)], s_Weight N⟩ := by
  have hE : EnvOK Tryz.prog (E_s_Weight N) := ⟨tabP_ok, look_all (Q := fun t s => Ctr Tryz.prog Vp t s) _ (by
    intro p hp
    simp only [List.mem_cons, List.not_mem_nil, or_false] at hp
    rcases hp with rfl | rfl | rfl
    · exact c_s_HeapOk N
    · exact c_s_ValueOk N
    · exact c_s_l26Least N), (fun _ _ h => by cases h)⟩
  have h := fn_sound hE (by kernel_rfl) (N := N) (A := A_s_Weight) (pl := [⟨0, .val, (.sl .lend (.pair (.int .i64) (.pair .str (.pair (.int .i64) (.pair (.int .i64) (.pair (.sl .lend .str) (.pair (.sl .lend (.pair (.int .i64) (.pair (.int .i64) (.pair .str .unit)))) .unit)))))))⟩, ⟨1, .val, (.pair (.int .i64) (.pair (.int .i64) (.pair .str .unit)))⟩]) (fid := 16) (fn := Tryz.f16) (c := ((Tryz.f16.body).getD .skip)) ⟨Tryz.func16, by kernel_rfl, by kernel_rfl, by kernel_rfl, Nat.le_of_ble_eq_true (by kernel_rfl), by kernel_rfl, by kernel_rfl, Nat.le_of_ble_eq_true (by kernel_rfl), by kernel_rfl⟩
  have e : s_Weight N = evalF (E_s_Weight N) A_s_Weight N [⟨0, .val, (.sl .lend (.pair (.int .i64) (.pair .str (.pair (.int .i64) (.pair (.int .i64) (.pair (.sl .lend .str) (.pair (.sl .lend (.pair (.int .i64) (.pair (.int .i64) (.pair .str .unit)))) .unit)))))))⟩, ⟨1, .val, (.pair (.int .i64) (.pair (.int .i64) (.pair .str .unit)))⟩] ((Tryz.f16.body).getD .skip) := funext fun x => by kernel_rfl
  rw [e]
  exact h
noncomputable def E_s_l8CopyCells (N : Nat) : Cz := { tab := tabP, n := 32, V := Vp, ann := look [(20, .str), (25, (.pair (.int .i64) (.pair (.int .i64) (.pair .str .unit)))), (29, (.pair (.int .i64) (.pair .str (.pair (.int .i64) (.pair (.int .i64) (.pair (.sl .own .str) (.pair (.sl .own (.pair (.int .i64) (.pair (.int .i64) (.pair .str .unit)))) .unit))))))), (30, (.pair (.int .i64) (.pair .str (.pair (.int .i64) (.pair (.int .i64) (.pair (.sl .own .str) (.pair (.sl .own (.pair (.int .i64) (.pair (.int .i64) (.pair .str .unit)))) .unit)))))))], fn := look [], fx := look [] }
def A_s_l8CopyCells : An := { join := look [], loop := look [(0, ⟨[⟨3, .own false, (.sl .own (.pair (.int .i64) (.pair .str (.pair (.int .i64) (.pair (.int .i64) (.pair (.sl .own .str) (.pair (.sl .own (.pair (.int .i64) (.pair (.int .i64) (.pair .str .unit)))) .unit)))))))⟩, ⟨4, .val, (.int .i64)⟩], [⟨3, .own false, (.sl .own (.pair (.int .i64) (.pair .str (.pair (.int .i64) (.pair (.int .i64) (.pair (.sl .own .str) (.pair (.sl .own (.pair (.int .i64) (.pair (.int .i64) (.pair .str .unit)))) .unit)))))))⟩], [3, 4, 5, 7, 8, 9, 10, 11, 12, 13, 14, 15, 16, 17, 18, 19, 20, 21, 22, 23, 24, 25, 26, 27, 28, 29, 30]⟩)], ret := [⟨2, .own false, (.sl .own (.pair (.int .i64) (.pair .str (.pair (.int .i64) (.pair (.int .i64) (.pair (.sl .own .str) (.pair (.sl .own (.pair (.int .i64) (.pair (.int .i64) (.pair .str .unit)))) .unit)))))))⟩] }
theorem c_s_l8CopyCells (N : Nat) : Ctr Tryz.prog Vp 56 ⟨[(.sl .lend (.pair (.int .i64) (.pair .str (.pair (.int .i64) (.pair (.int .i64) (.pair (.sl .lend .str) (.pair (.sl .lend (.pair (.int .i64) (.pair (.int .i64) (.pair .str .unit)))) .unit)))))))], [(.sl .own (.pair (.int .i64) (.pair .str (.pair (.int .i64) (.pair (.int .i64) (.pair (.sl .own .str) (.pair (.sl .own (.pair (.int .i64) (.pair (.int .i64) (.pair .str .unit)))) .unit)))))))], s_l8CopyCells N⟩ := by
  have hE : EnvOK Tryz.prog (E_s_l8CopyCells N) := ⟨tabP_ok, (fun _ _ h => by cases h), (fun _ _ h => by cases h)⟩
  have h := fn_sound hE (by kernel_rfl) (N := N) (A := A_s_l8CopyCells) (pl := [⟨0, .val, (.sl .lend (.pair (.int .i64) (.pair .str (.pair (.int .i64) (.pair (.int .i64) (.pair (.sl .lend .str) (.pair (.sl .lend (.pair (.int .i64) (.pair (.int .i64) (.pair .str .unit)))) .unit)))))))⟩]) (fid := 56) (fn := Tryz.f56) (c := ((Tryz.f56.body).getD .skip)) ⟨Tryz.func56, by kernel_rfl, by kernel_rfl, by kernel_rfl, Nat.le_of_ble_eq_true (by kernel_rfl), by kernel_rfl, by kernel_rfl, Nat.le_of_ble_eq_true (by kernel_rfl), by kernel_rfl⟩
  have e : s_l8CopyCells N = evalF (E_s_l8CopyCells N) A_s_l8CopyCells N [⟨0, .val, (.sl .lend (.pair (.int .i64) (.pair .str (.pair (.int .i64) (.pair (.int .i64) (.pair (.sl .lend .str) (.pair (.sl .lend (.pair (.int .i64) (.pair (.int .i64) (.pair .str .unit)))) .unit)))))))⟩] ((Tryz.f56.body).getD .skip) := funext fun x => by kernel_rfl
  rw [e]
  exact h
noncomputable def E_s_l30Plain (N : Nat) : Cz := { tab := tabP, n := 78, V := Vp, ann := look [(11, .bool)], fn := look [(117, (⟨[(.pair (.int .i64) (.pair (.int .i64) (.pair .str .unit)))], [.bool], s_l6Points N⟩ : Fn))], fx := look [] }
def A_s_l30Plain : An := { join := look [], loop := look [(2, ⟨[⟨3, .box false, (.pair (.int .i64) (.pair (.int .i64) (.pair .str .unit)))⟩, ⟨5, .own false, (.sl .own .bool)⟩, ⟨7, .val, (.int .i64)⟩], [⟨3, .box false, (.pair (.int .i64) (.pair (.int .i64) (.pair .str .unit)))⟩, ⟨5, .own false, (.sl .own .bool)⟩], [7, 8, 27, 28, 29, 30, 31, 32, 33, 34, 35, 36, 37, 38, 39, 40, 41, 42, 43, 44, 45, 46, 47, 48, 49, 50, 51, 52, 53, 54, 55, 56, 57, 58, 59, 60, 61, 62]⟩), (0, ⟨[⟨3, .box false, (.pair (.int .i64) (.pair (.int .i64) (.pair .str .unit)))⟩, ⟨5, .own false, (.sl .own .bool)⟩, ⟨6, .val, (.int .i64)⟩], [⟨3, .box false, (.pair (.int .i64) (.pair (.int .i64) (.pair .str .unit)))⟩, ⟨5, .own false, (.sl .own .bool)⟩], [6, 7, 8, 12, 13, 14, 15, 16, 17, 18, 19, 20, 21, 22, 23, 24, 25, 26, 27, 28, 29, 30, 31, 32, 33, 34, 35, 36, 37, 38, 39, 40, 41, 42, 43, 44, 45, 46, 47, 48, 49, 50, 51, 52, 53, 54, 55, 56, 57, 58, 59, 60, 61, 62]⟩)], ret := [⟨4, .val, .bool⟩] }
theorem c_s_l30Plain (N : Nat) : Ctr Tryz.prog Vp 58 ⟨[(.sl .lend (.pair (.int .i64) (.pair .str (.pair (.int .i64) (.pair (.int .i64) (.pair (.sl .lend .str) (.pair (.sl .lend (.pair (.int .i64) (.pair (.int .i64) (.pair .str .unit)))) .unit))))))), (.pair (.int .i64) (.pair (.int .i64) (.pair .str .unit)))], [.bool], s_l30Plain N⟩ := by
  have hE : EnvOK Tryz.prog (E_s_l30Plain N) := ⟨tabP_ok, look_all (Q := fun t s => Ctr Tryz.prog Vp t s) _ (by
    intro p hp
    simp only [List.mem_cons, List.not_mem_nil, or_false] at hp
    rcases hp with rfl
    · exact c_s_l6Points N), (fun _ _ h => by cases h)⟩
  have h := fn_sound hE (by kernel_rfl) (N := N) (A := A_s_l30Plain) (pl := [⟨0, .val, (.sl .lend (.pair (.int .i64) (.pair .str (.pair (.int .i64) (.pair (.int .i64) (.pair (.sl .lend .str) (.pair (.sl .lend (.pair (.int .i64) (.pair (.int .i64) (.pair .str .unit)))) .unit)))))))⟩, ⟨1, .val, (.pair (.int .i64) (.pair (.int .i64) (.pair .str .unit)))⟩]) (fid := 58) (fn := Tryz.f58) (c := ((Tryz.f58.body).getD .skip)) ⟨Tryz.func58, by kernel_rfl, by kernel_rfl, by kernel_rfl, Nat.le_of_ble_eq_true (by kernel_rfl), by kernel_rfl, by kernel_rfl, Nat.le_of_ble_eq_true (by kernel_rfl), by kernel_rfl⟩
  have e : s_l30Plain N = evalF (E_s_l30Plain N) A_s_l30Plain N [⟨0, .val, (.sl .lend (.pair (.int .i64) (.pair .str (.pair (.int .i64) (.pair (.int .i64) (.pair (.sl .lend .str) (.pair (.sl .lend (.pair (.int .i64) (.pair (.int .i64) (.pair .str .unit)))) .unit)))))))⟩, ⟨1, .val, (.pair (.int .i64) (.pair (.int .i64) (.pair .str .unit)))⟩] ((Tryz.f58.body).getD .skip) := funext fun x => by kernel_rfl
  rw [e]
  exact h
noncomputable def E_s_l30Ship (N : Nat) : Cz := { tab := tabP, n := 55, V := Vp, ann := look [(46, (.pair (.int .i64) (.pair (.int .i64) (.pair .str .unit)))), (48, (.pair (.int .i64) (.pair .str (.pair (.int .i64) (.pair (.int .i64) (.pair (.sl .own .str) (.pair (.sl .own (.pair (.int .i64) (.pair (.int .i64) (.pair .str .unit)))) .unit)))))))], fn := look [], fx := look [(59, (⟨[.no, .no, .no], [(.sl .lend (.pair (.int .i64) (.pair .str (.pair (.int .i64) (.pair (.int .i64) (.pair (.sl .lend .str) (.pair (.sl .lend (.pair (.int .i64) (.pair (.int .i64) (.pair .str .unit)))) .unit))))))), (.pair (.int .i64) (.pair (.int .i64) (.pair .str .unit))), (.sl .own (.pair (.int .i64) (.pair .str (.pair (.int .i64) (.pair (.int .i64) (.pair (.sl .own .str) (.pair (.sl .own (.pair (.int .i64) (.pair (.int .i64) (.pair .str .unit)))) .unit)))))))], [.val, .val], [(.sl .own (.pair (.int .i64) (.pair .str (.pair (.int .i64) (.pair (.int .i64) (.pair (.sl .own .str) (.pair (.sl .own (.pair (.int .i64) (.pair (.int .i64) (.pair .str .unit)))) .unit))))))), (.pair (.int .i64) (.pair (.int .i64) (.pair .str .unit)))], s_l30Ship N⟩ : Fx))] }
def A_s_l30Ship : An := { join := look [], loop := look [], ret := [⟨6, .own false, (.sl .own (.pair (.int .i64) (.pair .str (.pair (.int .i64) (.pair (.int .i64) (.pair (.sl .own .str) (.pair (.sl .own (.pair (.int .i64) (.pair (.int .i64) (.pair .str .unit)))) .unit)))))))⟩, ⟨7, .box false, (.pair (.int .i64) (.pair (.int .i64) (.pair .str .unit)))⟩] }
theorem c_s_l30Ship (N : Nat) : CtrX Tryz.prog Vp 59 ⟨[.no, .no, .no], [(.sl .lend (.pair (.int .i64) (.pair .str (.pair (.int .i64) (.pair (.int .i64) (.pair (.sl .lend .str) (.pair (.sl .lend (.pair (.int .i64) (.pair (.int .i64) (.pair .str .unit)))) .unit))))))), (.pair (.int .i64) (.pair (.int .i64) (.pair .str .unit))), (.sl .own (.pair (.int .i64) (.pair .str (.pair (.int .i64) (.pair (.int .i64) (.pair (.sl .own .str) (.pair (.sl .own (.pair (.int .i64) (.pair (.int .i64) (.pair .str .unit)))) .unit)))))))], [.val, .val], [(.sl .own (.pair (.int .i64) (.pair .str (.pair (.int .i64) (.pair (.int .i64) (.pair (.sl .own .str) (.pair (.sl .own (.pair (.int .i64) (.pair (.int .i64) (.pair .str .unit)))) .unit))))))), (.pair (.int .i64) (.pair (.int .i64) (.pair .str .unit)))], s_l30Ship N⟩ := by
  induction N with
  | zero => exact ctrX_none Tryz.func59 rfl (by kernel_rfl)
  | succ N ih =>
  have hE : EnvOK Tryz.prog (E_s_l30Ship N) := ⟨tabP_ok, (fun _ _ h => by cases h), look_all (Q := fun t s => CtrX Tryz.prog Vp t s) _ (by
    intro p hp
    simp only [List.mem_cons, List.not_mem_nil, or_false] at hp
    rcases hp with rfl
    · exact ih)⟩
  have h := fn_soundX hE (by kernel_rfl) (N := N) (A := A_s_l30Ship) (pl := [⟨0, .val, (.sl .lend (.pair (.int .i64) (.pair .str (.pair (.int .i64) (.pair (.int .i64) (.pair (.sl .lend .str) (.pair (.sl .lend (.pair (.int .i64) (.pair (.int .i64) (.pair .str .unit)))) .unit)))))))⟩, ⟨1, .val, (.pair (.int .i64) (.pair (.int .i64) (.pair .str .unit)))⟩, ⟨2, .own false, (.sl .own (.pair (.int .i64) (.pair .str (.pair (.int .i64) (.pair (.int .i64) (.pair (.sl .own .str) (.pair (.sl .own (.pair (.int .i64) (.pair (.int .i64) (.pair .str .unit)))) .unit)))))))⟩]) (io := [.no, .no, .no]) (ks := [.val, .val]) (fid := 59) (fn := Tryz.f59) (c := ((Tryz.f59.body).getD .skip)) ⟨Tryz.func59, by kernel_rfl, by kernel_rfl, by kernel_rfl, by kernel_rfl, by kernel_rfl, Nat.le_of_ble_eq_true (by kernel_rfl), by kernel_rfl⟩
  have e : s_l30Ship (N + 1) = evalF (E_s_l30Ship N) A_s_l30Ship N [⟨0, .val, (.sl .lend (.pair (.int .i64) (.pair .str (.pair (.int .i64) (.pair (.int .i64) (.pair (.sl .lend .str) (.pair (.sl .lend (.pair (.int .i64) (.pair (.int .i64) (.pair .str .unit)))) .unit)))))))⟩, ⟨1, .val, (.pair (.int .i64) (.pair (.int .i64) (.pair .str .unit)))⟩, ⟨2, .own false, (.sl .own (.pair (.int .i64) (.pair .str (.pair (.int .i64) (.pair (.int .i64) (.pair (.sl .own .str) (.pair (.sl .own (.pair (.int .i64) (.pair (.int .i64) (.pair .str .unit)))) .unit)))))))⟩] ((Tryz.f59.body).getD .skip) := funext fun x => by kernel_rfl
  rw [e]
  exact h
noncomputable def E_s_Ship (N : Nat) : Cz := { tab := tabP, n := 54, V := Vp, ann := look [], fn := look [(12, (⟨[(.sl .lend (.pair (.int .i64) (.pair .str (.pair (.int .i64) (.pair (.int .i64) (.pair (.sl .lend .str) (.pair (.sl .lend (.pair (.int .i64) (.pair (.int .i64) (.pair .str .unit)))) .unit)))))))], [.bool], s_HeapOk N⟩ : Fn)), (16, (⟨[(.sl .lend (.pair (.int .i64) (.pair .str (.pair (.int .i64) (.pair (.int .i64) (.pair (.sl .lend .str) (.pair (.sl .lend (.pair (.int .i64) (.pair (.int .i64) (.pair .str .unit)))) .unit))))))), (.pair (.int .i64) (.pair (.int .i64) (.pair .str .unit)))], [(.int .i64)], s_Weight N⟩ : Fn)), (56, (⟨[(.sl .lend (.pair (.int .i64) (.pair .str (.pair (.int .i64) (.pair (.int .i64) (.pair (.sl .lend .str) (.pair (.sl .lend (.pair (.int .i64) (.pair (.int .i64) (.pair .str .unit)))) .unit)))))))], [(.sl .own (.pair (.int .i64) (.pair .str (.pair (.int .i64) (.pair (.int .i64) (.pair (.sl .own .str) (.pair (.sl .own (.pair (.int .i64) (.pair (.int .i64) (.pair .str .unit)))) .unit)))))))], s_l8CopyCells N⟩ : Fn)), (57, (⟨[(.sl .lend (.pair (.int .i64) (.pair .str (.pair (.int .i64) (.pair (.int .i64) (.pair (.sl .lend .str) (.pair (.sl .lend (.pair (.int .i64) (.pair (.int .i64) (.pair .str .unit)))) .unit))))))), (.pair (.int .i64) (.pair (.int .i64) (.pair .str .unit)))], [.bool], s_ValueOk N⟩ : Fn)), (58, (⟨[(.sl .lend (.pair (.int .i64) (.pair .str (.pair (.int .i64) (.pair (.int .i64) (.pair (.sl .lend .str) (.pair (.sl .lend (.pair (.int .i64) (.pair (.int .i64) (.pair .str .unit)))) .unit))))))), (.pair (.int .i64) (.pair (.int .i64) (.pair .str .unit)))], [.bool], s_l30Plain N⟩ : Fn))], fx := look [(59, (⟨[.no, .no, .no], [(.sl .lend (.pair (.int .i64) (.pair .str (.pair (.int .i64) (.pair (.int .i64) (.pair (.sl .lend .str) (.pair (.sl .lend (.pair (.int .i64) (.pair (.int .i64) (.pair .str .unit)))) .unit))))))), (.pair (.int .i64) (.pair (.int .i64) (.pair .str .unit))), (.sl .own (.pair (.int .i64) (.pair .str (.pair (.int .i64) (.pair (.int .i64) (.pair (.sl .own .str) (.pair (.sl .own (.pair (.int .i64) (.pair (.int .i64) (.pair .str .unit)))) .unit)))))))], [.val, .val], [(.sl .own (.pair (.int .i64) (.pair .str (.pair (.int .i64) (.pair (.int .i64) (.pair (.sl .own .str) (.pair (.sl .own (.pair (.int .i64) (.pair (.int .i64) (.pair .str .unit)))) .unit))))))), (.pair (.int .i64) (.pair (.int .i64) (.pair .str .unit)))], s_l30Ship N⟩ : Fx))] }
def A_s_Ship : An := { join := look [], loop := look [], ret := [⟨6, .own false, (.sl .own (.pair (.int .i64) (.pair .str (.pair (.int .i64) (.pair (.int .i64) (.pair (.sl .own .str) (.pair (.sl .own (.pair (.int .i64) (.pair (.int .i64) (.pair .str .unit)))) .unit)))))))⟩, ⟨7, .box false, (.pair (.int .i64) (.pair (.int .i64) (.pair .str .unit)))⟩, ⟨8, .val, .bool⟩] }
theorem c_s_Ship (N : Nat) : CtrX Tryz.prog Vp 11 ⟨[.no, .no, .no], [(.sl .lend (.pair (.int .i64) (.pair .str (.pair (.int .i64) (.pair (.int .i64) (.pair (.sl .lend .str) (.pair (.sl .lend (.pair (.int .i64) (.pair (.int .i64) (.pair .str .unit)))) .unit))))))), (.pair (.int .i64) (.pair (.int .i64) (.pair .str .unit))), (.sl .lend (.pair (.int .i64) (.pair .str (.pair (.int .i64) (.pair (.int .i64) (.pair (.sl .lend .str) (.pair (.sl .lend (.pair (.int .i64) (.pair (.int .i64) (.pair .str .unit)))) .unit)))))))], [.val, .val, .val], [(.sl .own (.pair (.int .i64) (.pair .str (.pair (.int .i64) (.pair (.int .i64) (.pair (.sl .own .str) (.pair (.sl .own (.pair (.int .i64) (.pair (.int .i64) (.pair .str .unit)))) .unit))))))), (.pair (.int .i64) (.pair (.int .i64) (.pair .str .unit))), .bool], s_Ship N⟩ := by
  have hE : EnvOK Tryz.prog (E_s_Ship N) := ⟨tabP_ok, look_all (Q := fun t s => Ctr Tryz.prog Vp t s) _ (by
    intro p hp
    simp only [List.mem_cons, List.not_mem_nil, or_false] at hp
    rcases hp with rfl | rfl | rfl | rfl | rfl
    · exact c_s_HeapOk N
    · exact c_s_Weight N
    · exact c_s_l8CopyCells N
    · exact c_s_ValueOk N
    · exact c_s_l30Plain N), look_all (Q := fun t s => CtrX Tryz.prog Vp t s) _ (by
    intro p hp
    simp only [List.mem_cons, List.not_mem_nil, or_false] at hp
    rcases hp with rfl
    · exact c_s_l30Ship N)⟩
  have h := fn_soundX hE (by kernel_rfl) (N := N) (A := A_s_Ship) (pl := [⟨0, .val, (.sl .lend (.pair (.int .i64) (.pair .str (.pair (.int .i64) (.pair (.int .i64) (.pair (.sl .lend .str) (.pair (.sl .lend (.pair (.int .i64) (.pair (.int .i64) (.pair .str .unit)))) .unit)))))))⟩, ⟨1, .val, (.pair (.int .i64) (.pair (.int .i64) (.pair .str .unit)))⟩, ⟨2, .val, (.sl .lend (.pair (.int .i64) (.pair .str (.pair (.int .i64) (.pair (.int .i64) (.pair (.sl .lend .str) (.pair (.sl .lend (.pair (.int .i64) (.pair (.int .i64) (.pair .str .unit)))) .unit)))))))⟩]) (io := [.no, .no, .no]) (ks := [.val, .val, .val]) (fid := 11) (fn := Tryz.f11) (c := ((Tryz.f11.body).getD .skip)) ⟨Tryz.func11, by kernel_rfl, by kernel_rfl, by kernel_rfl, by kernel_rfl, by kernel_rfl, Nat.le_of_ble_eq_true (by kernel_rfl), by kernel_rfl⟩
  have e : s_Ship N = evalF (E_s_Ship N) A_s_Ship N [⟨0, .val, (.sl .lend (.pair (.int .i64) (.pair .str (.pair (.int .i64) (.pair (.int .i64) (.pair (.sl .lend .str) (.pair (.sl .lend (.pair (.int .i64) (.pair (.int .i64) (.pair .str .unit)))) .unit)))))))⟩, ⟨1, .val, (.pair (.int .i64) (.pair (.int .i64) (.pair .str .unit)))⟩, ⟨2, .val, (.sl .lend (.pair (.int .i64) (.pair .str (.pair (.int .i64) (.pair (.int .i64) (.pair (.sl .lend .str) (.pair (.sl .lend (.pair (.int .i64) (.pair (.int .i64) (.pair .str .unit)))) .unit)))))))⟩] ((Tryz.f11.body).getD .skip) := funext fun x => by kernel_rfl
  rw [e]
  exact h
noncomputable def E_l_sameVals (N : Nat) : Cz := { tab := tabP, n := 26, V := Vp, ann := look [], fn := look [], fx := look [] }
def A_l_sameVals : An := { join := look [], loop := look [(0, ⟨[⟨5, .val, (.int .i64)⟩], [], [4, 5, 11, 12, 13, 14, 15, 16, 17, 18, 19, 20, 21, 22, 23, 24, 25]⟩)], ret := [⟨4, .val, .bool⟩] }
theorem c_l_sameVals (N : Nat) : Ctr Tryz.prog Vp 13 ⟨[(.sl .lend (.pair (.int .i64) (.pair (.int .i64) (.pair .str .unit)))), (.sl .lend (.pair (.int .i64) (.pair (.int .i64) (.pair .str .unit))))], [.bool], l_sameVals N⟩ := by
  have hE : EnvOK Tryz.prog (E_l_sameVals N) := ⟨tabP_ok, (fun _ _ h => by cases h), (fun _ _ h => by cases h)⟩
  have h := fn_sound hE (by kernel_rfl) (N := N) (A := A_l_sameVals) (pl := [⟨0, .val, (.sl .lend (.pair (.int .i64) (.pair (.int .i64) (.pair .str .unit))))⟩, ⟨1, .val, (.sl .lend (.pair (.int .i64) (.pair (.int .i64) (.pair .str .unit))))⟩]) (fid := 13) (fn := Tryz.f13) (c := ((Tryz.f13.body).getD .skip)) ⟨Tryz.func13, by kernel_rfl, by kernel_rfl, by kernel_rfl, Nat.le_of_ble_eq_true (by kernel_rfl), by kernel_rfl, by kernel_rfl, Nat.le_of_ble_eq_true (by kernel_rfl), by kernel_rfl⟩
  have e : l_sameVals N = evalF (E_l_sameVals N) A_l_sameVals N [⟨0, .val, (.sl .lend (.pair (.int .i64) (.pair (.int .i64) (.pair .str .unit))))⟩, ⟨1, .val, (.sl .lend (.pair (.int .i64) (.pair (.int .i64) (.pair .str .unit))))⟩] ((Tryz.f13.body).getD .skip) := funext fun x => by kernel_rfl
  rw [e]
  exact h
noncomputable def E_s_l30Deep (N : Nat) : Cz := { tab := tabP, n := 161, V := Vp, ann := look [(21, .bool)], fn := look [(117, (⟨[(.pair (.int .i64) (.pair (.int .i64) (.pair .str .unit)))], [.bool], s_l6Points N⟩ : Fn))], fx := look [] }
def A_s_l30Deep : An := { join := look [(109, ([⟨5, .box false, (.pair (.int .i64) (.pair (.int .i64) (.pair .str .unit)))⟩, ⟨7, .box false, (.pair (.int .i64) (.pair (.int .i64) (.pair .str .unit)))⟩, ⟨9, .own false, (.sl .own .bool)⟩, ⟨12, .val, .bool⟩], [12, 68, 69, 70, 71, 72, 73, 74, 75, 76, 77, 78, 79, 80, 81, 82, 83, 84, 85])), (86, ([⟨5, .box false, (.pair (.int .i64) (.pair (.int .i64) (.pair .str .unit)))⟩, ⟨7, .box false, (.pair (.int .i64) (.pair (.int .i64) (.pair .str .unit)))⟩, ⟨9, .own false, (.sl .own .bool)⟩, ⟨12, .val, .bool⟩], [12, 68, 69, 70, 71, 72, 73, 74, 75, 76, 77, 78, 79, 80, 81, 82, 83, 84, 85, 95, 96, 97, 98, 99, 100, 101, 102, 103, 104, 105, 106, 107, 108, 109, 110, 111, 112, 113, 114, 115, 116, 117]))], loop := look [(4, ⟨[⟨5, .box false, (.pair (.int .i64) (.pair (.int .i64) (.pair .str .unit)))⟩, ⟨7, .box false, (.pair (.int .i64) (.pair (.int .i64) (.pair .str .unit)))⟩, ⟨9, .own false, (.sl .own .bool)⟩, ⟨12, .val, .bool⟩, ⟨13, .val, (.int .i64)⟩], [⟨5, .box false, (.pair (.int .i64) (.pair (.int .i64) (.pair .str .unit)))⟩, ⟨7, .box false, (.pair (.int .i64) (.pair (.int .i64) (.pair .str .unit)))⟩, ⟨9, .own false, (.sl .own .bool)⟩, ⟨12, .val, .bool⟩], [12, 13, 14, 15, 48, 49, 50, 51, 52, 53, 54, 55, 56, 57, 58, 59, 60, 61, 62, 63, 64, 65, 66, 67, 68, 69, 70, 71, 72, 73, 74, 75, 76, 77, 78, 79, 80, 81, 82, 83, 84, 85, 86, 87, 88, 89, 90, 91, 92, 93, 94, 95, 96, 97, 98, 99, 100, 101, 102, 103, 104, 105, 106, 107, 108, 109, 110, 111, 112, 113, 114, 115, 116, 117]⟩), (2, ⟨[⟨5, .box false, (.pair (.int .i64) (.pair (.int .i64) (.pair .str .unit)))⟩, ⟨7, .box false, (.pair (.int .i64) (.pair (.int .i64) (.pair .str .unit)))⟩, ⟨9, .own false, (.sl .own .bool)⟩, ⟨11, .val, (.int .i64)⟩], [⟨5, .box false, (.pair (.int .i64) (.pair (.int .i64) (.pair .str .unit)))⟩, ⟨7, .box false, (.pair (.int .i64) (.pair (.int .i64) (.pair .str .unit)))⟩, ⟨9, .own false, (.sl .own .bool)⟩], [11, 12, 13, 14, 15, 28, 29, 30, 31, 32, 33, 34, 35, 36, 37, 38, 39, 40, 41, 42, 43, 44, 45, 46, 47, 48, 49, 50, 51, 52, 53, 54, 55, 56, 57, 58, 59, 60, 61, 62, 63, 64, 65, 66, 67, 68, 69, 70, 71, 72, 73, 74, 75, 76, 77, 78, 79, 80, 81, 82, 83, 84, 85, 86, 87, 88, 89, 90, 91, 92, 93, 94, 95, 96, 97, 98, 99, 100, 101, 102, 103, 104, 105, 106, 107, 108, 109, 110, 111, 112, 113, 114, 115, 116, 117, 118, 119, 120, 121, 122, 123, 124, 125, 126]⟩), (0, ⟨[⟨5, .box false, (.pair (.int .i64) (.pair (.int .i64) (.pair .str .unit)))⟩, ⟨7, .box false, (.pair (.int .i64) (.pair (.int .i64) (.pair .str .unit)))⟩, ⟨9, .own false, (.sl .own .bool)⟩, ⟨10, .val, (.int .i64)⟩], [⟨5, .box false, (.pair (.int .i64) (.pair (.int .i64) (.pair .str .unit)))⟩, ⟨7, .box false, (.pair (.int .i64) (.pair (.int .i64) (.pair .str .unit)))⟩, ⟨9, .own false, (.sl .own .bool)⟩], [10, 11, 12, 13, 14, 15, 22, 23, 24, 25, 26, 27, 28, 29, 30, 31, 32, 33, 34, 35, 36, 37, 38, 39, 40, 41, 42, 43, 44, 45, 46, 47, 48, 49, 50, 51, 52, 53, 54, 55, 56, 57, 58, 59, 60, 61, 62, 63, 64, 65, 66, 67, 68, 69, 70, 71, 72, 73, 74, 75, 76, 77, 78, 79, 80, 81, 82, 83, 84, 85, 86, 87, 88, 89, 90, 91, 92, 93, 94, 95, 96, 97, 98, 99, 100, 101, 102, 103, 104, 105, 106, 107, 108, 109, 110, 111, 112, 113, 114, 115, 116, 117, 118, 119, 120, 121, 122, 123, 124, 125, 126]⟩)], ret := [⟨8, .val, .bool⟩] }
theorem c_s_l30Deep (N : Nat) : Ctr Tryz.prog Vp 62 ⟨[(.sl .lend (.pair (.int .i64) (.pair .str (.pair (.int .i64) (.pair (.int .i64) (.pair (.sl .lend .str) (.pair (.sl .lend (.pair (.int .i64) (.pair (.int .i64) (.pair .str .unit)))) .unit))))))), (.pair (.int .i64) (.pair (.int .i64) (.pair .str .unit))), (.sl .lend (.pair (.int .i64) (.pair .str (.pair (.int .i64) (.pair (.int .i64) (.pair (.sl .lend .str) (.pair (.sl .lend (.pair (.int .i64) (.pair (.int .i64) (.pair .str .unit)))) .unit))))))), (.pair (.int .i64) (.pair (.int .i64) (.pair .str .unit)))], [.bool], s_l30Deep N⟩ := by
  have hE : EnvOK Tryz.prog (E_s_l30Deep N) := ⟨tabP_ok, look_all (Q := fun t s => Ctr Tryz.prog Vp t s) _ (by
    intro p hp
    simp only [List.mem_cons, List.not_mem_nil, or_false] at hp
    rcases hp with rfl
    · exact c_s_l6Points N), (fun _ _ h => by cases h)⟩
  have h := fn_sound hE (by kernel_rfl) (N := N) (A := A_s_l30Deep) (pl := [⟨0, .val, (.sl .lend (.pair (.int .i64) (.pair .str (.pair (.int .i64) (.pair (.int .i64) (.pair (.sl .lend .str) (.pair (.sl .lend (.pair (.int .i64) (.pair (.int .i64) (.pair .str .unit)))) .unit)))))))⟩, ⟨1, .val, (.pair (.int .i64) (.pair (.int .i64) (.pair .str .unit)))⟩, ⟨2, .val, (.sl .lend (.pair (.int .i64) (.pair .str (.pair (.int .i64) (.pair (.int .i64) (.pair (.sl .lend .str) (.pair (.sl .lend (.pair (.int .i64) (.pair (.int .i64) (.pair .str .unit)))) .unit)))))))⟩, ⟨3, .val, (.pair (.int .i64) (.pair (.int .i64) (.pair .str .unit)))⟩]) (fid := 62) (fn := Tryz.f62) (c := ((Tryz.f62.body).getD .skip)) ⟨Tryz.func62, by kernel_rfl, by kernel_rfl, by kernel_rfl, Nat.le_of_ble_eq_true (by kernel_rfl), by kernel_rfl, by kernel_rfl, Nat.le_of_ble_eq_true (by kernel_rfl), by kernel_rfl⟩
  have e : s_l30Deep N = evalF (E_s_l30Deep N) A_s_l30Deep N [⟨0, .val, (.sl .lend (.pair (.int .i64) (.pair .str (.pair (.int .i64) (.pair (.int .i64) (.pair (.sl .lend .str) (.pair (.sl .lend (.pair (.int .i64) (.pair (.int .i64) (.pair .str .unit)))) .unit)))))))⟩, ⟨1, .val, (.pair (.int .i64) (.pair (.int .i64) (.pair .str .unit)))⟩, ⟨2, .val, (.sl .lend (.pair (.int .i64) (.pair .str (.pair (.int .i64) (.pair (.int .i64) (.pair (.sl .lend .str) (.pair (.sl .lend (.pair (.int .i64) (.pair (.int .i64) (.pair .str .unit)))) .unit)))))))⟩, ⟨3, .val, (.pair (.int .i64) (.pair (.int .i64) (.pair .str .unit)))⟩] ((Tryz.f62.body).getD .skip) := funext fun x => by kernel_rfl
  rw [e]
  exact h
noncomputable def E_s_l30Same (N : Nat) : Cz := { tab := tabP, n := 76, V := Vp, ann := look [], fn := look [(63, (⟨[(.sl .lend (.pair (.int .i64) (.pair .str (.pair (.int .i64) (.pair (.int .i64) (.pair (.sl .lend .str) (.pair (.sl .lend (.pair (.int .i64) (.pair (.int .i64) (.pair .str .unit)))) .unit))))))), (.pair (.int .i64) (.pair (.int .i64) (.pair .str .unit))), (.sl .lend (.pair (.int .i64) (.pair .str (.pair (.int .i64) (.pair (.int .i64) (.pair (.sl .lend .str) (.pair (.sl .lend (.pair (.int .i64) (.pair (.int .i64) (.pair .str .unit)))) .unit))))))), (.pair (.int .i64) (.pair (.int .i64) (.pair .str .unit)))], [.bool], s_l30Same N⟩ : Fn)), (117, (⟨[(.pair (.int .i64) (.pair (.int .i64) (.pair .str .unit)))], [.bool], s_l6Points N⟩ : Fn))], fx := look [] }
def A_s_l30Same : An := { join := look [], loop := look [(0, ⟨[⟨5, .box false, (.pair (.int .i64) (.pair (.int .i64) (.pair .str .unit)))⟩, ⟨7, .box false, (.pair (.int .i64) (.pair (.int .i64) (.pair .str .unit)))⟩], [⟨5, .box false, (.pair (.int .i64) (.pair (.int .i64) (.pair .str .unit)))⟩, ⟨7, .box false, (.pair (.int .i64) (.pair (.int .i64) (.pair .str .unit)))⟩], [8, 9, 10, 11, 12, 13, 14, 15, 16, 17, 18, 19, 20, 21, 22, 23, 24, 25, 26, 27, 28, 29, 30, 31, 32, 33, 34, 35, 36, 37, 38, 39, 40, 41, 42, 43, 44, 45, 46, 47, 48, 49, 50, 51, 52]⟩)], ret := [⟨8, .val, .bool⟩] }
theorem c_s_l30Same (N : Nat) : Ctr Tryz.prog Vp 63 ⟨[(.sl .lend (.pair (.int .i64) (.pair .str (.pair (.int .i64) (.pair (.int .i64) (.pair (.sl .lend .str) (.pair (.sl .lend (.pair (.int .i64) (.pair (.int .i64) (.pair .str .unit)))) .unit))))))), (.pair (.int .i64) (.pair (.int .i64) (.pair .str .unit))), (.sl .lend (.pair (.int .i64) (.pair .str (.pair (.int .i64) (.pair (.int .i64) (.pair (.sl .lend .str) (.pair (.sl .lend (.pair (.int .i64) (.pair (.int .i64) (.pair .str .unit)))) .unit))))))), (.pair (.int .i64) (.pair (.int .i64) (.pair .str .unit)))], [.bool], s_l30Same N⟩ := by
  induction N with
  | zero => exact ctr_none Tryz.func63 rfl (by kernel_rfl)
  | succ N ih =>
  have hE : EnvOK Tryz.prog (E_s_l30Same N) := ⟨tabP_ok, look_all (Q := fun t s => Ctr Tryz.prog Vp t s) _ (by
    intro p hp
    simp only [List.mem_cons, List.not_mem_nil, or_false] at hp
    rcases hp with rfl | rfl
    · exact ih
    · exact c_s_l6Points N), (fun _ _ h => by cases h)⟩
  have h := fn_sound hE (by kernel_rfl) (N := N) (A := A_s_l30Same) (pl := [⟨0, .val, (.sl .lend (.pair (.int .i64) (.pair .str (.pair (.int .i64) (.pair (.int .i64) (.pair (.sl .lend .str) (.pair (.sl .lend (.pair (.int .i64) (.pair (.int .i64) (.pair .str .unit)))) .unit)))))))⟩, ⟨1, .val, (.pair (.int .i64) (.pair (.int .i64) (.pair .str .unit)))⟩, ⟨2, .val, (.sl .lend (.pair (.int .i64) (.pair .str (.pair (.int .i64) (.pair (.int .i64) (.pair (.sl .lend .str) (.pair (.sl .lend (.pair (.int .i64) (.pair (.int .i64) (.pair .str .unit)))) .unit)))))))⟩, ⟨3, .val, (.pair (.int .i64) (.pair (.int .i64) (.pair .str .unit)))⟩]) (fid := 63) (fn := Tryz.f63) (c := ((Tryz.f63.body).getD .skip)) ⟨Tryz.func63, by kernel_rfl, by kernel_rfl, by kernel_rfl, Nat.le_of_ble_eq_true (by kernel_rfl), by kernel_rfl, by kernel_rfl, Nat.le_of_ble_eq_true (by kernel_rfl), by kernel_rfl⟩
  have e : s_l30Same (N + 1) = evalF (E_s_l30Same N) A_s_l30Same N [⟨0, .val, (.sl .lend (.pair (.int .i64) (.pair .str (.pair (.int .i64) (.pair (.int .i64) (.pair (.sl .lend .str) (.pair (.sl .lend (.pair (.int .i64) (.pair (.int .i64) (.pair .str .unit)))) .unit)))))))⟩, ⟨1, .val, (.pair (.int .i64) (.pair (.int .i64) (.pair .str .unit)))⟩, ⟨2, .val, (.sl .lend (.pair (.int .i64) (.pair .str (.pair (.int .i64) (.pair (.int .i64) (.pair (.sl .lend .str) (.pair (.sl .lend (.pair (.int .i64) (.pair (.int .i64) (.pair .str .unit)))) .unit)))))))⟩, ⟨3, .val, (.pair (.int .i64) (.pair (.int .i64) (.pair .str .unit)))⟩] ((Tryz.f63.body).getD .skip) := funext fun x => by kernel_rfl
  rw [e]
  exact h
noncomputable def E_s_SameVal (N : Nat) : Cz := { tab := tabP, n := 49, V := Vp, ann := look [], fn := look [(12, (⟨[(.sl .lend (.pair (.int .i64) (.pair .str (.pair (.int .i64) (.pair (.int .i64) (.pair (.sl .lend .str) (.pair (.sl .lend (.pair (.int .i64) (.pair (.int .i64) (.pair .str .unit)))) .unit)))))))], [.bool], s_HeapOk N⟩ : Fn)), (16, (⟨[(.sl .lend (.pair (.int .i64) (.pair .str (.pair (.int .i64) (.pair (.int .i64) (.pair (.sl .lend .str) (.pair (.sl .lend (.pair (.int .i64) (.pair (.int .i64) (.pair .str .unit)))) .unit))))))), (.pair (.int .i64) (.pair (.int .i64) (.pair .str .unit)))], [(.int .i64)], s_Weight N⟩ : Fn)), (57, (⟨[(.sl .lend (.pair (.int .i64) (.pair .str (.pair (.int .i64) (.pair (.int .i64) (.pair (.sl .lend .str) (.pair (.sl .lend (.pair (.int .i64) (.pair (.int .i64) (.pair .str .unit)))) .unit))))))), (.pair (.int .i64) (.pair (.int .i64) (.pair .str .unit)))], [.bool], s_ValueOk N⟩ : Fn)), (62, (⟨[(.sl .lend (.pair (.int .i64) (.pair .str (.pair (.int .i64) (.pair (.int .i64) (.pair (.sl .lend .str) (.pair (.sl .lend (.pair (.int .i64) (.pair (.int .i64) (.pair .str .unit)))) .unit))))))), (.pair (.int .i64) (.pair (.int .i64) (.pair .str .unit))), (.sl .lend (.pair (.int .i64) (.pair .str (.pair (.int .i64) (.pair (.int .i64) (.pair (.sl .lend .str) (.pair (.sl .lend (.pair (.int .i64) (.pair (.int .i64) (.pair .str .unit)))) .unit))))))), (.pair (.int .i64) (.pair (.int .i64) (.pair .str .unit)))], [.bool], s_l30Deep N⟩ : Fn)), (63, (⟨[(.sl .lend (.pair (.int .i64) (.pair .str (.pair (.int .i64) (.pair (.int .i64) (.pair (.sl .lend .str) (.pair (.sl .lend (.pair (.int .i64) (.pair (.int .i64) (.pair .str .unit)))) .unit))))))), (.pair (.int .i64) (.pair (.int .i64) (.pair .str .unit))), (.sl .lend (.pair (.int .i64) (.pair .str (.pair (.int .i64) (.pair (.int .i64) (.pair (.sl .lend .str) (.pair (.sl .lend (.pair (.int .i64) (.pair (.int .i64) (.pair .str .unit)))) .unit))))))), (.pair (.int .i64) (.pair (.int .i64) (.pair .str .unit)))], [.bool], s_l30Same N⟩ : Fn))], fx := look [] }
def A_s_SameVal : An := { join := look [], loop := look [], ret := [⟨8, .val, .bool⟩] }
theorem c_s_SameVal (N : Nat) : Ctr Tryz.prog Vp 15 ⟨[(.sl .lend (.pair (.int .i64) (.pair .str (.pair (.int .i64) (.pair (.int .i64) (.pair (.sl .lend .str) (.pair (.sl .lend (.pair (.int .i64) (.pair (.int .i64) (.pair .str .unit)))) .unit))))))), (.pair (.int .i64) (.pair (.int .i64) (.pair .str .unit))), (.sl .lend (.pair (.int .i64) (.pair .str (.pair (.int .i64) (.pair (.int .i64) (.pair (.sl .lend .str) (.pair (.sl .lend (.pair (.int .i64) (.pair (.int .i64) (.pair .str .unit)))) .unit))))))), (.pair (.int .i64) (.pair (.int .i64) (.pair .str .unit)))], [.bool], s_SameVal N⟩ := by
  have hE : EnvOK Tryz.prog (E_s_SameVal N) := ⟨tabP_ok, look_all (Q := fun t s => Ctr Tryz.prog Vp t s) _ (by
    intro p hp
    simp only [List.mem_cons, List.not_mem_nil, or_false] at hp
    rcases hp with rfl | rfl | rfl | rfl | rfl
    · exact c_s_HeapOk N
    · exact c_s_Weight N
    · exact c_s_ValueOk N
    · exact c_s_l30Deep N
    · exact c_s_l30Same N), (fun _ _ h => by cases h)⟩
  have h := fn_sound hE (by kernel_rfl) (N := N) (A := A_s_SameVal) (pl := [⟨0, .val, (.sl .lend (.pair (.int .i64) (.pair .str (.pair (.int .i64) (.pair (.int .i64) (.pair (.sl .lend .str) (.pair (.sl .lend (.pair (.int .i64) (.pair (.int .i64) (.pair .str .unit)))) .unit)))))))⟩, ⟨1, .val, (.pair (.int .i64) (.pair (.int .i64) (.pair .str .unit)))⟩, ⟨2, .val, (.sl .lend (.pair (.int .i64) (.pair .str (.pair (.int .i64) (.pair (.int .i64) (.pair (.sl .lend .str) (.pair (.sl .lend (.pair (.int .i64) (.pair (.int .i64) (.pair .str .unit)))) .unit)))))))⟩, ⟨3, .val, (.pair (.int .i64) (.pair (.int .i64) (.pair .str .unit)))⟩]) (fid := 15) (fn := Tryz.f15) (c := ((Tryz.f15.body).getD .skip)) ⟨Tryz.func15, by kernel_rfl, by kernel_rfl, by kernel_rfl, Nat.le_of_ble_eq_true (by kernel_rfl), by kernel_rfl, by kernel_rfl, Nat.le_of_ble_eq_true (by kernel_rfl), by kernel_rfl⟩
  have e : s_SameVal N = evalF (E_s_SameVal N) A_s_SameVal N [⟨0, .val, (.sl .lend (.pair (.int .i64) (.pair .str (.pair (.int .i64) (.pair (.int .i64) (.pair (.sl .lend .str) (.pair (.sl .lend (.pair (.int .i64) (.pair (.int .i64) (.pair .str .unit)))) .unit)))))))⟩, ⟨1, .val, (.pair (.int .i64) (.pair (.int .i64) (.pair .str .unit)))⟩, ⟨2, .val, (.sl .lend (.pair (.int .i64) (.pair .str (.pair (.int .i64) (.pair (.int .i64) (.pair (.sl .lend .str) (.pair (.sl .lend (.pair (.int .i64) (.pair (.int .i64) (.pair .str .unit)))) .unit)))))))⟩, ⟨3, .val, (.pair (.int .i64) (.pair (.int .i64) (.pair .str .unit)))⟩] ((Tryz.f15.body).getD .skip) := funext fun x => by kernel_rfl
  rw [e]
  exact h
end Go.Rf
