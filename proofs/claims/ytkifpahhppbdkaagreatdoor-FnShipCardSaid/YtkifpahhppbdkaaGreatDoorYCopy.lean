/-
  The program's copy of a heap: alike, and all its own.
-/
import Derived.Test.YtkifpahhppbdkaaGreatDoorYCon
import Derived.Test.YtkifpahhppbdkaaGreatDoorYRfH
import Derived.Deep.WholeRow
import Derived.Test.YtkifpahhppbdkaaGreatDoorYNat
set_option linter.unusedSimpArgs false
set_option linter.unusedVariables false
set_option autoImplicit false
namespace Go.Rf
open Go.Proofs
set_option maxRecDepth 100000
noncomputable def k0code : Code := (Tryz.f110.body).getD .skip
noncomputable def k0r0 : Array Oper := opsOf (cl k0code)
noncomputable def k0r1 : Array Oper := opsOf (cl (cl (cr k0code)))
noncomputable def k0r2 : Array Oper := opsOf (cl (ct (cr (cl (cr k0code)))))
noncomputable def k0r3 : Array Oper := opsOf (cl (cr (cr k0code)))
theorem k0code_eq : k0code = (.seq (.region 0 k0r0 false) (.seq (.seq (.region 1 k0r1 false) (.cond (Operand.tmp 4) (.seq (.region 2 k0r2 false) .ret) .skip)) (.seq (.region 3 k0r3 false) .ret))) := by kernel_rfl
theorem k0body : Tryz.f110.body = some k0code := by kernel_rfl
theorem k0r1_l : k0r1.toList = [(Oper.mk (some 3) (Op.move (Operand.tmp 0)) 24 "slices.go:357" #[] none),
  (Oper.mk (some 4) (Op.binOp BinOp.eql 24 (Operand.tmp 3) (Operand.const (Value.slice none 0 0)) 24) 4 "slices.go:357" #[(Edge.mk 0 Ground.data)] none)] := by kernel_rfl
noncomputable def k1code : Code := (Tryz.f111.body).getD .skip
noncomputable def k1r0 : Array Oper := opsOf (cl k1code)
noncomputable def k1r1 : Array Oper := opsOf (cl (cl (cr k1code)))
noncomputable def k1r2 : Array Oper := opsOf (cl (ct (cr (cl (cr k1code)))))
noncomputable def k1r3 : Array Oper := opsOf (cl (cr (cr k1code)))
theorem k1code_eq : k1code = (.seq (.region 0 k1r0 false) (.seq (.seq (.region 1 k1r1 false) (.cond (Operand.tmp 4) (.seq (.region 2 k1r2 false) .ret) .skip)) (.seq (.region 3 k1r3 false) .ret))) := by kernel_rfl
theorem k1body : Tryz.f111.body = some k1code := by kernel_rfl
theorem k1r1_l : k1r1.toList = [(Oper.mk (some 3) (Op.move (Operand.tmp 0)) 32 "slices.go:357" #[] none),
  (Oper.mk (some 4) (Op.binOp BinOp.eql 32 (Operand.tmp 3) (Operand.const (Value.slice none 0 0)) 32) 4 "slices.go:357" #[(Edge.mk 0 Ground.data)] none)] := by kernel_rfl
noncomputable def k2code : Code := (Tryz.f112.body).getD .skip
noncomputable def k2r0 : Array Oper := opsOf (cl k2code)
noncomputable def k2r1 : Array Oper := opsOf (cl (cl (cr k2code)))
noncomputable def k2r2 : Array Oper := opsOf (cl (ct (cr (cl (cr k2code)))))
noncomputable def k2r3 : Array Oper := opsOf (cl (cr (cr k2code)))
theorem k2code_eq : k2code = (.seq (.region 0 k2r0 false) (.seq (.seq (.region 1 k2r1 false) (.cond (Operand.tmp 4) (.seq (.region 2 k2r2 false) .ret) .skip)) (.seq (.region 3 k2r3 false) .ret))) := by kernel_rfl
theorem k2body : Tryz.f112.body = some k2code := by kernel_rfl
theorem k2r1_l : k2r1.toList = [(Oper.mk (some 3) (Op.move (Operand.tmp 0)) 33 "slices.go:357" #[] none),
  (Oper.mk (some 4) (Op.binOp BinOp.eql 33 (Operand.tmp 3) (Operand.const (Value.slice none 0 0)) 33) 4 "slices.go:357" #[(Edge.mk 0 Ground.data)] none)] := by kernel_rfl
noncomputable def kccode : Code := (Tryz.f54.body).getD .skip
noncomputable def kcr0 : Array Oper := opsOf (cl kccode)
noncomputable def kcr1 : Array Oper := opsOf (cl (cr kccode))
noncomputable def kcr2 : Array Oper := opsOf (cl (cl (cr (cr kccode))))
noncomputable def kcr3 : Array Oper := opsOf (cl (cb (cb (cr (cl (cr (cr kccode)))))))
noncomputable def kcr4 : Array Oper := opsOf (cl (cb (cl (cr (cr (cb (cb (cr (cl (cr (cr kccode)))))))))))
noncomputable def kcr5 : Array Oper := opsOf (cr (cb (cl (cr (cr (cb (cb (cr (cl (cr (cr kccode)))))))))))
noncomputable def kcr6 : Array Oper := opsOf (cr (cr (cr (cb (cb (cr (cl (cr (cr kccode)))))))))
noncomputable def kcr7 : Array Oper := opsOf (cl (cr (cr (cr kccode))))
theorem kccode_eq : kccode = (.seq (.region 0 kcr0 false) (.seq (.region 1 kcr1 false) (.seq (.seq (.region 2 kcr2 false) (.block 0 (.loop (.seq (.region 3 kcr3 false) (.seq (.cond (Operand.tmp 11) .skip (.exit 0)) (.seq (.block 1 (.seq (.region 4 kcr4 false) (.region 5 kcr5 true))) (.region 6 kcr6 false))))))) (.seq (.region 7 kcr7 false) .ret)))) := by kernel_rfl
theorem kcbody : Tryz.f54.body = some kccode := by kernel_rfl
theorem kcr0_l : kcr0.toList = [(Oper.mk (some 2) (Op.assign (Operand.const (Value.slice none 0 0))) 24 "l06_value.go:47" #[] none)] := by kernel_rfl
theorem kcr1_l : kcr1.toList = [(Oper.mk (some 6) (Op.move (Operand.tmp 0)) 24 "l06_value.go:48" #[] none),
  (Oper.mk (some 7) (Op.call (Call.mk (Callee.value (Operand.func 110)) #[(Operand.tmp 6)] #[24])) 24 "l06_value.go:48" #[(Edge.mk 0 Ground.data)] none),
  (Oper.mk (some 3) (Op.assign (Operand.tmp 7)) 24 "l06_value.go:48" #[(Edge.mk 1 Ground.data), (Edge.mk 1 Ground.chain), (Edge.mk 0 Ground.phase), (Edge.mk 1 Ground.phase)] none)] := by kernel_rfl
theorem kcr2_l : kcr2.toList = [(Oper.mk (some 8) (Op.move (Operand.tmp 3)) 24 "l06_value.go:49" #[] none),
  (Oper.mk (some 9) (Op.call (Call.mk (Callee.builtin Builtin.len) #[(Operand.tmp 8)] #[24])) 3 "l06_value.go:49" #[(Edge.mk 0 Ground.data)] none),
  (Oper.mk (some 10) (Op.move (Operand.const (Value.int IntKind.i64 0))) 3 "l06_value.go:49" #[] none)] := by kernel_rfl
theorem kcr3_l : kcr3.toList = [(Oper.mk (some 11) (Op.binOp BinOp.lss 3 (Operand.tmp 10) (Operand.tmp 9) 3) 0 "l06_value.go:49" #[] none)] := by kernel_rfl
theorem kcr4_l : kcr4.toList = [(Oper.mk (some 12) (Op.move (Operand.tmp 10)) 3 "l06_value.go:49" #[] none),
  (Oper.mk (some 13) (Op.indexAddr 24 (Operand.tmp 8) (Operand.tmp 10)) 0 "l06_value.go:49" #[] none),
  (Oper.mk (some 14) (Op.load 35 (Operand.tmp 13)) 35 "l06_value.go:49" #[(Edge.mk 1 Ground.data)] none),
  (Oper.mk (some 5) (Op.alloc 35) 0 "l06_value.go:49" #[] none),
  (Oper.mk (some 4) (Op.assign (Operand.tmp 12)) 3 "l06_value.go:49" #[(Edge.mk 0 Ground.data), (Edge.mk 0 Ground.phase), (Edge.mk 1 Ground.phase), (Edge.mk 2 Ground.phase), (Edge.mk 3 Ground.phase)] none),
  (Oper.mk none (Op.store 35 (Operand.tmp 5) (Operand.tmp 14)) 0 "l06_value.go:49" #[(Edge.mk 3 Ground.data), (Edge.mk 2 Ground.data), (Edge.mk 4 Ground.chain), (Edge.mk 0 Ground.phase), (Edge.mk 1 Ground.phase), (Edge.mk 2 Ground.phase), (Edge.mk 3 Ground.phase), (Edge.mk 4 Ground.phase)] none)] := by kernel_rfl
theorem kcr5_size : kcr5.size = 16 := by kernel_rfl
theorem kcr5_0 : kcr5[0]? = some (Oper.mk (some 15) (Op.move (Operand.tmp 3)) 24 "l06_value.go:50" #[] none) := by kernel_rfl
theorem kcr5_1 : kcr5[1]? = some (Oper.mk (some 16) (Op.move (Operand.tmp 4)) 3 "l06_value.go:50" #[] none) := by kernel_rfl
theorem kcr5_2 : kcr5[2]? = some (Oper.mk (some 17) (Op.move (Operand.tmp 3)) 24 "l06_value.go:50" #[(Edge.mk 12 (Ground.gcOnly Departure.lateStores))] none) := by kernel_rfl
theorem kcr5_3 : kcr5[3]? = some (Oper.mk (some 18) (Op.move (Operand.tmp 4)) 3 "l06_value.go:50" #[(Edge.mk 12 (Ground.gcOnly Departure.lateStores))] none) := by kernel_rfl
theorem kcr5_4 : kcr5[4]? = some (Oper.mk (some 19) (Op.fieldAddr 35 (Operand.tmp 5) 4) 0 "l06_value.go:50" #[] none) := by kernel_rfl
theorem kcr5_5 : kcr5[5]? = some (Oper.mk (some 20) (Op.load 32 (Operand.tmp 19)) 32 "l06_value.go:50" #[(Edge.mk 4 Ground.data)] none) := by kernel_rfl
theorem kcr5_6 : kcr5[6]? = some (Oper.mk (some 21) (Op.call (Call.mk (Callee.value (Operand.func 111)) #[(Operand.tmp 20)] #[32])) 32 "l06_value.go:50" #[(Edge.mk 5 Ground.data)] none) := by kernel_rfl
theorem kcr5_7 : kcr5[7]? = some (Oper.mk (some 22) (Op.fieldAddr 35 (Operand.tmp 5) 5) 0 "l06_value.go:50" #[] none) := by kernel_rfl
theorem kcr5_8 : kcr5[8]? = some (Oper.mk (some 23) (Op.load 33 (Operand.tmp 22)) 33 "l06_value.go:50" #[(Edge.mk 7 Ground.data)] none) := by kernel_rfl
theorem kcr5_9 : kcr5[9]? = some (Oper.mk (some 24) (Op.call (Call.mk (Callee.value (Operand.func 112)) #[(Operand.tmp 23)] #[33])) 33 "l06_value.go:50" #[(Edge.mk 8 Ground.data), (Edge.mk 6 Ground.chain)] none) := by kernel_rfl
theorem kcr5_10 : kcr5[10]? = some (Oper.mk (some 25) (Op.indexAddr 24 (Operand.tmp 15) (Operand.tmp 16)) 0 "l06_value.go:50" #[(Edge.mk 0 Ground.data), (Edge.mk 1 Ground.data), (Edge.mk 0 Ground.phase), (Edge.mk 1 Ground.phase), (Edge.mk 2 (Ground.textOnly Departure.lateStores)), (Edge.mk 3 (Ground.textOnly Departure.lateStores)), (Edge.mk 4 Ground.phase), (Edge.mk 5 Ground.phase), (Edge.mk 6 Ground.phase), (Edge.mk 7 (Ground.textOnly Departure.lateStores)), (Edge.mk 8 (Ground.textOnly Departure.lateStores)), (Edge.mk 9 Ground.phase)] none) := by kernel_rfl
theorem kcr5_11 : kcr5[11]? = some (Oper.mk (some 26) (Op.fieldAddr 35 (Operand.tmp 25) 4) 0 "l06_value.go:50" #[(Edge.mk 10 Ground.data), (Edge.mk 0 Ground.phase), (Edge.mk 1 Ground.phase), (Edge.mk 2 (Ground.textOnly Departure.lateStores)), (Edge.mk 3 (Ground.textOnly Departure.lateStores)), (Edge.mk 4 Ground.phase), (Edge.mk 5 Ground.phase), (Edge.mk 6 Ground.phase), (Edge.mk 7 (Ground.textOnly Departure.lateStores)), (Edge.mk 8 (Ground.textOnly Departure.lateStores)), (Edge.mk 9 Ground.phase)] none) := by kernel_rfl
theorem kcr5_12 : kcr5[12]? = some (Oper.mk none (Op.store 32 (Operand.tmp 26) (Operand.tmp 21)) 0 "l06_value.go:50" #[(Edge.mk 11 Ground.data), (Edge.mk 6 Ground.data), (Edge.mk 9 Ground.chain), (Edge.mk 0 Ground.phase), (Edge.mk 1 Ground.phase), (Edge.mk 2 (Ground.textOnly Departure.lateStores)), (Edge.mk 3 (Ground.textOnly Departure.lateStores)), (Edge.mk 4 Ground.phase), (Edge.mk 5 Ground.phase), (Edge.mk 6 Ground.phase), (Edge.mk 7 (Ground.textOnly Departure.lateStores)), (Edge.mk 8 (Ground.textOnly Departure.lateStores)), (Edge.mk 9 Ground.phase)] none) := by kernel_rfl
theorem kcr5_13 : kcr5[13]? = some (Oper.mk (some 27) (Op.indexAddr 24 (Operand.tmp 17) (Operand.tmp 18)) 0 "l06_value.go:50" #[(Edge.mk 2 Ground.data), (Edge.mk 3 Ground.data), (Edge.mk 0 Ground.phase), (Edge.mk 1 Ground.phase), (Edge.mk 2 Ground.phase), (Edge.mk 3 Ground.phase), (Edge.mk 4 Ground.phase), (Edge.mk 5 Ground.phase), (Edge.mk 6 Ground.phase), (Edge.mk 7 Ground.phase), (Edge.mk 8 Ground.phase), (Edge.mk 9 Ground.phase), (Edge.mk 10 Ground.phase), (Edge.mk 11 Ground.phase), (Edge.mk 12 Ground.phase)] none) := by kernel_rfl
theorem kcr5_14 : kcr5[14]? = some (Oper.mk (some 28) (Op.fieldAddr 35 (Operand.tmp 27) 5) 0 "l06_value.go:50" #[(Edge.mk 13 Ground.data), (Edge.mk 0 Ground.phase), (Edge.mk 1 Ground.phase), (Edge.mk 2 Ground.phase), (Edge.mk 3 Ground.phase), (Edge.mk 4 Ground.phase), (Edge.mk 5 Ground.phase), (Edge.mk 6 Ground.phase), (Edge.mk 7 Ground.phase), (Edge.mk 8 Ground.phase), (Edge.mk 9 Ground.phase), (Edge.mk 10 Ground.phase), (Edge.mk 11 Ground.phase), (Edge.mk 12 Ground.phase)] none) := by kernel_rfl
theorem kcr5_15 : kcr5[15]? = some (Oper.mk none (Op.store 33 (Operand.tmp 28) (Operand.tmp 24)) 0 "l06_value.go:50" #[(Edge.mk 14 Ground.data), (Edge.mk 9 Ground.data), (Edge.mk 12 Ground.chain), (Edge.mk 0 Ground.phase), (Edge.mk 1 Ground.phase), (Edge.mk 2 Ground.phase), (Edge.mk 3 Ground.phase), (Edge.mk 4 Ground.phase), (Edge.mk 5 Ground.phase), (Edge.mk 6 Ground.phase), (Edge.mk 7 Ground.phase), (Edge.mk 8 Ground.phase), (Edge.mk 9 Ground.phase), (Edge.mk 10 Ground.phase), (Edge.mk 11 Ground.phase), (Edge.mk 12 Ground.phase)] none) := by kernel_rfl
theorem kcr6_l : kcr6.toList = [(Oper.mk (some 29) (Op.binOp BinOp.add 3 (Operand.tmp 10) (Operand.const (Value.int IntKind.i64 1)) 3) 3 "l06_value.go:49" #[] none),
  (Oper.mk (some 10) (Op.move (Operand.tmp 29)) 3 "l06_value.go:49" #[(Edge.mk 0 Ground.data)] none)] := by kernel_rfl
theorem kcr7_l : kcr7.toList = [(Oper.mk (some 30) (Op.move (Operand.tmp 3)) 24 "l06_value.go:52" #[] none),
  (Oper.mk (some 2) (Op.assign (Operand.tmp 30)) 24 "l06_value.go:52" #[(Edge.mk 0 Ground.data), (Edge.mk 0 Ground.phase)] none)] := by kernel_rfl
end Go.Rf

namespace Go.Rf
open Go.Proofs
set_option maxRecDepth 100000

abbrev cpV : Ty := .pair (.int .i64) (.pair (.int .i64) (.pair .str .unit))
abbrev cpC : Ty := .pair (.int .i64) (.pair .str (.pair (.int .i64) (.pair (.int .i64) (.pair (.sl .lend .str) (.pair (.sl .lend cpV) .unit)))))
abbrev cpO : Ty := .pair (.int .i64) (.pair .str (.pair (.int .i64) (.pair (.int .i64) (.pair (.sl .own .str) (.pair (.sl .own cpV) .unit)))))
noncomputable def EK : Cz := { tab := tabP, n := 8, V := Vp, ann := look [], fn := look [], fx := look [] }
def AK : An := { join := look [], loop := look [], ret := [] }
theorem EK_ok : EnvOK Tryz.prog EK := ⟨tabP_ok, (fun _ _ h => by cases h), (fun _ _ h => by cases h)⟩

theorem k0h3 (xs : List (Ty.D cpC)) : evalK EK AK 0 (.seq (.region 3 k0r3 false) .ret) (stC cpC xs) (kR EK.n (clR cpC)) = if List.length xs ≤ 4294967296 then some (xs, ()) else none := by kernel_rfl
theorem k1h3 (xs : List (Ty.D .str)) : evalK EK AK 0 (.seq (.region 3 k1r3 false) .ret) (stC .str xs) (kR EK.n (clR .str)) = if List.length xs ≤ 4294967296 then some (xs, ()) else none := by kernel_rfl
theorem k2h3 (xs : List (Ty.D cpV)) : evalK EK AK 0 (.seq (.region 3 k2r3 false) .ret) (stC cpV xs) (kR EK.n (clR cpV)) = if List.length xs ≤ 4294967296 then some (xs, ()) else none := by kernel_rfl

section
variable {w : World} {S : Stab} {v : Value} (hstab : ∀ m b, S m b → b < w.heap.size) (hkl : ∀ b, S .keep b → S .lend b) (hglb : (∀ b, b < Vp.n → S .lend b) ∧ Vp.holds w)
include hstab hkl hglb

theorem clone_cells {xs : List (Ty.D cpC)} (hr : Rep S (hp w) (.sl .lend cpC) [v] xs []) (hlen : xs.length ≤ 4294967296) :
    Calls Tryz.prog 110 #[v] w fun en w' => ∃ S' u g, en = .returned u ∧ Cloned Vp S S' w w' ∧ Rep S' (hp w') (.sl .own cpC) [u] xs g ∧ g.Nodup ∧ ∀ b ∈ g, b < w'.heap.size ∧ w.heap.size ≤ b ∧ ∀ m, ¬ S' m b :=
  clone_raw (A := AK) (N := 0) EK_ok (by kernel_rfl) Tryz.func110 k0body (by kernel_rfl) rfl (by kernel_rfl) k0code_eq k0r1_l (show Tryz.prog.underlying 24 = some (.slice 35) by kernel_rfl)
    (fun xs => by kernel_rfl) (fun xs => by kernel_rfl) (fun xs h => (k0h3 xs).trans (if_pos h)) hstab hkl hglb hr hlen
theorem clone_strs {xs : List (Ty.D .str)} (hr : Rep S (hp w) (.sl .lend .str) [v] xs []) (hlen : xs.length ≤ 4294967296) :
    Calls Tryz.prog 111 #[v] w fun en w' => ∃ S' u g, en = .returned u ∧ Cloned Vp S S' w w' ∧ Rep S' (hp w') (.sl .own .str) [u] xs g ∧ g.Nodup ∧ ∀ b ∈ g, b < w'.heap.size ∧ w.heap.size ≤ b ∧ ∀ m, ¬ S' m b :=
  clone_raw (A := AK) (N := 0) EK_ok (by kernel_rfl) Tryz.func111 k1body (by kernel_rfl) rfl (by kernel_rfl) k1code_eq k1r1_l (show Tryz.prog.underlying 32 = some (.slice 9) by kernel_rfl)
    (fun xs => by kernel_rfl) (fun xs => by kernel_rfl) (fun xs h => (k1h3 xs).trans (if_pos h)) hstab hkl hglb hr hlen
theorem clone_vals {xs : List (Ty.D cpV)} (hr : Rep S (hp w) (.sl .lend cpV) [v] xs []) (hlen : xs.length ≤ 4294967296) :
    Calls Tryz.prog 112 #[v] w fun en w' => ∃ S' u g, en = .returned u ∧ Cloned Vp S S' w w' ∧ Rep S' (hp w') (.sl .own cpV) [u] xs g ∧ g.Nodup ∧ ∀ b ∈ g, b < w'.heap.size ∧ w.heap.size ≤ b ∧ ∀ m, ¬ S' m b :=
  clone_raw (A := AK) (N := 0) EK_ok (by kernel_rfl) Tryz.func112 k2body (by kernel_rfl) rfl (by kernel_rfl) k2code_eq k2r1_l (show Tryz.prog.underlying 33 = some (.slice 26) by kernel_rfl)
    (fun xs => by kernel_rfl) (fun xs => by kernel_rfl) (fun xs h => (k2h3 xs).trans (if_pos h)) hstab hkl hglb hr hlen
end
end Go.Rf

namespace Go.Rf
open Go.Proofs
set_option maxRecDepth 100000

abbrev cpT : Type := Ty.D cpO

/-! single runs -/
theorem x_zero : (∀ w, (zeroValue 35).run Tryz.prog w = .ok (.agg #[.int .i64 0, .string ByteArray.empty, .int .i64 0, .int .i64 0, .slice none 0 0, .slice none 0 0]) w) ∧ (Tryz.prog.info? 35).map (·.size) = some 6 := zero_of_info (by kernel_rfl)
theorem x_alloc (w : World) : (Instr.alloc 35 true (.tuple #[])).run Tryz.prog w = .ok (.pointer (some ⟨w.heap.size, 0, none⟩)) (w.alloc (.cells #[.int .i64 0, .string ByteArray.empty, .int .i64 0, .int .i64 0, .slice none 0 0, .slice none 0 0] 35)) := by
  simp [Instr.alloc, newVar, newRow, x_zero.1, Value.cells]
theorem x_store6 (v1 v2 v3 v4 v5 v6 : Value) (h1 : v1.oneCell' = true) (h2 : v2.oneCell' = true) (h3 : v3.oneCell' = true) (h4 : v4.oneCell' = true) (h5 : v5.oneCell' = true) (h6 : v6.oneCell' = true) (w : World) :
    (Instr.storeAt 35 (.pointer (some ⟨w.heap.size, 0, none⟩)) (.agg #[v1, v2, v3, v4, v5, v6])).run Tryz.prog (w.alloc (.cells #[.int .i64 0, .string ByteArray.empty, .int .i64 0, .int .i64 0, .slice none 0 0, .slice none 0 0] 35)) =
    .ok () (w.alloc (.cells #[v1, v2, v3, v4, v5, v6] 35)) :=
  run_storeAt_new w 35 _ _ x_zero.2 rfl (by simp [h1, h2, h3, h4, h5, h6])
theorem t24 : tabP 24 = some (.sl .own cpO) := by kernel_rfl
theorem t35 : tabP 35 = some cpO := by kernel_rfl
theorem t32 : tabP 32 = some (.sl .own .str) := by kernel_rfl
theorem t33 : tabP 33 = some (.sl .own cpV) := by kernel_rfl
theorem x_index (b off len cap i : Nat) (h : i < len) (w : World) : (Instr.indexAt 24 (.slice (some ⟨b, off, none⟩) len cap) (.int .i64 i)).run Tryz.prog w = .ok (.pointer (some ⟨b, off + i * 6, none⟩)) w := by
  have := run_indexAt tabP_ok t24 b off len cap .i64 (i : Int) (by omega) (by omega) w
  exact this
theorem x_field4 (b off : Nat) (w : World) : (Instr.fieldAt 35 (.pointer (some ⟨b, off, none⟩)) 4).run Tryz.prog w = .ok (.pointer (some ⟨b, off + 4, none⟩)) w :=
  run_fieldAt tabP_ok t35 (k := 4) (f := .sl .own .str) rfl (by decide) b off w
theorem x_field5 (b off : Nat) (w : World) : (Instr.fieldAt 35 (.pointer (some ⟨b, off, none⟩)) 5).run Tryz.prog w = .ok (.pointer (some ⟨b, off + 5, none⟩)) w :=
  run_fieldAt tabP_ok t35 (k := 5) (f := .sl .own cpV) rfl (by decide) b off w
theorem x_load35 {b off : Nat} {c : Array Value} {el : TypeId} {fr : Nat × Nat} {w : World} (hb : hp w b = some (.cells c el fr)) (hn : off + 6 ≤ c.size) :
    (Instr.loadAt 35 (.pointer (some ⟨b, off, none⟩))).run Tryz.prog w = .ok (.agg ((c.toList.drop off).take 6).toArray) w := by
  have := run_loadVar_at (tabP_ok _ _ t35) hb (off := off) hn
  simp only [Instr.loadAt, Instr.sureAddr, Sem.run_bind, Sem.run_pure, Result.andThen_ok]
  exact this
theorem x_load32 {k el : Nat} {v1 v2 v3 v4 v5 v6 : Value} {w : World} (hb : hp w k = some (.cells #[v1, v2, v3, v4, v5, v6] el)) : (Instr.loadAt 32 (.pointer (some ⟨k, 4, none⟩))).run Tryz.prog w = .ok v5 w := by
  have := run_loadVar_at (tabP_ok _ _ t32) hb (off := 4) (by simp [Ty.size])
  simp only [Instr.loadAt, Instr.sureAddr, Sem.run_bind, Sem.run_pure, Result.andThen_ok]
  exact this
theorem x_load33 {k el : Nat} {v1 v2 v3 v4 v5 v6 : Value} {w : World} (hb : hp w k = some (.cells #[v1, v2, v3, v4, v5, v6] el)) : (Instr.loadAt 33 (.pointer (some ⟨k, 5, none⟩))).run Tryz.prog w = .ok v6 w := by
  have := run_loadVar_at (tabP_ok _ _ t33) hb (off := 5) (by simp [Ty.size])
  simp only [Instr.loadAt, Instr.sureAddr, Sem.run_bind, Sem.run_pure, Result.andThen_ok]
  exact this
theorem x_store1 {t : Nat} {e : Ty} (ht : tabP t = some (.sl .own e)) {b off : Nat} {c : Array Value} {el : TypeId} {fr : Nat × Nat} {w : World} {v : Value} (hb : hp w b = some (.cells c el fr)) (hso : Soft fr c.size) (hn : off + 1 ≤ c.size) (hv : ∃ p l cp, v = .slice p l cp) :
    (Instr.storeAt t (.pointer (some ⟨b, off, none⟩)) v).run Tryz.prog w = .ok () (w.setRow b (lput c.toList off [v]).toArray) := by
  obtain ⟨p, l, cp, rfl⟩ := hv
  have := storeVar_run (P := Tryz.prog) tabP_ok ht (v := .slice p l cp) (ws := [.slice p l cp]) rfl rfl hb hso hn (by simp [Value.oneCell'])
  simp only [Instr.storeAt, Instr.sureAddr, Sem.run_bind, Sem.run_pure, Result.andThen_ok]
  exact this

/-! ## The loop's state -/
structure CpI (S0 S : Stab) (w0 w : World) (xs : List cpT) (b off cap i : Nat) : Prop where
  frm : Frm w0 w (Blk.of fun _ => False)
  b0 : w0.heap.size ≤ b
  stab : ∀ m x, S m x → x < w.heap.size
  kl : ∀ x, S .keep x → S .lend x
  glb : (∀ x, x < Vp.n → S .lend x) ∧ Vp.holds w
  bS : ∀ m, ¬ S m b
  newk : ∀ x, S .keep x → S0 .keep x ∨ w0.heap.size ≤ x
  rows : ∃ (c : Array Value) (el : TypeId) (fr : Nat × Nat) (pre P Q : List Value) (f : List Nat), hp w b = some (.cells c el fr) ∧ off + cap * 6 ≤ c.size ∧ Soft fr c.size ∧ c.toList = pre ++ P ++ Q ∧ pre.length = off ∧ P.length = i * 6 ∧
    Rows (Rep S (hp w) cpO) 6 P (xs.take i) f ∧ Rows (Rep S (hp w) cpC) 6 Q (xs.drop i) [] ∧ f.Nodup ∧ ∀ x ∈ f, w0.heap.size ≤ x ∧ x < w.heap.size ∧ x ≠ b ∧ ∀ m, ¬ S m x

theorem rep_cpC {S : Stab} {H : Heap} {vs : List Value} {x : cpT} (h : Rep S H cpC vs x []) : ∃ u5 u6 : Value, vs = [.int .i64 x.1, .string x.2.1, .int .i64 x.2.2.1, .int .i64 x.2.2.2.1, u5, u6] ∧
    Rep S H (.sl .lend .str) [u5] x.2.2.2.2.1 [] ∧ Rep S H (.sl .lend cpV) [u6] x.2.2.2.2.2.1 [] := by
  obtain ⟨v1, r1, f1, g1, rfl, e1, ⟨rfl, rfl⟩, v2, r2, f2, g2, rfl, rfl, ⟨rfl, rfl⟩, v3, r3, f3, g3, rfl, rfl, ⟨rfl, rfl⟩, v4, r4, f4, g4, rfl, rfl, ⟨rfl, rfl⟩, v5, r5, f5, g5, rfl, rfl, h5, v6, r6, f6, g6, rfl, rfl, h6, rfl, rfl⟩ := h
  simp only [List.nil_append, List.append_nil] at e1
  have e1 := (List.append_eq_nil_iff.1 e1.symm)
  obtain ⟨rfl, rfl⟩ := e1
  obtain ⟨a5, l5, c5, rfl, h5'⟩ := id h5
  obtain ⟨a6, l6, c6, rfl, h6'⟩ := id h6
  exact ⟨_, _, rfl, h5, h6⟩

theorem rep_cpO {S : Stab} {H : Heap} {x : cpT} {u5 u6 : Value} {g1 g2 : List Nat} (h5 : Rep S H (.sl .own .str) [u5] x.2.2.2.2.1 g1) (h6 : Rep S H (.sl .own cpV) [u6] x.2.2.2.2.2.1 g2) :
    Rep S H cpO [.int .i64 x.1, .string x.2.1, .int .i64 x.2.2.1, .int .i64 x.2.2.2.1, u5, u6] x (g1 ++ g2) :=
  ⟨[_], _, [], _, rfl, rfl, ⟨rfl, rfl⟩, [_], _, [], _, rfl, rfl, ⟨rfl, rfl⟩, [_], _, [], _, rfl, rfl, ⟨rfl, rfl⟩, [_], _, [], _, rfl, rfl, ⟨rfl, rfl⟩, [_], _, g1, _, rfl, rfl, h5, [_], _, g2, [], rfl, by simp, h6, rfl, rfl⟩

section
variable {S0 S S2 S3 : Stab} {w0 w w1 w2 w3 w5 : World} {xs : List cpT} {b off cap i : Nat}

/-- one round: what lies in the heap behind it -/
theorem CpI.next (h : CpI S0 S w0 w xs b off cap i) (hi : i < xs.length) {c : Array Value} {el : TypeId} {fr : Nat × Nat} {pre P Q r Q' : List Value} {f : List Nat} (hb : hp w b = some (.cells c el fr)) (hcs : off + cap * 6 ≤ c.size) (hso : Soft fr c.size)
    (hc : c.toList = pre ++ P ++ Q) (hpre : pre.length = off) (hP : P.length = i * 6) (hrP : Rows (Rep S (hp w) cpO) 6 P (xs.take i) f) (hnd : f.Nodup) (hf : ∀ x ∈ f, w0.heap.size ≤ x ∧ x < w.heap.size ∧ x ≠ b ∧ ∀ m, ¬ S m x)
    (hQ : Q = r ++ Q') (hrl : r.length = 6) (hrQ : Rows (Rep S (hp w) cpC) 6 Q' (xs.drop (i + 1)) []) {x : cpT} (hx : xs[i]? = some x)
    (hf1 : Frm w w1 (Blk.of fun _ => False)) (h2 : Cloned Vp S S2 w1 w2) (h3 : Cloned Vp S2 S3 w2 w3) {u1 u2 : Value} {g1 g2 : List Nat}
    (k1 : Rep S2 (hp w2) (.sl .own .str) [u1] x.2.2.2.2.1 g1) (k2 : Rep S3 (hp w3) (.sl .own cpV) [u2] x.2.2.2.2.2.1 g2) (n1 : g1.Nodup) (n2 : g2.Nodup)
    (b1 : ∀ y ∈ g1, y < w2.heap.size ∧ w1.heap.size ≤ y ∧ ∀ m, ¬ S2 m y) (b2 : ∀ y ∈ g2, y < w3.heap.size ∧ w2.heap.size ≤ y ∧ ∀ m, ¬ S3 m y)
    (hw5 : ∀ y, y ≠ b → hp w5 y = hp w3 y) (hos : w5.os = w3.os ∧ w5.tape = w3.tape ∧ w5.output = w3.output) (hsz : w5.heap.size = w3.heap.size) {c5 : Array Value} (hb5 : hp w5 b = some (.cells c5 el fr))
    (hc5 : c5.toList = pre ++ P ++ ([.int .i64 x.1, .string x.2.1, .int .i64 x.2.2.1, .int .i64 x.2.2.2.1, u1, u2] ++ Q')) : CpI S0 S3 w0 w5 xs b off cap (i + 1) := by
  have hbl : b < w.heap.size := (Array.getElem?_eq_some_iff.1 hb).1
  have z1 := hf1.size
  have z2 := h2.frm.size
  have z3 := h3.frm.size
  have old : ∀ y, y < w.heap.size → y ≠ b → hp w5 y = hp w y := fun y hy hne => by
    rw [hw5 y hne, h3.frm.block y (by omega) (by intro h; cases h), h2.frm.block y (by omega) (by intro h; cases h), hf1.block y hy (by intro h; cases h)]
  have old2 : ∀ y, y < w2.heap.size → y ≠ b → hp w5 y = hp w2 y := fun y hy hne => by
    rw [hw5 y hne, h3.frm.block y hy (by intro h; cases h)]
  have hb2 : ∀ m, ¬ S2 m b := fun m hm => by
    rcases h2.new m b hm with ⟨m', h'⟩ | h'
    · exact h.bS _ h'
    · omega
  have hb3 : ∀ m, ¬ S3 m b := fun m hm => by
    rcases h3.new m b hm with ⟨m', h'⟩ | h'
    · exact hb2 _ h'
    · omega
  have hfS : ∀ y ∈ f, ∀ m, ¬ S3 m y := fun y hy m hm => by
    obtain ⟨_, q2, _, q4⟩ := hf y hy
    rcases h3.new m y hm with ⟨m', h'⟩ | h'
    · rcases h2.new m' y h' with ⟨m2, h''⟩ | h''
      · exact q4 _ h''
      · omega
    · omega
  have hg1S : ∀ y ∈ g1, ∀ m, ¬ S3 m y := fun y hy m hm => by
    obtain ⟨q1, q2, q3⟩ := b1 y hy
    rcases h3.new m y hm with ⟨m', h'⟩ | h'
    · exact q3 _ h'
    · omega
  have hS3 : ∀ m y, S m y → S3 m y := fun m y h => h3.more _ _ (h2.more _ _ h)
  have hSb : ∀ m y, S m y → hp w5 y = hp w y := fun m y hy => old y (h.stab m y hy) (by rintro rfl; exact h.bS _ hy)
  have hS2b : ∀ m y, S2 m y → hp w5 y = hp w2 y := fun m y hy => old2 y (h2.stab m y hy) (by rintro rfl; exact hb2 _ hy)
  have hS3b : ∀ m y, S3 m y → hp w5 y = hp w3 y := fun m y hy => hw5 y (by rintro rfl; exact hb3 _ hy)
  have hlen : c5.size = c.size := by
    have e1 := congrArg List.length hc
    have e2 := congrArg List.length hc5
    simp only [Array.length_toList, List.length_append, hQ, hrl] at e1 e2
    simp at e2
    omega
  have hdrop : xs.drop i = x :: xs.drop (i + 1) := by
    rw [List.drop_eq_getElem_cons hi]
    congr 1
    rw [List.getElem?_eq_getElem hi] at hx
    exact Option.some.inj hx
  have htake : xs.take (i + 1) = xs.take i ++ [x] := by
    rw [List.take_add_one, hx]; rfl
  have htl : (xs.take i).length = i := by simp; omega
  refine ⟨⟨?_, ?_, ?_, ?_, fun y hy hG => ?_⟩, h.b0, fun m y hy => by rw [hsz]; exact h3.stab m y hy, h3.kl, glb_of (C := EK.toCx) hS3b (fun _ _ h => h) h3.glb, hb3, fun y hy => ?_, ?_⟩
  · rw [hos.1, h3.frm.os, h2.frm.os, hf1.os, h.frm.os]
  · rw [hos.2.1, h3.frm.tape, h2.frm.tape, hf1.tape, h.frm.tape]
  · rw [hos.2.2, h3.frm.output, h2.frm.output, hf1.output, h.frm.output]
  · have := h.frm.size; omega
  · have hle := h.frm.size
    have := h.b0
    rw [old y (by omega) (by omega), h.frm.block y hy hG]
  · rcases h3.newk y hy with h' | h'
    · rcases h2.newk y h' with h'' | h''
      · exact h.newk y h''
      · have := h.frm.size; exact .inr (by omega)
    · have := h.frm.size; exact .inr (by omega)
  · refine ⟨c5, el, fr, pre, P ++ [.int .i64 x.1, .string x.2.1, .int .i64 x.2.2.1, .int .i64 x.2.2.2.1, u1, u2], Q', f ++ (g1 ++ g2), hb5, by rw [hlen]; exact hcs, by rw [hlen]; exact hso, by rw [hc5]; simp, hpre, by simp [hP]; omega, ?_, ?_, ?_, ?_⟩
    · rw [htake]
      have r1 : Rows (Rep S3 (hp w5) cpO) 6 P (xs.take i) f := (hrP.heap' (e := cpO) hSb (fun y hy => old y (hf y hy).2.1 (hf y hy).2.2.1)).mono (fun _ _ _ q => q.stab hS3)
      refine Rows.append (Rows.congr ?_ r1) ?_
      · rw [htl, List.take_append_of_le_length (by omega)]
      · rw [htl, ← hP, List.drop_left]
        refine ⟨g1 ++ g2, [], by simp, ?_, rfl⟩
        refine rep_cpO ?_ ?_
        · exact (k1.heap hS2b (fun y hy => old2 y (b1 y hy).1 (by have := (b1 y hy).2.1; omega))).stab h3.more
        · exact k2.heap hS3b (fun y hy => hw5 y (by have := (b2 y hy).2.1; omega))
    · exact (hrQ.heap' (e := cpC) hSb (by simp)).mono (fun _ _ _ q => q.stab hS3)
    · refine List.nodup_append.2 ⟨hnd, List.nodup_append.2 ⟨n1, n2, fun y h1 z h2 e => ?_⟩, fun y h1 z h2 e => ?_⟩
      · subst e; have := (b1 y h1).1; have := (b2 y h2).2.1; omega
      · subst e
        have q := (hf y h1).2.1
        rcases List.mem_append.1 h2 with h2 | h2
        · have := (b1 y h2).2.1; omega
        · have := (b2 y h2).2.1; omega
    · intro y hy
      have := h.frm.size
      rcases List.mem_append.1 hy with hy | hy
      · obtain ⟨q1, q2, q3, q4⟩ := hf y hy
        exact ⟨q1, by omega, q3, hfS y hy⟩
      · rcases List.mem_append.1 hy with hy | hy
        · obtain ⟨q1, q2, q3⟩ := b1 y hy
          exact ⟨by omega, by omega, by omega, hg1S y hy⟩
        · obtain ⟨q1, q2, q3⟩ := b2 y hy
          exact ⟨by omega, by omega, by omega, q3⟩

theorem CpI.fin (h : CpI S0 S w0 w xs b off cap xs.length) (hlc : xs.length ≤ cap) : ∃ g, Rep S (hp w) (.sl .own cpO) [.slice (some ⟨b, off, none⟩) xs.length cap] xs g ∧ g.Nodup ∧ ∀ y ∈ g, y < w.heap.size ∧ w0.heap.size ≤ y ∧ ∀ m, ¬ S m y := by
  obtain ⟨c, el, fr, pre, P, Q, f, h1, h2, h3, h4, h5, h6, h7, h8, h9, h10⟩ := h.rows
  refine ⟨b :: f, ⟨some ⟨b, off, none⟩, xs.length, cap, rfl, rfl, hlc, .inr ⟨b, off, c, el, fr, f, rfl, h1, h2, ?_, .inr ⟨rfl, h3, rfl⟩⟩⟩, List.nodup_cons.2 ⟨fun hb => (h10 b hb).2.2.1 rfl, h9⟩, fun y hy => ?_⟩
  · rw [List.take_length] at h7
    refine Rows.congr (cs := P) ?_ h7
    have e : c.toList.drop off = P ++ Q := by rw [h4, ← h5, List.append_assoc, List.drop_left]
    show P.take (xs.length * 6) = (c.toList.drop off).take (xs.length * 6)
    rw [e, List.take_append_of_le_length (by omega)]
  · rcases List.mem_cons.1 hy with rfl | hy
    · exact ⟨(Array.getElem?_eq_some_iff.1 h1).1, h.b0, h.bS⟩
    · obtain ⟨q1, q2, _, q4⟩ := h10 y hy
      exact ⟨q2, q1, q4⟩

theorem rows_plain {S : Stab} {H : Heap} {e : Ty} (he : e.plain = true) : ∀ {ys : List e.D} {cs : List Value} {f : List Nat}, Rows (Rep S H e) e.size cs ys f → f = [] := by
  intro ys
  induction ys with
  | nil => intro cs f h; exact h
  | cons y ys ih =>
    rintro cs f ⟨f1, f2, rfl, h1, h2⟩
    rw [h1.plain he, ih h2]; rfl

theorem CpI.init (hc : Cloned Vp S0 S w0 w) {u : Value} {g : List Nat} (hr : Rep S (hp w) (.sl .own cpC) [u] xs g) (hg : ∀ y ∈ g, y < w.heap.size ∧ w0.heap.size ≤ y ∧ ∀ m, ¬ S m y) :
    (∃ p cp, u = .slice p xs.length cp ∧ xs = []) ∨ ∃ b off cap, u = .slice (some ⟨b, off, none⟩) xs.length cap ∧ xs.length ≤ cap ∧ CpI S0 S w0 w xs b off cap 0 := by
  obtain ⟨a, len, cap, e, hl, hlc, hh⟩ := hr
  cases e
  rcases hh with ⟨h0, _⟩ | ⟨b, off, c, el, fr, f2, rfl, hb, hsz, hrr, h⟩
  · refine .inl ⟨a, cap, by rw [hl], ?_⟩
    exact List.length_eq_zero_iff.1 (by omega)
  · rcases h with ⟨h, _⟩ | ⟨_, hso, rfl⟩
    · exact absurd rfl h
    have hf2 := rows_plain (e := cpC) rfl hrr
    subst hf2
    refine .inr ⟨b, off, cap, by rw [hl], by omega, ⟨hc.frm, (hg b (by simp)).2.1, hc.stab, hc.kl, hc.glb, (hg b (by simp)).2.2, hc.newk, c, el, fr, c.toList.take off, [], c.toList.drop off, [], hb, hsz, hso, by simp, ?_, rfl, rfl, hrr, by simp, by simp⟩⟩
    have : off + cap * 6 ≤ c.size := hsz
    simp; omega
end
end Go.Rf

namespace Go.Rf
open Go.Proofs
set_option maxRecDepth 100000

section
variable {P : Program}
theorem op_val {a : Act} {w w' : World} {K : Act → World → Prop} {Q : Exit → Act → World → Prop} {o : Oper} {v : Value} (hr : (execOp a.eval o).run P w = .ok (.value v) w') (h : K (a.put o.dst v) w') : o.wp P a w K Q := by
  simp only [Oper.wp, hr, Oper.upon_value]; exact h
theorem op_skip {a : Act} {w w' : World} {K : Act → World → Prop} {Q : Exit → Act → World → Prop} {o : Oper} (hr : (execOp a.eval o).run P w = .ok .skip w') (h : K (a.put o.dst undef) w') : o.wp P a w K Q := by
  simp only [Oper.wp, hr, Oper.upon_skip]; exact h
theorem enters_of {fid : Nat} {fn : Func} {c : Code} (hfn : P.funcs[fid]? = some fn) (hbody : fn.body = some c) (hname : (fn.name == "runtime.NumGoroutine") = false) (args : Array Value) (w : World) : (callFunc fid args).run P w = .ok (.enter fid args) w := by
  have h1 : fn.name ≠ "runtime.NumGoroutine" := by simpa using hname
  simp [callFunc, hfn, h1, hbody, mark]
theorem call_wp {fid d : Nat} {args : Array Operand} {at_ : Array TypeId} {ty : TypeId} {pos : String} {after : Array Edge} {a : Act} {w : World} {vals : Array Value} {R : Ending → World → Prop} {K : Act → World → Prop} {Q : Exit → Act → World → Prop}
    (hent : ∀ args w, (callFunc fid args).run P w = .ok (.enter fid args) w) (hv : args.map a.eval = vals) (hc : Calls P fid vals w R) (hK : ∀ e w', R e w' → ∃ v, e = .returned v ∧ K (a.put (some d) v) w') :
    (Oper.mk (some d) (.call (.mk (.value (.func fid)) args at_)) ty pos after none).wp P a w K Q := by
  have ef : a.eval (.func fid) = .func (.func fid) #[] #[] := rfl
  have hrun : (execOp a.eval (Oper.mk (some d) (.call (.mk (.value (.func fid)) args at_)) ty pos after none)).run P w = .ok (.enter fid vals) w := by
    simp [execOp, resolve, invoke, Deferred.ofValue, hent, ef, hv]
  simp only [Oper.wp]
  rw [hrun, Oper.upon_enter]
  refine hc.mono ?_
  rintro e w2 h
  obtain ⟨v, rfl, h2⟩ := hK e w2 h
  exact h2
theorem wpL_op {ops : Array Oper} {a : Act} {w : World} {Q : Exit → Act → World → Prop} {o : Oper} {l : List Oper} {K : Act → World → Prop} (hg : o.guard = none) (h : o.wp P a w (fun a' w' => wpL P ops (fun _ => True) Q l K a' w') Q) :
    wpL P ops (fun _ => True) Q (o :: l) K a w := by
  simp only [wpL]
  rw [if_pos (by simp [Region.wanted, hg])]
  have e : (fun a' w' => wpL P ops (fun _ => True) Q l K a' w') = (fun a' w' => True ∧ wpL P ops (fun _ => True) Q l K a' w') := by funext a' w'; simp
  rw [e] at h; exact h
theorem steps6 {ops : Array Oper} {Q : Exit → Act → World → Prop} {K : Act → World → Prop} {a : Act} {w w3 w4 w5 w6 : World} {o1 o2 o3 o4 o5 o6 : Oper} {v1 v2 v3 v4 v5 : Value}
    (g1 : o1.guard = none) (g2 : o2.guard = none) (g3 : o3.guard = none) (g4 : o4.guard = none) (g5 : o5.guard = none) (g6 : o6.guard = none) (d6 : o6.dst = none)
    (h1 : (execOp a.eval o1).run P w = .ok (.value v1) w) (h2 : (execOp (a.put o1.dst v1).eval o2).run P w = .ok (.value v2) w) (h3 : (execOp ((a.put o1.dst v1).put o2.dst v2).eval o3).run P w = .ok (.value v3) w3)
    (h4 : (execOp (((a.put o1.dst v1).put o2.dst v2).put o3.dst v3).eval o4).run P w3 = .ok (.value v4) w4) (h5 : (execOp ((((a.put o1.dst v1).put o2.dst v2).put o3.dst v3).put o4.dst v4).eval o5).run P w4 = .ok (.value v5) w5)
    (h6 : (execOp (((((a.put o1.dst v1).put o2.dst v2).put o3.dst v3).put o4.dst v4).put o5.dst v5).eval o6).run P w5 = .ok .skip w6)
    (h : K (((((a.put o1.dst v1).put o2.dst v2).put o3.dst v3).put o4.dst v4).put o5.dst v5) w6) : wpL P ops (fun _ => True) Q [o1, o2, o3, o4, o5, o6] K a w :=
  wpL_v g1 h1 (wpL_v g2 h2 (wpL_v g3 h3 (wpL_v g4 h4 (wpL_v g5 h5 (wpL_s g6 h6 (by rw [d6]; exact h))))))
end

theorem round4 {a : Act} {w : World} (hsz : a.tmps.size = 31) (hd : a.defers = []) {b off cap i len : Nat} {c : Array Value} {el : TypeId} {fr : Nat × Nat} (e8 : a.eval (.tmp 8) = .slice (some ⟨b, off, none⟩) len cap) (e10 : a.eval (.tmp 10) = .int .i64 i) (hi : i < len)
    (hb : hp w b = some (.cells c el fr)) (hn : off + i * 6 + 6 ≤ c.size) {v1 v2 v3 v4 v5 v6 : Value} (hr : (c.toList.drop (off + i * 6)).take 6 = [v1, v2, v3, v4, v5, v6])
    (h1 : v1.oneCell' = true) (h2 : v2.oneCell' = true) (h3 : v3.oneCell' = true) (h4 : v4.oneCell' = true) (h5 : v5.oneCell' = true) (h6 : v6.oneCell' = true) {Q : Exit → Act → World → Prop}
    (h : ∀ a', (∀ t, t ∉ [12, 13, 14, 5, 4] → a'.eval (.tmp t) = a.eval (.tmp t)) → a'.tmps.size = 31 → a'.defers = [] → a'.eval (.tmp 5) = .pointer (some ⟨w.heap.size, 0, none⟩) → a'.eval (.tmp 4) = .int .i64 i → Q .normal a' (w.alloc (.cells #[v1, v2, v3, v4, v5, v6] 35))) :
    (Code.region 4 kcr4 false).wp Tryz.prog Q a w := by
  refine wpL_region (J := fun _ => True) ?_
  rw [kcr4_l]
  have hl := x_load35 hb hn
  rw [hr] at hl
  have hx := x_index b off len cap i hi w
  have ha := x_alloc w
  have hs := x_store6 v1 v2 v3 v4 v5 v6 h1 h2 h3 h4 h5 h6 w
  generalize hw1 : w.alloc (.cells #[.int .i64 0, .string ByteArray.empty, .int .i64 0, .int .i64 0, .slice none 0 0, .slice none 0 0] 35) = wz at ha hs
  generalize hw2 : w.alloc (.cells #[v1, v2, v3, v4, v5, v6] 35) = wn at hs h
  refine steps6 (w3 := w) (w4 := wz) (w5 := wz) (w6 := wn) (v1 := .int .i64 i) (v2 := .pointer (some ⟨b, off + i * 6, none⟩)) (v3 := .agg #[v1, v2, v3, v4, v5, v6]) (v4 := .pointer (some ⟨w.heap.size, 0, none⟩)) (v5 := .int .i64 i) rfl rfl rfl rfl rfl rfl rfl
    (by simp [execOp, e10]) (by simp [execOp, put_ne, e8, e10, hx]) (by simp [execOp, put_ev, put_ne, put_sz, hsz, hl]) (by simp [execOp, ha]) (by simp [execOp, put_ev, put_ne, put_sz, hsz]) (by simp [execOp, put_ev, put_ne, put_sz, hsz, hs]) ?_
  refine h _ (fun t ht => ?_) (by simp [put_sz, hsz]) hd (by simp [put_ev, put_ne, put_sz, hsz]) (by simp [put_ev, put_sz, hsz])
  simp only [List.mem_cons, List.not_mem_nil, or_false, not_or] at ht
  obtain ⟨t1, t2, t3, t4, t5⟩ := ht
  rw [put_ne (Ne.symm t5), put_ne (Ne.symm t4), put_ne (Ne.symm t3), put_ne (Ne.symm t2), put_ne (Ne.symm t1)]

theorem ent111 (args : Array Value) (w : World) : (callFunc 111 args).run Tryz.prog w = .ok (.enter 111 args) w := enters_of Tryz.func111 k1body (by kernel_rfl) args w
theorem ent112 (args : Array Value) (w : World) : (callFunc 112 args).run Tryz.prog w = .ok (.enter 112 args) w := enters_of Tryz.func112 k2body (by kernel_rfl) args w
theorem ent110 (args : Array Value) (w : World) : (callFunc 110 args).run Tryz.prog w = .ok (.enter 110 args) w := enters_of Tryz.func110 k0body (by kernel_rfl) args w

theorem put_sz1 {a : Act} {d : Nat} {v : Value} : (a.put (some d) v).tmps.size = a.tmps.size := put_sz
theorem env_one {a : Act} {d : Nat} {v : Value} (h : d < a.tmps.size) : ∃ a', a' = a.put (some d) v ∧ a'.tmps.size = a.tmps.size ∧ a'.defers = a.defers ∧ a'.eval (.tmp d) = v ∧ ∀ t, t ≠ d → a'.eval (.tmp t) = a.eval (.tmp t) :=
  ⟨_, rfl, put_sz1, rfl, put_ev h, fun t ht => put_ne (Ne.symm ht)⟩
theorem acts8 {a : Act} (hsz : a.tmps.size = 31) (x15 x16 x17 x18 x19 x20 x22 x23 : Value) : ∃ a1, a1 = ((((((((a.put (some 15) x15).put (some 16) x16).put (some 17) x17).put (some 18) x18).put (some 19) x19).put (some 20) x20).put (some 22) x22).put (some 23) x23) ∧
    a1.eval (.tmp 15) = x15 ∧ a1.eval (.tmp 16) = x16 ∧ a1.eval (.tmp 17) = x17 ∧ a1.eval (.tmp 18) = x18 ∧ a1.eval (.tmp 20) = x20 ∧ a1.eval (.tmp 23) = x23 ∧ a1.tmps.size = 31 ∧ a1.defers = a.defers ∧ ∀ t, t ∉ [15, 16, 17, 18, 19, 20, 21, 22, 23, 24, 25, 26, 27, 28] → a1.eval (.tmp t) = a.eval (.tmp t) := by
  obtain ⟨a1, e1, s1, d1, v1, o1⟩ := env_one (a := a) (d := 15) (v := x15) (by omega)
  rw [← e1]
  obtain ⟨a2, e2, s2, d2, v2, o2⟩ := env_one (a := a1) (d := 16) (v := x16) (by omega)
  rw [← e2]
  obtain ⟨a3, e3, s3, d3, v3, o3⟩ := env_one (a := a2) (d := 17) (v := x17) (by omega)
  rw [← e3]
  obtain ⟨a4, e4, s4, d4, v4, o4⟩ := env_one (a := a3) (d := 18) (v := x18) (by omega)
  rw [← e4]
  obtain ⟨a5, e5, s5, d5, v5, o5⟩ := env_one (a := a4) (d := 19) (v := x19) (by omega)
  rw [← e5]
  obtain ⟨a6, e6, s6, d6, v6, o6⟩ := env_one (a := a5) (d := 20) (v := x20) (by omega)
  rw [← e6]
  obtain ⟨a7, e7, s7, d7, v7, o7⟩ := env_one (a := a6) (d := 22) (v := x22) (by omega)
  rw [← e7]
  obtain ⟨a8, e8, s8, d8, v8, o8⟩ := env_one (a := a7) (d := 23) (v := x23) (by omega)
  rw [← e8]
  refine ⟨a8, rfl, ?_, ?_, ?_, ?_, ?_, v8, by omega, by rw [d8, d7, d6, d5, d4, d3, d2, d1], ?_⟩
  · rw [o8 _ (by decide), o7 _ (by decide), o6 _ (by decide), o5 _ (by decide), o4 _ (by decide), o3 _ (by decide), o2 _ (by decide), v1]
  · rw [o8 _ (by decide), o7 _ (by decide), o6 _ (by decide), o5 _ (by decide), o4 _ (by decide), o3 _ (by decide), v2]
  · rw [o8 _ (by decide), o7 _ (by decide), o6 _ (by decide), o5 _ (by decide), o4 _ (by decide), v3]
  · rw [o8 _ (by decide), o7 _ (by decide), o6 _ (by decide), o5 _ (by decide), v4]
  · rw [o8 _ (by decide), o7 _ (by decide), v6]
  · intro t ht
    simp only [List.mem_cons, List.not_mem_nil, or_false, not_or] at ht
    obtain ⟨q1, q2, q3, q4, q5, q6, q7, q8, q9, _⟩ := ht
    rw [o8 _ q9, o7 _ q8, o6 _ q6, o5 _ q5, o4 _ q4, o3 _ q3, o2 _ q2, o1 _ q1]

set_option maxHeartbeats 600000 in
theorem round5 {a : Act} {W : World} (hsz : a.tmps.size = 31) (hd : a.defers = []) {b off cap i len k : Nat} {c : Array Value} {el : TypeId} {fr : Nat × Nat} (e3 : a.eval (.tmp 3) = .slice (some ⟨b, off, none⟩) len cap) (e4 : a.eval (.tmp 4) = .int .i64 i) (e5 : a.eval (.tmp 5) = .pointer (some ⟨k, 0, none⟩)) (hi : i < len)
    {v1 v2 v3 v4 v5 v6 : Value} (hk : hp W k = some (.cells #[v1, v2, v3, v4, v5, v6] 35)) (hkb : k ≠ b) (hb : hp W b = some (.cells c el fr)) (hso : Soft fr c.size) (hn : off + i * 6 + 6 ≤ c.size)
    {S : Stab} (hstab : ∀ m b, S m b → b < W.heap.size) (hkl : ∀ b, S .keep b → S .lend b) (hglb : (∀ b, b < Vp.n → S .lend b) ∧ Vp.holds W) (bS : ∀ m, ¬ S m b) {ns : List (Ty.D .str)} {vs : List (Ty.D cpV)} (h5 : Rep S (hp W) (.sl .lend .str) [v5] ns []) (h6 : Rep S (hp W) (.sl .lend cpV) [v6] vs []) (l5 : ns.length ≤ 4294967296) (l6 : vs.length ≤ 4294967296)
    {Q : Exit → Act → World → Prop} (hpan : ∀ c a w, ¬ Q (.panic c) a w)
    (h : ∀ (a' : Act) (w2 w3 w5 : World) (S2 S3 : Stab) (u1 u2 : Value) (g1 g2 : List Nat) (c5 : Array Value), Cloned Vp S S2 W.drew w2 → Cloned Vp S2 S3 w2 w3 → Rep S2 (hp w2) (.sl .own .str) [u1] ns g1 → Rep S3 (hp w3) (.sl .own cpV) [u2] vs g2 → g1.Nodup → g2.Nodup →
      (∀ y ∈ g1, y < w2.heap.size ∧ W.heap.size ≤ y ∧ ∀ m, ¬ S2 m y) → (∀ y ∈ g2, y < w3.heap.size ∧ w2.heap.size ≤ y ∧ ∀ m, ¬ S3 m y) → (∀ y, y ≠ b → hp w5 y = hp w3 y) → (w5.os = w3.os ∧ w5.tape = w3.tape ∧ w5.output = w3.output) → w5.heap.size = w3.heap.size → hp w5 b = some (.cells c5 el fr) →
      c5.toList = lput (lput c.toList (off + i * 6 + 4) [u1]) (off + i * 6 + 5) [u2] → a'.tmps.size = 31 → a'.defers = [] → (∀ t, t ∉ [15, 16, 17, 18, 19, 20, 21, 22, 23, 24, 25, 26, 27, 28] → a'.eval (.tmp t) = a.eval (.tmp t)) → Q .normal a' w5) :
    (Code.region 5 kcr5 true).wp Tryz.prog Q a W := by
  have hbl : b < W.heap.size := (Array.getElem?_eq_some_iff.1 hb).1
  have hkl' : k < W.heap.size := (Array.getElem?_eq_some_iff.1 hk).1
  refine region_hand (by kernel_rfl) (J := fun w' => ∀ x, x < W.heap.size → x ≠ b → hp w' x = hp W x) ?_
  have hns : Region.noSelect kcr5 = true := by kernel_rfl
  rw [kcr5_size]
  have hJ0 : ∀ x, x < W.heap.size → x ≠ b → hp W.drew x = hp W x := fun _ _ _ => rfl
  refine think_hand (v := .slice (some ⟨b, off, none⟩) len cap) hns hpan hJ0 kcr5_0 rfl (by kernel_rfl) (by simp [Region.wanted]) (fun w' _ => by simp [execOp, e3]) ?_
  refine think_hand (v := .int .i64 i) hns hpan hJ0 kcr5_1 rfl (by kernel_rfl) (by simp [Region.wanted]) (fun w' _ => by simp [execOp, put_ne, e4]) ?_
  refine think_hand (v := .slice (some ⟨b, off, none⟩) len cap) hns hpan hJ0 kcr5_2 rfl (by kernel_rfl) (by simp [Region.wanted]) (fun w' _ => by simp [execOp, put_ne, e3]) ?_
  refine think_hand (v := .int .i64 i) hns hpan hJ0 kcr5_3 rfl (by kernel_rfl) (by simp [Region.wanted]) (fun w' _ => by simp [execOp, put_ne, e4]) ?_
  refine think_hand (v := .pointer (some ⟨k, 4, none⟩)) hns hpan hJ0 kcr5_4 rfl (by kernel_rfl) (by simp [Region.wanted]) (fun w' _ => by
    have := x_field4 k 0 w'
    simp [execOp, put_ne, e5, this]) ?_
  refine think_hand (v := v5) hns hpan hJ0 kcr5_5 rfl (by kernel_rfl) (by simp [Region.wanted]) (fun w' hw' => by
    have := x_load32 (show hp w' k = _ by rw [hw' k hkl' hkb]; exact hk)
    simp [execOp, put_ev, put_ne, put_sz, hsz, this]) ?_
  refine think_hand (v := .pointer (some ⟨k, 5, none⟩)) hns hpan hJ0 kcr5_7 rfl (by kernel_rfl) (by simp [Region.wanted]) (fun w' _ => by
    have := x_field5 k 0 w'
    simp [execOp, put_ne, e5, this]) ?_
  refine think_hand (v := v6) hns hpan hJ0 kcr5_8 rfl (by kernel_rfl) (by simp [Region.wanted]) (fun w' hw' => by
    have := x_load33 (show hp w' k = _ by rw [hw' k hkl' hkb]; exact hk)
    simp [execOp, put_ev, put_ne, put_sz, hsz, this]) ?_
  obtain ⟨a1, ha1, f15, f16, f17, f18, f20, f23, fs, fd, fo⟩ := acts8 hsz (.slice (some ⟨b, off, none⟩) len cap) (.int .i64 i) (.slice (some ⟨b, off, none⟩) len cap) (.int .i64 i) (.pointer (some ⟨k, 4, none⟩)) v5 (.pointer (some ⟨k, 5, none⟩)) v6
  rw [← ha1]
  have fd : a1.defers = [] := fd.trans hd
  clear ha1
  refine only_hand kcr5_6 (by kernel_rfl) (by simp [Region.wanted]) ?_
  refine call_wp ent111 (vals := #[v5]) (by simp [f20]) (clone_strs (w := W.drew) hstab hkl hglb h5 l5) ?_
  rintro e w2 ⟨S2, u1, g1, rfl, hc2, k1, n1, b1⟩
  refine ⟨u1, rfl, fun x hx _ => hc2.frm.block x hx (by intro h; cases h), ?_⟩
  obtain ⟨a2, e2, s2, d2, y2, o2⟩ := env_one (a := a1) (d := 21) (v := u1) (by omega)
  rw [← e2]
  clear e2
  refine only_hand kcr5_9 (by kernel_rfl) (by simp [Region.wanted]) ?_
  have h6' : Rep S2 (hp w2) (.sl .lend cpV) [v6] vs [] := (h6.heap (fun m y hy => hc2.frm.block y (hstab m y hy) (by intro h; cases h)) (by simp)).stab hc2.more
  refine call_wp ent112 (vals := #[v6]) (by simp [o2 23 (by decide), f23]) (clone_vals (w := w2) hc2.stab hc2.kl hc2.glb h6' l6) ?_
  rintro e w3 ⟨S3, u2, g2, rfl, hc3, k2, n2, b2⟩
  have hz2 : W.heap.size ≤ w2.heap.size := hc2.frm.size
  have h3W : ∀ x, x < W.heap.size → hp w3 x = hp W x := fun x hx => (hc3.frm.block x (by omega) (by intro h; cases h)).trans (hc2.frm.block x hx (by intro h; cases h))
  refine ⟨u2, rfl, fun x hx _ => h3W x hx, ?_⟩
  obtain ⟨a3, e3', s3, d3, y3, o3⟩ := env_one (a := a2) (d := 24) (v := u2) (by omega)
  rw [← e3']
  clear e3'
  obtain ⟨p1, q1, r1, hu1, _⟩ := id k1
  obtain ⟨p2, q2, r2, hu2, _⟩ := id k2
  have hu1 : u1 = .slice p1 q1 r1 := by simpa using hu1
  have hu2 : u2 = .slice p2 q2 r2 := by simpa using hu2
  have hb3 : hp w3 b = some (.cells c el fr) := by rw [h3W b hbl]; exact hb
  have f15' : a3.eval (.tmp 15) = .slice (some ⟨b, off, none⟩) len cap := by rw [o3 _ (by decide), o2 _ (by decide), f15]
  have f16' : a3.eval (.tmp 16) = .int .i64 i := by rw [o3 _ (by decide), o2 _ (by decide), f16]
  have f17' : a3.eval (.tmp 17) = .slice (some ⟨b, off, none⟩) len cap := by rw [o3 _ (by decide), o2 _ (by decide), f17]
  have f18' : a3.eval (.tmp 18) = .int .i64 i := by rw [o3 _ (by decide), o2 _ (by decide), f18]
  have f21' : a3.eval (.tmp 21) = u1 := by rw [o3 _ (by decide), y2]
  refine only_hand kcr5_10 (by kernel_rfl) (by simp [Region.wanted]) (op_val (v := .pointer (some ⟨b, off + i * 6, none⟩)) (w' := w3) (by
    have := x_index b off len cap i hi w3
    simp [execOp, f15', f16', this]) ⟨fun x hx _ => h3W x hx, ?_⟩)
  obtain ⟨a4, e4', s4, d4, y4, o4⟩ := env_one (a := a3) (d := 25) (v := .pointer (some ⟨b, off + i * 6, none⟩)) (by omega)
  show wpAnyH _ _ _ _ _ _ _ (a3.put (some 25) _) _
  rw [← e4']
  clear e4'
  refine only_hand kcr5_11 (by kernel_rfl) (by simp [Region.wanted]) (op_val (v := .pointer (some ⟨b, off + i * 6 + 4, none⟩)) (w' := w3) (by
    have := x_field4 b (off + i * 6) w3
    simp [execOp, y4, this]) ⟨fun x hx _ => h3W x hx, ?_⟩)
  obtain ⟨a5, e5', s5, d5, y5, o5⟩ := env_one (a := a4) (d := 26) (v := .pointer (some ⟨b, off + i * 6 + 4, none⟩)) (by omega)
  show wpAnyH _ _ _ _ _ _ _ (a4.put (some 26) _) _
  rw [← e5']
  clear e5'
  have hst1 := x_store1 t32 (off := off + i * 6 + 4) (v := u1) hb3 hso (by omega) ⟨_, _, _, hu1⟩
  have hb4 : hp (w3.setRow b (lput c.toList (off + i * 6 + 4) [u1]).toArray) b = some (.cells (lput c.toList (off + i * 6 + 4) [u1]).toArray el fr) := hp_setRow_same hb3
  have ho4 : ∀ y, y ≠ b → hp (w3.setRow b (lput c.toList (off + i * 6 + 4) [u1]).toArray) y = hp w3 y := fun y hy => hp_setRow_other hy
  have hs4 : (w3.setRow b (lput c.toList (off + i * 6 + 4) [u1]).toArray).heap.size = w3.heap.size := by simp [World.setRow]
  have hos4 : (w3.setRow b (lput c.toList (off + i * 6 + 4) [u1]).toArray).os = w3.os ∧ (w3.setRow b (lput c.toList (off + i * 6 + 4) [u1]).toArray).tape = w3.tape ∧ (w3.setRow b (lput c.toList (off + i * 6 + 4) [u1]).toArray).output = w3.output := ⟨rfl, rfl, rfl⟩
  generalize w3.setRow b (lput c.toList (off + i * 6 + 4) [u1]).toArray = w4 at hst1 hb4 ho4 hs4 hos4
  have hl4 : (lput c.toList (off + i * 6 + 4) [u1]).length = c.size := by rw [put_length (by simp; omega)]; simp
  have f26 : a5.eval (.tmp 21) = u1 := by rw [o5 _ (by decide), o4 _ (by decide), f21']
  refine only_hand kcr5_12 (by kernel_rfl) (by simp [Region.wanted]) (op_skip (w' := w4) (by
    simp [execOp, y5, f26, hst1]) ⟨fun x hx hne => (ho4 x hne).trans (h3W x hx), ?_⟩)
  show wpAnyH _ _ _ _ _ _ _ a5 _
  have g17 : a5.eval (.tmp 17) = .slice (some ⟨b, off, none⟩) len cap := by rw [o5 _ (by decide), o4 _ (by decide), f17']
  have g18 : a5.eval (.tmp 18) = .int .i64 i := by rw [o5 _ (by decide), o4 _ (by decide), f18']
  refine only_hand kcr5_13 (by kernel_rfl) (by simp [Region.wanted]) (op_val (v := .pointer (some ⟨b, off + i * 6, none⟩)) (w' := w4) (by
    have := x_index b off len cap i hi w4
    simp [execOp, g17, g18, this]) ⟨fun x hx hne => (ho4 x hne).trans (h3W x hx), ?_⟩)
  obtain ⟨a6, e6', s6, d6, y6, o6⟩ := env_one (a := a5) (d := 27) (v := .pointer (some ⟨b, off + i * 6, none⟩)) (by omega)
  show wpAnyH _ _ _ _ _ _ _ (a5.put (some 27) _) _
  rw [← e6']
  clear e6'
  refine only_hand kcr5_14 (by kernel_rfl) (by simp [Region.wanted]) (op_val (v := .pointer (some ⟨b, off + i * 6 + 5, none⟩)) (w' := w4) (by
    have := x_field5 b (off + i * 6) w4
    simp [execOp, y6, this]) ⟨fun x hx hne => (ho4 x hne).trans (h3W x hx), ?_⟩)
  obtain ⟨a7, e7', s7, d7, y7, o7⟩ := env_one (a := a6) (d := 28) (v := .pointer (some ⟨b, off + i * 6 + 5, none⟩)) (by omega)
  show wpAnyH _ _ _ _ _ _ _ (a6.put (some 28) _) _
  rw [← e7']
  clear e7'
  have hst2 := x_store1 t33 (off := off + i * 6 + 5) (v := u2) hb4 (by simpa [hl4] using hso) (by simp [hl4]; omega) ⟨_, _, _, hu2⟩
  rw [List.toList_toArray] at hst2
  have hb5 : hp (w4.setRow b (lput (lput c.toList (off + i * 6 + 4) [u1]) (off + i * 6 + 5) [u2]).toArray) b = some (.cells (lput (lput c.toList (off + i * 6 + 4) [u1]) (off + i * 6 + 5) [u2]).toArray el fr) := hp_setRow_same hb4
  have ho5 : ∀ y, y ≠ b → hp (w4.setRow b (lput (lput c.toList (off + i * 6 + 4) [u1]) (off + i * 6 + 5) [u2]).toArray) y = hp w3 y := fun y hy => (hp_setRow_other hy).trans (ho4 y hy)
  have hs5 : (w4.setRow b (lput (lput c.toList (off + i * 6 + 4) [u1]) (off + i * 6 + 5) [u2]).toArray).heap.size = w3.heap.size := by simp [World.setRow]; exact hs4
  have hos5 : (w4.setRow b (lput (lput c.toList (off + i * 6 + 4) [u1]) (off + i * 6 + 5) [u2]).toArray).os = w3.os ∧ (w4.setRow b (lput (lput c.toList (off + i * 6 + 4) [u1]) (off + i * 6 + 5) [u2]).toArray).tape = w3.tape ∧
    (w4.setRow b (lput (lput c.toList (off + i * 6 + 4) [u1]) (off + i * 6 + 5) [u2]).toArray).output = w3.output := hos4
  generalize w4.setRow b (lput (lput c.toList (off + i * 6 + 4) [u1]) (off + i * 6 + 5) [u2]).toArray = w5 at hst2 hb5 ho5 hs5 hos5
  have f24 : a7.eval (.tmp 24) = u2 := by rw [o7 _ (by decide), o6 _ (by decide), o5 _ (by decide), o4 _ (by decide), y3]
  refine only_hand kcr5_15 (by kernel_rfl) (by simp [Region.wanted]) (op_skip (w' := w5) (by
    simp [execOp, y7, f24, hst2]) ⟨fun x hx hne => (ho5 x hne).trans (h3W x hx), ?_⟩)
  show wpAnyH _ _ _ _ _ _ _ a7 _
  refine wpAnyH_done (by kernel_rfl) (h a7 w2 w3 w5 S2 S3 u1 u2 g1 g2 _ hc2 hc3 k1 k2 n1 n2 b1 b2 ho5 hos5 hs5 hb5 (List.toList_toArray ..) (by omega) (by rw [d7, d6, d5, d4, d3, d2, fd]) (fun t ht => ?_)) _
  rw [← fo t ht]
  simp only [List.mem_cons, List.not_mem_nil, or_false, not_or] at ht
  obtain ⟨q1, q2, q3, q4, q5, q6, q7, q8, q9, q10, q11, q12, q13, q14⟩ := ht
  rw [o7 _ q14, o6 _ q13, o5 _ q12, o4 _ q11, o3 _ q10, o2 _ q7]
end Go.Rf

namespace Go.Rf
open Go.Proofs
set_option maxRecDepth 100000

structure ActI (a : Act) (v : Value) (len i : Nat) : Prop where
  size : a.tmps.size = 31
  defers : a.defers = []
  e3 : a.eval (.tmp 3) = v
  e8 : a.eval (.tmp 8) = v
  e9 : a.eval (.tmp 9) = .int .i64 len
  e10 : a.eval (.tmp 10) = .int .i64 i

theorem x_lss (i n : Int) (w : World) : (binOp .lss 3 (.int .i64 i) (.int .i64 n)).run Tryz.prog w = .ok (.bool (decide (i < n))) w := by kernel_rfl
theorem x_add (i : Int) (w : World) : (binOp .add 3 (.int .i64 i) (.int .i64 1)).run Tryz.prog w = .ok (.int .i64 (IntKind.wrap .i64 (i + 1))) w := by kernel_rfl
theorem x_wrap (i : Nat) (h : i < 4294967296) : IntKind.wrap .i64 ((i : Int) + 1) = ((i + 1 : Nat) : Int) := by
  unfold IntKind.wrap
  simp [IntKind.bits, IntKind.signed]
  omega

def CpJ (S0 : Stab) (w0 : World) (xs : List cpT) (v : Value) (n : Nat) (a : Act) (w : World) : Prop :=
  ∃ i, i + n = xs.length ∧ ActI a v xs.length i ∧ ∃ S b off cap, v = .slice (some ⟨b, off, none⟩) xs.length cap ∧ xs.length ≤ cap ∧ CpI S0 S w0 w xs b off cap i

theorem body_wp {S0 : Stab} {w0 : World} {xs : List cpT} {v : Value} {n : Nat} {a : Act} {w : World} (hlen : xs.length ≤ 4294967296) (hall : ∀ c ∈ xs, c.2.2.2.2.1.length ≤ 4294967296 ∧ c.2.2.2.2.2.1.length ≤ 4294967296) (h : CpJ S0 w0 xs v n a w) {Q : Exit → Act → World → Prop} (hpan : ∀ c a w, ¬ Q (.panic c) a w)
    (hdone : ∀ a' w', ActI a' v xs.length xs.length → CpJ S0 w0 xs v 0 a' w' → Q (.exit 0) a' w') :
    (Code.seq (.region 3 kcr3 false) (.seq (.cond (Operand.tmp 11) .skip (.exit 0)) (.seq (.block 1 (.seq (.region 4 kcr4 false) (.region 5 kcr5 true))) (.region 6 kcr6 false)))).wp Tryz.prog (Exit.then (fun a' w' => ∃ m, m < n ∧ CpJ S0 w0 xs v m a' w') Q) a w := by
  obtain ⟨i, hin, hA, S, b, off, cap, hv, hlc, hC⟩ := h
  have hsz := hA.size
  obtain ⟨a1, q1, s1, d1, v1, o1⟩ := env_one (a := a) (d := 11) (v := .bool (decide ((i : Int) < (xs.length : Int)))) (by omega)
  have hA1 : ActI a1 v xs.length i := ⟨by omega, by rw [d1]; exact hA.defers, by rw [o1 _ (by decide)]; exact hA.e3, by rw [o1 _ (by decide)]; exact hA.e8, by rw [o1 _ (by decide)]; exact hA.e9, by rw [o1 _ (by decide)]; exact hA.e10⟩
  refine wp_seq (wpL_region (J := fun _ => True) ?_)
  rw [kcr3_l]
  refine wpL_v (v := .bool (decide ((i : Int) < (xs.length : Int)))) (w' := w) rfl (by simp [execOp, hA.e9, hA.e10, eqGuard, x_lss]) ?_
  show Exit.then _ _ .normal (a.put (some 11) _) w
  rw [← q1]
  clear q1
  refine wp_seq (wp_cond (t := decide ((i : Int) < (xs.length : Int))) v1 ?_)
  by_cases hi : i < xs.length
  · rw [if_pos (by simp; omega)]
    refine wp_skip ?_
    obtain ⟨c, el, fr, pre, P, Q0, f, hb, hcs, hso, hc, hpre, hP, hrP, hrQ, hnd, hf⟩ := hC.rows
    obtain ⟨x, hx⟩ : ∃ x, xs[i]? = some x := ⟨xs[i], List.getElem?_eq_getElem hi⟩
    have hdrop : xs.drop i = x :: xs.drop (i + 1) := by
      rw [List.drop_eq_getElem_cons hi]
      congr 1
      rw [List.getElem?_eq_getElem hi] at hx
      exact Option.some.inj hx
    rw [hdrop] at hrQ
    obtain ⟨f1, f2, hff, hrow, hrest⟩ := hrQ
    obtain ⟨rfl, rfl⟩ := List.append_eq_nil_iff.1 hff.symm
    obtain ⟨u5, u6, hr, h5, h6⟩ := rep_cpC hrow
    have hQl : 6 ≤ Q0.length := by
      have := congrArg List.length hr
      simp at this; omega
    have hQ : Q0 = [.int .i64 x.1, .string x.2.1, .int .i64 x.2.2.1, .int .i64 x.2.2.2.1, u5, u6] ++ Q0.drop 6 := by
      rw [← hr, List.take_append_drop]
    have hsize : c.size = off + i * 6 + Q0.length := by
      have := congrArg List.length hc
      simp at this; omega
    have hmem : x ∈ xs := List.mem_of_getElem? hx
    obtain ⟨l5, l6⟩ := hall x hmem
    obtain ⟨p5, n5, c5, h5', _⟩ := id h5
    obtain ⟨p6, n6, c6, h6', _⟩ := id h6
    have h5' : u5 = .slice p5 n5 c5 := by simpa using h5'
    have h6' : u6 = .slice p6 n6 c6 := by simpa using h6'
    have hbl : b < w.heap.size := (Array.getElem?_eq_some_iff.1 hb).1
    refine wp_seq (wp_block (wp_seq ?_))
    refine round4 hA1.size hA1.defers (by rw [hA1.e8, hv]) hA1.e10 hi hb (by omega) (v1 := .int .i64 x.1) (v2 := .string x.2.1) (v3 := .int .i64 x.2.2.1) (v4 := .int .i64 x.2.2.2.1) (v5 := u5) (v6 := u6) ?_ rfl rfl rfl rfl (by rw [h5']; rfl) (by rw [h6']; rfl) ?_
    · rw [hc, ← hpre, ← hP, List.drop_append_of_le_length (by simp), show pre.length + P.length = (pre ++ P).length by simp, List.drop_length, List.nil_append]
      exact hr
    intro a2 o2 s2 d2 t5 t4
    show Code.wp _ _ _ a2 _
    have hbW : hp (w.alloc (.cells #[.int .i64 x.1, .string x.2.1, .int .i64 x.2.2.1, .int .i64 x.2.2.2.1, u5, u6] 35)) b = some (.cells c el fr) := by rw [hp_alloc_old hbl]; exact hb
    have hkW : hp (w.alloc (.cells #[.int .i64 x.1, .string x.2.1, .int .i64 x.2.2.1, .int .i64 x.2.2.2.1, u5, u6] 35)) w.heap.size = some (.cells #[.int .i64 x.1, .string x.2.1, .int .i64 x.2.2.1, .int .i64 x.2.2.2.1, u5, u6] 35) := hp_alloc_new
    have hfW : Frm w (w.alloc (.cells #[.int .i64 x.1, .string x.2.1, .int .i64 x.2.2.1, .int .i64 x.2.2.2.1, u5, u6] 35)).drew (Blk.of fun _ => False) := ⟨rfl, rfl, rfl, by simp [World.drew], fun y hy _ => hp_alloc_old hy⟩
    have hszW : (w.alloc (.cells #[.int .i64 x.1, .string x.2.1, .int .i64 x.2.2.1, .int .i64 x.2.2.2.1, u5, u6] 35)).heap.size = w.heap.size + 1 := by simp
    have hoW : ∀ y, y < w.heap.size → hp (w.alloc (.cells #[.int .i64 x.1, .string x.2.1, .int .i64 x.2.2.1, .int .i64 x.2.2.2.1, u5, u6] 35)) y = hp w y := fun y hy => hp_alloc_old hy
    generalize w.alloc (.cells #[.int .i64 x.1, .string x.2.1, .int .i64 x.2.2.1, .int .i64 x.2.2.2.1, u5, u6] 35) = W at hbW hkW hfW hszW hoW ⊢
    have hSW : ∀ m y, S m y → hp W y = hp w y := fun m y hy => hoW y (hC.stab m y hy)
    refine round5 (len := xs.length) s2 d2 (by rw [o2 _ (by decide), hA1.e3, hv]) t4 t5 hi hkW (by omega) hbW hso (by omega) (S := S) (fun m y hy => by have := hC.stab m y hy; omega) hC.kl (glb_of (C := EK.toCx) hSW (fun _ _ h => h) hC.glb) hC.bS (h5.heap hSW (by simp)) (h6.heap hSW (by simp)) l5 l6 ?_ ?_
    · intro cc aa ww hq
      exact hpan _ _ _ hq
    intro a3 w2 w3 w5 S2 S3 u1 u2 g1 g2 c5' hc2 hc3 k1 k2 n1 n2 b1 b2 ho5 hos5 hs5 hb5 hc5 s3 d3 o3
    show Code.wp _ _ _ a3 w5
    have hnext := hC.next hi hb hcs hso hc hpre hP hrP hnd hf hQ rfl hrest hx hfW hc2 hc3 k1 k2 n1 n2 (fun y hy => b1 y hy) b2 ho5 hos5 hs5 hb5 (by
      rw [hc5, hc, hQ]
      have e1 : lput (pre ++ P ++ ([.int .i64 x.1, .string x.2.1, .int .i64 x.2.2.1, .int .i64 x.2.2.2.1, u5, u6] ++ Q0.drop 6)) (off + i * 6 + 4) [u1] = pre ++ P ++ ([.int .i64 x.1, .string x.2.1, .int .i64 x.2.2.1, .int .i64 x.2.2.2.1, u1, u6] ++ Q0.drop 6) := by
        rw [show off + i * 6 + 4 = (pre ++ P).length + 4 by simp [hpre, hP], put_append_right, put_append_left (by simp)]
        rfl
      have e2 : lput (pre ++ P ++ ([.int .i64 x.1, .string x.2.1, .int .i64 x.2.2.1, .int .i64 x.2.2.2.1, u1, u6] ++ Q0.drop 6)) (off + i * 6 + 5) [u2] = pre ++ P ++ ([.int .i64 x.1, .string x.2.1, .int .i64 x.2.2.1, .int .i64 x.2.2.2.1, u1, u2] ++ Q0.drop 6) := by
        rw [show off + i * 6 + 5 = (pre ++ P).length + 5 by simp [hpre, hP], put_append_right, put_append_left (by simp)]
        rfl
      rw [e1, e2]; simp)
    have t10 : a3.eval (.tmp 10) = .int .i64 i := by rw [o3 _ (by decide), o2 _ (by decide), hA1.e10]
    obtain ⟨a4, e4, s4, d4, v4, o4⟩ := env_one (a := a3) (d := 29) (v := .int .i64 ((i + 1 : Nat) : Int)) (by omega)
    obtain ⟨a5, e5, s5, d5, v5, o5⟩ := env_one (a := a4) (d := 10) (v := .int .i64 ((i + 1 : Nat) : Int)) (by omega)
    refine wpL_region (J := fun _ => True) ?_
    rw [kcr6_l]
    refine wpL_v (v := .int .i64 ((i + 1 : Nat) : Int)) (w' := w5) rfl (by
      have h1 := x_add i w5
      rw [x_wrap i (by omega)] at h1
      have ec : a3.eval (.const (.int .i64 1)) = .int .i64 1 := rfl
      simp only [execOp, t10, ec]
      simp [eqGuard, h1]) ?_
    show wpL _ _ _ _ _ _ (a3.put (some 29) _) w5
    rw [← e4]
    refine wpL_v (v := .int .i64 ((i + 1 : Nat) : Int)) (w' := w5) rfl (by simp only [execOp, v4]; simp) ?_
    show Exit.then _ _ .normal (a4.put (some 10) _) w5
    rw [← e5]
    have out : ∀ t, t ≠ 10 → t ≠ 29 → t ∉ [15, 16, 17, 18, 19, 20, 21, 22, 23, 24, 25, 26, 27, 28] → t ∉ [12, 13, 14, 5, 4] → a5.eval (.tmp t) = a1.eval (.tmp t) := fun t q1 q2 q3 q4 => by rw [o5 _ q1, o4 _ q2, o3 _ q3, o2 _ q4]
    exact ⟨n - 1, by omega, i + 1, by omega, ⟨by omega, by rw [d5, d4, d3], by rw [out _ (by decide) (by decide) (by decide) (by decide)]; exact hA1.e3, by rw [out _ (by decide) (by decide) (by decide) (by decide)]; exact hA1.e8, by rw [out _ (by decide) (by decide) (by decide) (by decide)]; exact hA1.e9, v5⟩, S3, b, off, cap, hv, hlc, hnext⟩
  · rw [if_neg (by simp; omega)]
    refine wp_exit ?_
    have hie : i = xs.length := by omega
    subst hie
    exact hdone a1 w hA1 ⟨xs.length, by omega, hA1, S, b, off, cap, hv, hlc, hC⟩
end Go.Rf

namespace Go.Rf
open Go.Proofs
set_option maxRecDepth 100000

theorem x_len (p : Option Addr) (l c : Nat) (w : World) : (builtin .len #[24] 3 #[false] #[.slice p l c]).run Tryz.prog w = .ok (.value (.int .i64 l)) w := by kernel_rfl

theorem copied {S0 S : Stab} {w0 w : World} {xs : List cpT} {u : Value} {g : List Nat} (hfrm : Frm w0 w (Blk.of fun _ => False)) (hnk : ∀ x, S .keep x → S0 .keep x ∨ w0.heap.size ≤ x) (hstab : ∀ m x, S m x → x < w.heap.size) (hr : Rep S (hp w) (.sl .own cpO) [u] xs g) (hnd : g.Nodup) (hg : ∀ y ∈ g, y < w.heap.size ∧ w0.heap.size ≤ y ∧ ∀ m, ¬ S m y) :
    ∃ rv T g', Ending.returned u = .returned (retVal rv) ∧ Frm w0 w (Blk.of fun b => b ∈ ([] : List Nat)) ∧ ArgsRel (fun _ => T) (hp w) [.sl .own cpO] rv (xs, ()) g' ∧
      (∀ b, T b → b < w.heap.size ∧ (S0 .keep b ∨ w0.heap.size ≤ b ∨ b ∈ ([] : List Nat))) ∧ g'.Nodup ∧ (∀ b ∈ g', b < w.heap.size ∧ ¬ T b ∧ (w0.heap.size ≤ b ∨ b ∈ ([] : List Nat))) := by
  refine ⟨[u], fun b => S .keep b, g, rfl, ⟨hfrm.os, hfrm.tape, hfrm.output, hfrm.size, fun b hb _ => hfrm.block b hb (by intro h; cases h)⟩, ⟨[u], g, [], rfl, hr.keep (fun _ h => h) (by rfl), by simp, rfl⟩, fun b hb => ⟨hstab _ b hb, ?_⟩, hnd, fun b hb => ⟨(hg b hb).1, (hg b hb).2.2 _, .inl (hg b hb).2.1⟩⟩
  rcases hnk b hb with h | h
  · exact .inl h
  · exact .inr (.inl h)

theorem c_i_copyHeap (N : Nat) : Ctr Tryz.prog Vp 54 ⟨[.sl .lend cpC], [.sl .own cpO], i_copyHeap N⟩ := by
  refine ⟨enters_of Tryz.func54 kcbody (by kernel_rfl), ?_⟩
  intro w S args vals fp r hstab hkl hglb ha hnd hfp hF
  obtain ⟨xs, ⟨⟩⟩ := args
  match vals, ha with
  | [v], ⟨ws, f1, f2, e, hr, hfp', hnil⟩ =>
  have hf1 := hr.plain rfl
  subst hf1
  have hnil : f2 = [] := hnil
  subst hnil
  subst hfp'
  unfold i_copyHeap at hF
  simp only at hF
  split at hF
  rotate_left
  · cases hF
  rename_i hg
  cases hF
  obtain ⟨hlen, hall⟩ := hg
  have hall : ∀ c ∈ xs, c.2.2.2.2.1.length ≤ 4294967296 ∧ c.2.2.2.2.2.1.length ≤ 4294967296 := fun c hc => by
    have := List.all_eq_true.1 hall c hc
    simpa using this
  obtain ⟨p0, n0, c0, hws, _⟩ := id hr
  have hv : v = .slice p0 n0 c0 := by rw [e, hws]; rfl
  rw [hws, ← hv] at hr
  clear e hws
  refine calls_of_wp Tryz.func54 kcbody ?_
  have hn : Tryz.f54.ntmps = 31 := by kernel_rfl
  rw [hn, kccode_eq]
  obtain ⟨a0, ha0, k0, ks, kd⟩ : ∃ a0 : Act, a0 = ⟨[v].toArray ++ Array.replicate (31 - [v].toArray.size) undef, []⟩ ∧ a0.eval (.tmp 0) = v ∧ a0.tmps.size = 31 ∧ a0.defers = [] := by
    refine ⟨_, rfl, ?_, ?_, rfl⟩
    · simp [Act.eval, Array.getD_eq_getD_getElem?]
    · simp
  rw [← ha0]
  clear ha0
  have hfin : ∀ (a' : Act) (w' : World) (u : Value) (S' : Stab) (g : List Nat), a'.tmps.size = 31 → a'.defers = [] → a'.eval (.tmp 3) = u → Frm w w' (Blk.of fun _ => False) → (∀ x, S' .keep x → S .keep x ∨ w.heap.size ≤ x) → (∀ m x, S' m x → x < w'.heap.size) → Rep S' (hp w') (.sl .own cpO) [u] xs g → g.Nodup → (∀ y ∈ g, y < w'.heap.size ∧ w.heap.size ≤ y ∧ ∀ m, ¬ S' m y) →
      (Code.seq (.region 7 kcr7 false) .ret).wp Tryz.prog (bodyPost Tryz.prog Tryz.f54 (fun e w' => ∃ rv T g, e = .returned (retVal rv) ∧ Frm w w' (Blk.of fun b => b ∈ ([] : List Nat)) ∧ ArgsRel (fun _ => T) (hp w') [.sl .own cpO] rv (xs, ()) g ∧
        (∀ b, T b → b < w'.heap.size ∧ (S .keep b ∨ w.heap.size ≤ b ∨ b ∈ ([] : List Nat))) ∧ g.Nodup ∧ (∀ b ∈ g, b < w'.heap.size ∧ ¬ T b ∧ (w.heap.size ≤ b ∨ b ∈ ([] : List Nat))))) a' w' := by
    intro a' w' u S' g hs hd h3 hfr hnk hst hre hgn hgb
    refine wp_seq (wpL_region (J := fun _ => True) ?_)
    rw [kcr7_l]
    obtain ⟨a1, e1, s1, d1, v1, o1⟩ := env_one (a := a') (d := 30) (v := u) (by omega)
    obtain ⟨a2, e2, s2, d2, v2, o2⟩ := env_one (a := a1) (d := 2) (v := u) (by omega)
    refine wpL_v (v := u) (w' := w') rfl (by simp only [execOp, h3]; simp) ?_
    show wpL _ _ _ _ _ _ (a'.put (some 30) u) w'
    rw [← e1]
    refine wpL_v (v := u) (w' := w') rfl (by simp only [execOp, v1]; simp) ?_
    show Exit.then _ _ .normal (a1.put (some 2) u) w'
    rw [← e2]
    refine wp_ret ?_
    have er : Tryz.f54.results = #[.tmp 2] := by kernel_rfl
    have v2 : a2.tmps.getD 2 undef = u := v2
    refine ⟨by rw [d2, d1]; exact hd, u, ?_, copied hfr hnk hst hre hgn hgb⟩
    rw [Array.getD_eq_getD_getElem?] at v2
    simp [results, er, v2]
  -- regions 0 and 1
  obtain ⟨a1, e1, s1, d1, v1, o1⟩ := env_one (a := a0) (d := 2) (v := .slice none 0 0) (by omega)
  obtain ⟨a2, e2, s2, d2, v2, o2⟩ := env_one (a := a1) (d := 6) (v := v) (by omega)
  refine wp_seq (wpL_region (J := fun _ => True) ?_)
  rw [kcr0_l]
  refine wpL_v (v := .slice none 0 0) (w' := w) rfl (by simp [execOp]; rfl) ?_
  show Exit.then _ _ .normal (a0.put (some 2) _) w
  rw [← e1]
  refine wp_seq (wpL_region (J := fun _ => True) ?_)
  rw [kcr1_l]
  refine wpL_v (v := v) (w' := w) rfl (by simp only [execOp, o1 0 (by decide), k0]; simp) ?_
  show wpL _ _ _ _ _ _ (a1.put (some 6) v) w
  rw [← e2]
  refine wpL_op rfl (call_wp ent110 (vals := #[v]) (by simp [v2]) (clone_cells hstab hkl hglb hr hlen) ?_)
  rintro e w1 ⟨S1, u, g, rfl, hc1, hr1, hg1, hb1⟩
  refine ⟨u, rfl, ?_⟩
  obtain ⟨a3, e3, s3, d3, v3, o3⟩ := env_one (a := a2) (d := 7) (v := u) (by omega)
  rw [← e3]
  obtain ⟨a4, e4, s4, d4, v4, o4⟩ := env_one (a := a3) (d := 3) (v := u) (by omega)
  refine wpL_v (v := u) (w' := w1) rfl (by simp only [execOp, v3]; simp) ?_
  show Exit.then _ _ .normal (a3.put (some 3) u) w1
  rw [← e4]
  -- region 2
  obtain ⟨p1, n1, c1, hu, hl1, hlc1, _⟩ := id hr1
  have hu : u = .slice p1 xs.length c1 := by rw [← hl1]; simpa using hu
  obtain ⟨a5, e5, s5, d5, v5, o5⟩ := env_one (a := a4) (d := 8) (v := u) (by omega)
  obtain ⟨a6, e6, s6, d6, v6, o6⟩ := env_one (a := a5) (d := 9) (v := .int .i64 (xs.length : Int)) (by omega)
  obtain ⟨a7, e7, s7, d7, v7, o7⟩ := env_one (a := a6) (d := 10) (v := .int .i64 ((0 : Nat) : Int)) (by omega)
  refine wp_seq (wp_seq (wpL_region (J := fun _ => True) ?_))
  rw [kcr2_l]
  refine wpL_v (v := u) (w' := w1) rfl (by simp only [execOp, v4]; simp) ?_
  show wpL _ _ _ _ _ _ (a4.put (some 8) u) w1
  rw [← e5]
  refine wpL_v (v := .int .i64 (xs.length : Int)) (w' := w1) rfl (by
    have := x_len p1 xs.length c1 w1
    rw [← hu] at this
    simp [execOp, resolve, invoke, v5]
    exact this) ?_
  show wpL _ _ _ _ _ _ (a5.put (some 9) _) w1
  rw [← e6]
  refine wpL_v (v := .int .i64 ((0 : Nat) : Int)) (w' := w1) rfl (by simp [execOp]; rfl) ?_
  show Exit.then _ _ .normal (a6.put (some 10) _) w1
  rw [← e7]
  have hA : ActI a7 u xs.length 0 := ⟨by omega, by rw [d7, d6, d5, d4, d3, d2, d1]; exact kd, by rw [o7 _ (by decide), o6 _ (by decide), o5 _ (by decide), v4], by rw [o7 _ (by decide), o6 _ (by decide), v5], by rw [o7 _ (by decide), v6], v7⟩
  clear e1 e2 e3 e4 e5 e6 e7
  rcases CpI.init hc1 hr1 (fun y hy => hb1 y hy) with ⟨p, cp, hu', hx⟩ | ⟨b, off, cap, hu', hlc, hC⟩
  · subst hx
    refine wp_block (wp_loop_n (fun n a' w' => n = 0 ∧ ActI a' u 0 0 ∧ w' = w1) (n := 0) ⟨rfl, hA, rfl⟩ ?_)
    rintro n a' w' ⟨rfl, hA', rfl⟩
    obtain ⟨a8, e8, s8, d8, v8, o8⟩ := env_one (a := a') (d := 11) (v := .bool false) (by have := hA'.size; omega)
    refine wp_seq (wpL_region (J := fun _ => True) ?_)
    rw [kcr3_l]
    refine wpL_v (v := .bool false) (w' := w') rfl (by
      have h1 := x_lss 0 0 w'
      have h9 := hA'.e9
      have h10 := hA'.e10
      simp only [execOp, h9, h10]
      simp at h1
      simp [eqGuard, h1]) ?_
    show Exit.then _ _ .normal (a'.put (some 11) _) w'
    rw [← e8]
    refine wp_seq (wp_cond (t := false) v8 ?_)
    rw [if_neg (by simp)]
    refine wp_exit ?_
    refine hfin a8 w' u S1 g (by have := hA'.size; omega) (by rw [d8]; exact hA'.defers) (by rw [o8 _ (by decide)]; exact hA'.e3) hc1.frm hc1.newk hc1.stab ?_ hg1 (fun y hy => hb1 y hy)
    obtain ⟨a, len, cap, q1, q2, q3, q4⟩ := hr1
    refine ⟨a, len, cap, q1, q2, q3, ?_⟩
    rcases q4 with q4 | ⟨b, off, cc, el, fr, f2, r1, r2, r3, r4, r5⟩
    · exact .inl q4
    · exact .inr ⟨b, off, cc, el, fr, f2, r1, r2, r3, r4, r5⟩
  · refine wp_block (wp_loop_n (CpJ S w xs u) (n := xs.length) ⟨0, by omega, hA, S1, b, off, cap, hu', hlc, hC⟩ ?_)
    intro n a' w' hJ
    refine body_wp hlen hall hJ (fun c a w h => ?_) ?_
    · exact absurd h.2 (by rintro ⟨rv, T, g, h, _⟩; cases h)
    intro a8 w8 hA8 hJ8
    obtain ⟨i, hi0, hA8', S2, b2, off2, cap2, hu2, hlc2, hC2⟩ := hJ8
    have hi : i = xs.length := by omega
    subst hi
    obtain ⟨g2, hr2, hn2, hb2⟩ := hC2.fin hlc2
    rw [← hu2] at hr2
    exact hfin a8 w8 u S2 g2 hA8.size hA8.defers hA8.e3 hC2.frm hC2.newk hC2.stab hr2 hn2 hb2
end Go.Rf
