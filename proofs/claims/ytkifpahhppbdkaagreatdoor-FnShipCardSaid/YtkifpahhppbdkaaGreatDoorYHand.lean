/-
  The program's comparison of two values, which remembers in a map what it found alike, returns what a plain comparison returns; the law's function does what its plain function says.
-/
import Derived.Test.YtkifpahhppbdkaaGreatDoorYCon
import Derived.Test.YtkifpahhppbdkaaGreatDoorYRfH
import Derived.Test.YtkifpahhppbdkaaGreatDoorYNat
import Derived.Deep.WholeRow
import Derived.Test.YtkifpahhppbdkaaGreatDoorYConB
set_option linter.unusedSimpArgs false
set_option linter.unusedVariables false
set_option autoImplicit false
namespace Go.Rf
open Go.Proofs
set_option maxRecDepth 100000

/-! ## The operations of (*pairing).same that touch the pairing, its map and a key -/
variable {w : World}

theorem s_zero94 : (∀ w, (zeroValue 149).run Tryz.prog w = .ok (.agg #[.int .i64 0, .int .i64 0]) w) ∧ (Tryz.prog.info? 149).map (·.size) = some 2 := zero_of_info (by kernel_rfl)

theorem s_build (i j : Int) (w : World) : (Instr.build 149 #[(0, .int .i64 i), (1, .int .i64 j)]).run Tryz.prog w = .ok (.agg #[.int .i64 i, .int .i64 j]) w := by kernel_rfl

theorem s_alloc (w : World) : (Instr.alloc 149 true (.tuple #[])).run Tryz.prog w = .ok (.pointer (some ⟨w.heap.size, 0, none⟩)) (w.alloc (.cells #[.int .i64 0, .int .i64 0] 149)) := by
  simp [Instr.alloc, newVar, newRow, s_zero94.1, Value.cells]

theorem s_store (i j : Int) (w : World) : (Instr.storeAt 149 (.pointer (some ⟨w.heap.size, 0, none⟩)) (.agg #[.int .i64 i, .int .i64 j])).run Tryz.prog (w.alloc (.cells #[.int .i64 0, .int .i64 0] 149)) = .ok () (w.alloc (.cells #[.int .i64 i, .int .i64 j] 149)) :=
  run_storeAt_new w 149 _ _ s_zero94.2 rfl (by simp [Value.oneCell'])

theorem s_isAgg94 (w : World) : (isAgg 149).run Tryz.prog w = .ok true w := by kernel_rfl
theorem s_isAgg67 (w : World) : (isAgg 94).run Tryz.prog w = .ok false w := by kernel_rfl
theorem s_size94 (w : World) : (sizeOf 149).run Tryz.prog w = .ok 2 w := by kernel_rfl
theorem s_size67 (w : World) : (sizeOf 94).run Tryz.prog w = .ok 1 w := by kernel_rfl

theorem s_load94 {k : Nat} {i j : Int} {w : World} (hk : hp w k = some (.cells #[.int .i64 i, .int .i64 j] 149)) : (Instr.loadAt 149 (.pointer (some ⟨k, 0, none⟩))).run Tryz.prog w = .ok (.agg #[.int .i64 i, .int .i64 j]) w := by
  have h := run_loadCells_at (P := Tryz.prog) (off := 0) (n := 2) hk (by simp)
  simp [Instr.loadAt, Instr.sureAddr, loadVar, s_isAgg94, s_size94, h]

theorem s_load67 {bp m el : Nat} {hv gv : Value} {w : World} (hb : hp w bp = some (.cells #[hv, gv, .map (some m)] el)) : (Instr.loadAt 94 (.pointer (some ⟨bp, 2, none⟩))).run Tryz.prog w = .ok (.map (some m)) w := by
  simp [Instr.loadAt, Instr.sureAddr, loadVar, s_isAgg67, run_load, cell_hp hb]

theorem s_field (bp : Nat) (w : World) : (Instr.fieldAt 96 (.pointer (some ⟨bp, 0, none⟩)) 2).run Tryz.prog w = .ok (.pointer (some ⟨bp, 2, none⟩)) w := by kernel_rfl

theorem s_zero3 (w : World) : (zeroValue 3).run Tryz.prog w = .ok (.int .i64 0) w := by kernel_rfl
theorem s_gtr (c : Int) (w : World) : (binOp .gtr 3 (.int .i64 c) (.int .i64 0)).run Tryz.prog w = .ok (.bool (decide (c > 0))) w := by kernel_rfl
noncomputable def tabQ : Nat → Option Ty := look [(3, (.int .i64)), (4, .bool), (5, (.int .u8)), (9, .str), (22, (.sl .own (.int .u8))), (24, (.sl .own (.pair (.int .i64) (.pair .str (.pair (.int .i64) (.pair (.int .i64) (.pair (.sl .own .str) (.pair (.sl .own (.pair (.int .i64) (.pair (.int .i64) (.pair .str .unit)))) .unit)))))))), (26, (.pair (.int .i64) (.pair (.int .i64) (.pair .str .unit)))), (32, (.sl .own .str)), (33, (.sl .own (.pair (.int .i64) (.pair (.int .i64) (.pair .str .unit))))), (35, (.pair (.int .i64) (.pair .str (.pair (.int .i64) (.pair (.int .i64) (.pair (.sl .own .str) (.pair (.sl .own (.pair (.int .i64) (.pair (.int .i64) (.pair .str .unit)))) .unit))))))), (39, (.sl .own (.pair (.int .i64) (.pair .str (.pair (.int .i64) (.pair (.int .i64) (.pair (.sl .own .str) (.pair (.sl .own (.pair (.int .i64) (.pair (.int .i64) (.pair .str .unit)))) .unit)))))))), (40, (.pair (.int .i64) (.pair (.int .i64) (.pair .str .unit)))), (97, (.sl .own (.int .i64))), (100, (.sl .own (.pair (.int .i64) (.pair (.int .i64) (.pair .str .unit))))), (102, (.pair (.int .i64) (.pair .str (.pair (.int .i64) (.pair (.int .i64) (.pair (.sl .own .str) (.pair (.sl .own (.pair (.int .i64) (.pair (.int .i64) (.pair .str .unit)))) .unit))))))), (131, (.pair (.sl .own (.int .u8)) (.pair (.int .i64) (.pair (.int .i64) .unit)))), (146, (.sl .own .bool)), (94, .dead), (96, (.pair (.sl .own (.pair (.int .i64) (.pair .str (.pair (.int .i64) (.pair (.int .i64) (.pair (.sl .own .str) (.pair (.sl .own (.pair (.int .i64) (.pair (.int .i64) (.pair .str .unit)))) .unit))))))) (.pair (.sl .own (.pair (.int .i64) (.pair .str (.pair (.int .i64) (.pair (.int .i64) (.pair (.sl .own .str) (.pair (.sl .own (.pair (.int .i64) (.pair (.int .i64) (.pair .str .unit)))) .unit))))))) (.pair .dead .unit))))]
theorem tabQ_ok : TabOK Tryz.prog tabQ := by
  refine look_all (Q := fun t s => RowOK Tryz.prog tabQ t s) _ ?_
  intro p hp
  simp only [List.mem_cons, List.not_mem_nil, or_false] at hp
  rcases hp with rfl | rfl | rfl | rfl | rfl | rfl | rfl | rfl | rfl | rfl | rfl | rfl | rfl | rfl | rfl | rfl | rfl | rfl | rfl
  · exact rowOK_of (by kernel_rfl) (by kernel_rfl) (by kernel_rfl)
  · exact rowOK_of (by kernel_rfl) (by kernel_rfl) (by kernel_rfl)
  · exact rowOK_of (by kernel_rfl) (by kernel_rfl) (by kernel_rfl)
  · exact rowOK_of (by kernel_rfl) (by kernel_rfl) (by kernel_rfl)
  · exact rowOK_of (by kernel_rfl) (by kernel_rfl) (by kernel_rfl)
  · exact rowOK_of (by kernel_rfl) (by kernel_rfl) (by kernel_rfl)
  · exact rowOK_of (by kernel_rfl) (by kernel_rfl) (by kernel_rfl)
  · exact rowOK_of (by kernel_rfl) (by kernel_rfl) (by kernel_rfl)
  · exact rowOK_of (by kernel_rfl) (by kernel_rfl) (by kernel_rfl)
  · exact rowOK_of (by kernel_rfl) (by kernel_rfl) (by kernel_rfl)
  · exact rowOK_of (by kernel_rfl) (by kernel_rfl) (by kernel_rfl)
  · exact rowOK_of (by kernel_rfl) (by kernel_rfl) (by kernel_rfl)
  · exact rowOK_of (by kernel_rfl) (by kernel_rfl) (by kernel_rfl)
  · exact rowOK_of (by kernel_rfl) (by kernel_rfl) (by kernel_rfl)
  · exact rowOK_of (by kernel_rfl) (by kernel_rfl) (by kernel_rfl)
  · exact rowOK_of (by kernel_rfl) (by kernel_rfl) (by kernel_rfl)
  · exact rowOK_of (by kernel_rfl) (by kernel_rfl) (by kernel_rfl)
  · exact rowOK_of (by kernel_rfl) (by kernel_rfl) (by kernel_rfl)
  · exact rowOK_of (by kernel_rfl) (by kernel_rfl) (by kernel_rfl)
end Go.Rf

namespace Go.Rf
open Go.Proofs
set_option maxRecDepth 100000

abbrev VTy : Ty := .pair (.int .i64) (.pair (.int .i64) (.pair .str .unit))
abbrev CTy : Ty := .pair (.int .i64) (.pair .str (.pair (.int .i64) (.pair (.int .i64) (.pair (.sl .lend .str) (.pair (.sl .lend VTy) .unit)))))
abbrev HTy : Ty := .sl .lend CTy
abbrev PTy : Ty := .pair HTy (.pair HTy (.pair .dead .unit))

noncomputable def cS : Code := (Tryz.f61.body).getD .skip
noncomputable def EQ : Cz := { tab := tabQ, n := 98, V := Vp, ann := look [], fn := look [], fx := look [] }
def AQ : An := { join := look [], loop := look [], ret := [] }
def SL1 : List Slot := [⟨4, .box false, VTy⟩, ⟨5, .box false, VTy⟩]
def SL2 : List Slot := [⟨8, .val, .sl .lend VTy⟩, ⟨9, .val, .sl .lend VTy⟩]

theorem EQ_ok : EnvOK Tryz.prog EQ := ⟨tabQ_ok, (fun _ _ h => by cases h), (fun _ _ h => by cases h)⟩

def st0 (h g : HT) (a b : WT) : St := (((mkSt [] () junkT).put (some 0) (.a (.sptr PTy (h, g, (), ())))).put (some 1) (.a (.v VTy a))).put (some 2) (.a (.v VTy b))
def st1 (h g : HT) (a b : WT) : St := (mkSt SL1 (a, b, ()) junkT).put (some 0) (.a (.sptr PTy (h, g, (), ())))

def KF (e : Ex) (st : St) : Option (Bool ⊕ LD (tys SL1)) :=
  match e with
  | .ret => (match st.tmps 6 with
    | .a (.v .bool r) => some (.inl r)
    | _ => none)
  | .norm => (slots 98 st SL1).bind fun x => some (.inr x)
  | .exit _ => none

theorem pre_eq (h g : HT) (a b : WT) : evalK EQ AQ 0 (.seq (cl cS) (.seq (cl (cr cS)) (cl (cr (cr cS))))) (st0 h g a b) KF =
    (if (!decide (a.1 = b.1)) = true then some (.inl false) else
      (if decide (a.1 = 6) = true then
        (if decide (a.1 = 6) = true then (if decide (a.2.1 = b.2.1) = true then some (.inl (decide ((h.length : Int) = (g.length : Int)))) else some (.inl false))
         else (if decide (a.1 = 5) = true then some (.inr (a, b, ())) else some (.inl (eqD VTy a b))))
       else
        (if decide (a.1 = 7) = true then (if decide (a.2.1 = b.2.1) = true then some (.inl (decide ((h.length : Int) = (g.length : Int)))) else some (.inl false))
         else (if decide (a.1 = 5) = true then some (.inr (a, b, ())) else some (.inl (eqD VTy a b)))))) := by kernel_rfl

noncomputable def c9 : Code := cl (cr (cr (cr cS)))
noncomputable def c10 : Code := cl (cr (cr (cr (cr cS))))
noncomputable def c12 : Code := cr (cr (cr (cr (cr cS))))
noncomputable def o9 : Array Oper := opsOf c9
noncomputable def o10 : Array Oper := opsOf (cl c10)
noncomputable def o12 : Array Oper := opsOf (cl c12)
noncomputable def o13 : Array Oper := opsOf (cl (cl (cr c12)))
noncomputable def o15 : Array Oper := opsOf (cl (cr (cr c12)))
def fulL (n : Nat) : Array Bool := Array.replicate n true

theorem r12_eq (h g : HT) (a b : WT) : thinkK EQ o12 (List.range 20) (Array.replicate 20 false) (st1 h g a b) (fun L st => (slots 98 st SL2).bind fun x => some (L.toList, x)) =
    (if inB a.2.1 (List.length h) then (if inB b.2.1 (List.length g) then some (List.replicate 20 true, valsI h a.2.1, valsI g b.2.1, ()) else none) else none) := by kernel_rfl

def st2 (x y : List WT) : St := mkSt SL2 (x, y, ()) junkT
def SL3 : List Slot := [⟨76, .val, VTy⟩, ⟨79, .val, VTy⟩, ⟨8, .val, .sl .lend VTy⟩, ⟨9, .val, .sl .lend VTy⟩]
def SL4 : List Slot := [⟨86, .val, VTy⟩, ⟨89, .val, VTy⟩, ⟨82, .val, .bool⟩]
def L13 (n : Nat) : Array Bool := (List.replicate n true ++ List.replicate (20 - n) false).toArray

theorem r13a_eq (x y : List WT) : thinkK EQ o13 [1, 2, 3, 4, 5, 6] ((Array.replicate 20 false).setIfInBounds 0 true) (st2 x y) (fun L st => (slots 98 st SL3).bind fun z => some (L.toList, z)) =
    (if inB 0 (List.length x) then (if inB 0 (List.length y) then some ((L13 7).toList, x.getD 0 (0, 0, ByteArray.empty, ()), y.getD 0 (0, 0, ByteArray.empty, ()), x, y, ()) else none) else none) := by kernel_rfl

def st3 (p q : WT) (x y : List WT) (r : Bool) : St := (mkSt SL3 (p, q, x, y, ()) junkT).put (some 80) (.a (.v .bool r))
def SL5 : List Slot := [⟨8, .val, .sl .lend VTy⟩, ⟨9, .val, .sl .lend VTy⟩, ⟨82, .val, .bool⟩]
theorem r13b_eq (p q : WT) (x y : List WT) (r : Bool) : thinkK EQ o13 [8, 9] (L13 8) (st3 p q x y r) (fun L st => (slots 98 st SL5).bind fun z => some (L.toList, z)) = some ((L13 10).toList, x, y, !r, ()) := by kernel_rfl
def st4 (x y : List WT) (r : Bool) : St := mkSt SL5 (x, y, r, ()) junkT
theorem r13c_eq (x y : List WT) : thinkK EQ o13 [11, 12, 13, 14, 15, 16] ((L13 10).setIfInBounds 10 true) (st4 x y false) (fun L st => (slots 98 st SL4).bind fun z => some (L.toList, z)) =
    (if inB 1 (List.length x) then (if inB 1 (List.length y) then some ((L13 17).toList, x.getD 1 (0, 0, ByteArray.empty, ()), y.getD 1 (0, 0, ByteArray.empty, ()), false, ()) else none) else none) := by kernel_rfl
def st5 (p q : WT) (r : Bool) : St := (mkSt SL4 (p, q, false, ()) junkT).put (some 90) (.a (.v .bool r))
def SL6 : List Slot := [⟨92, .val, .bool⟩]
theorem r13d_eq (p q : WT) (r : Bool) : thinkK EQ o13 [18, 19] (L13 18) (st5 p q r) (fun L st => (slots 98 st SL6).bind fun z => some (L.toList, z)) = some ((L13 20).toList, !r, ()) := by kernel_rfl
def SL7 : List Slot := [⟨82, .val, .bool⟩]
theorem r13e_eq (x y : List WT) : thinkK EQ o13 [10, 11, 12, 13, 14, 15, 16] (L13 10) (st4 x y true) (fun L st => (slots 98 st SL7).bind fun z => some (L.toList, z)) = some ((L13 17).toList, true, ()) := by kernel_rfl
theorem r13f_eq : thinkK EQ o13 [18, 19] (L13 18) (mkSt SL7 (true, ()) junkT) (fun L st => (slots 98 st SL6).bind fun z => some (L.toList, z)) = some ((L13 20).toList, true, ()) := by kernel_rfl
theorem r9_eq (h g : HT) (a b : WT) : opsK EQ o9 14 [] (o9.toList.take 4) (st1 h g a b) (fun st => match st.tmps 44, st.tmps 46 with
    | .a (.v (.int .i64) i), .a (.v (.int .i64) j) => (slots 98 st SL1).bind fun x => some (i, j, x)
    | _, _ => none) = some (a.2.1, b.2.1, a, b, ()) := by kernel_rfl
theorem o10_size : o10.size = 7 := by kernel_rfl
theorem o12_size : o12.size = 20 := by kernel_rfl
theorem o13_size : o13.size = 20 := by kernel_rfl
theorem o15_size : o15.size = 6 := by kernel_rfl
end Go.Rf

namespace Go.Rf
open Go.Proofs
set_option maxRecDepth 100000
theorem o9_l : o9.toList = [(Oper.mk (some 43) (Op.fieldAddr 26 (Operand.tmp 4) 1) 0 "l30_ship.go:22" #[] none),
  (Oper.mk (some 44) (Op.load 3 (Operand.tmp 43)) 3 "l30_ship.go:22" #[(Edge.mk 0 Ground.data)] none),
  (Oper.mk (some 45) (Op.fieldAddr 26 (Operand.tmp 5) 1) 0 "l30_ship.go:22" #[] none),
  (Oper.mk (some 46) (Op.load 3 (Operand.tmp 45)) 3 "l30_ship.go:22" #[(Edge.mk 2 Ground.data)] none),
  (Oper.mk (some 47) (Op.build 149 #[(0, (Operand.tmp 44)), (1, (Operand.tmp 46))]) 149 "l30_ship.go:22" #[(Edge.mk 1 Ground.data), (Edge.mk 3 Ground.data)] none),
  (Oper.mk (some 7) (Op.alloc 149) 0 "l30_ship.go:22" #[] none),
  (Oper.mk none (Op.store 149 (Operand.tmp 7) (Operand.tmp 47)) 0 "l30_ship.go:22" #[(Edge.mk 5 Ground.data), (Edge.mk 4 Ground.data), (Edge.mk 0 Ground.phase), (Edge.mk 1 Ground.phase), (Edge.mk 2 Ground.phase), (Edge.mk 3 Ground.phase), (Edge.mk 4 Ground.phase), (Edge.mk 5 Ground.phase)] none)] := by kernel_rfl
theorem o10_0 : o10[0]? = some (Oper.mk (some 48) (Op.move (Operand.tmp 0)) 148 "l30_ship.go:23" #[] none) := by kernel_rfl
theorem o10_1 : o10[1]? = some (Oper.mk (some 49) (Op.nilCheck (Operand.tmp 48)) 0 "l30_ship.go:23" #[(Edge.mk 0 Ground.data)] none) := by kernel_rfl
theorem o10_2 : o10[2]? = some (Oper.mk (some 50) (Op.fieldAddr 96 (Operand.tmp 49) 2) 0 "l30_ship.go:23" #[(Edge.mk 1 Ground.data)] none) := by kernel_rfl
theorem o10_3 : o10[3]? = some (Oper.mk (some 51) (Op.load 94 (Operand.tmp 50)) 94 "l30_ship.go:23" #[(Edge.mk 2 Ground.data)] none) := by kernel_rfl
theorem o10_4 : o10[4]? = some (Oper.mk (some 52) (Op.load 149 (Operand.tmp 7)) 149 "l30_ship.go:23" #[] none) := by kernel_rfl
theorem o10_5 : o10[5]? = some (Oper.mk (some 53) (Op.lookup 94 (Operand.tmp 51) (Operand.tmp 52) false) 3 "l30_ship.go:23" #[(Edge.mk 3 Ground.data), (Edge.mk 4 Ground.data)] none) := by kernel_rfl
theorem o10_6 : o10[6]? = some (Oper.mk (some 54) (Op.binOp BinOp.gtr 3 (Operand.tmp 53) (Operand.const (Value.int IntKind.i64 0)) 3) 4 "l30_ship.go:23" #[(Edge.mk 5 Ground.data)] none) := by kernel_rfl
theorem o13_0 : o13[0]? = some (Oper.mk (some 73) (Op.move (Operand.tmp 0)) 148 "l30_ship.go:27" #[] none) := by kernel_rfl
theorem o13_7 : o13[7]? = some (Oper.mk (some 80) (Op.call (Call.mk (Callee.value (Operand.func 61)) #[(Operand.tmp 73), (Operand.tmp 76), (Operand.tmp 79)] #[148, 26, 26])) 4 "l30_ship.go:27" #[(Edge.mk 0 Ground.data), (Edge.mk 3 Ground.data), (Edge.mk 6 Ground.data)] none) := by kernel_rfl
theorem o13_10 : o13[10]? = some (Oper.mk (some 83) (Op.move (Operand.tmp 0)) 148 "l30_ship.go:27" #[(Edge.mk 9 Ground.guard)] (some (9, false))) := by kernel_rfl
theorem o13_17 : o13[17]? = some (Oper.mk (some 90) (Op.call (Call.mk (Callee.value (Operand.func 61)) #[(Operand.tmp 83), (Operand.tmp 86), (Operand.tmp 89)] #[148, 26, 26])) 4 "l30_ship.go:27" #[(Edge.mk 10 Ground.data), (Edge.mk 13 Ground.data), (Edge.mk 16 Ground.data), (Edge.mk 9 Ground.chain), (Edge.mk 9 Ground.guard)] (some (9, false))) := by kernel_rfl
theorem o15_0 : o15[0]? = some (Oper.mk (some 93) (Op.move (Operand.tmp 0)) 148 "l30_ship.go:30" #[] none) := by kernel_rfl
theorem o15_1 : o15[1]? = some (Oper.mk (some 94) (Op.nilCheck (Operand.tmp 93)) 0 "l30_ship.go:30" #[(Edge.mk 0 Ground.data)] none) := by kernel_rfl
theorem o15_2 : o15[2]? = some (Oper.mk (some 95) (Op.fieldAddr 96 (Operand.tmp 94) 2) 0 "l30_ship.go:30" #[(Edge.mk 1 Ground.data)] none) := by kernel_rfl
theorem o15_3 : o15[3]? = some (Oper.mk (some 96) (Op.load 94 (Operand.tmp 95)) 94 "l30_ship.go:30" #[(Edge.mk 2 Ground.data)] none) := by kernel_rfl
theorem o15_4 : o15[4]? = some (Oper.mk (some 97) (Op.load 149 (Operand.tmp 7)) 149 "l30_ship.go:30" #[] none) := by kernel_rfl
theorem o15_5 : o15[5]? = some (Oper.mk none (Op.mapUpdate 94 (Operand.tmp 96) (Operand.tmp 97) (Operand.const (Value.int IntKind.i64 1))) 0 "l30_ship.go:30" #[(Edge.mk 3 Ground.data), (Edge.mk 4 Ground.data), (Edge.mk 0 Ground.phase), (Edge.mk 1 Ground.phase), (Edge.mk 2 Ground.phase), (Edge.mk 3 Ground.phase), (Edge.mk 4 Ground.phase)] none) := by kernel_rfl
end Go.Rf

namespace Go.Rf
open Go.Proofs
set_option maxRecDepth 100000

/-! ## What holds of the world while two values are compared -/
def EntOK (h g : HT) (e : MapEntry) : Prop :=
  ∃ i j v : Int, e.key = .agg #[.int .i64 i, .int .i64 j] ∧ e.val = .int .i64 v ∧ (0 ≤ i ∧ i < 300) ∧ (0 ≤ j ∧ j < 300) ∧
    (v > 0 → ∃ n, ∀ a b : WT, a.1 = 5 → b.1 = 5 → a.2.1 = i → b.2.1 = j → alike h g n a b = some true)

def MapW (w : World) (m : Nat) (h g : HT) : Prop := ∃ es clock, hp w m = some (.map es clock) ∧ ∀ e ∈ es.toList, EntOK h g e

structure SameW (w : World) (S : Stab) (bp m el : Nat) (hv gv : Value) (h g : HT) : Prop where
  stab : ∀ mo b, S mo b → b < w.heap.size
  kl : ∀ b, S .keep b → S .lend b
  glb : (∀ b, b < Vp.n → S .lend b) ∧ Vp.holds w
  hrep : Rep S (hp w) HTy [hv] h []
  grep : Rep S (hp w) HTy [gv] g []
  pb : hp w bp = some (.cells #[hv, gv, .map (some m)] el)
  pS : S .lend bp
  mne : ∀ mo, ¬ S mo m
  mp : MapW w m h g

section
variable {w w' : World} {S S' : Stab} {bp m el : Nat} {hv gv : Value} {h g : HT}

theorem SameW.mlt (hs : SameW w S bp m el hv gv h g) : m < w.heap.size := by
  obtain ⟨es, clock, h1, _⟩ := hs.mp
  exact (Array.getElem?_eq_some_iff.1 h1).1

theorem SameW.later (hs : SameW w S bp m el hv gv h g) (hsz : w.heap.size ≤ w'.heap.size) (hb : ∀ b, b < w.heap.size → b ≠ m → hp w' b = hp w b) (hm : MapW w' m h g) : SameW w' S bp m el hv gv h g := by
  have hS : ∀ mo b, S mo b → hp w' b = hp w b := fun mo b h => hb b (hs.stab mo b h) (by rintro rfl; exact hs.mne _ h)
  exact ⟨fun mo b h => Nat.lt_of_lt_of_le (hs.stab mo b h) hsz, hs.kl, ⟨hs.glb.1, Vp.loc w w' (fun b hb => hS _ _ (hs.glb.1 b hb)) hs.glb.2⟩, hs.hrep.heap hS (by simp), hs.grep.heap hS (by simp), by rw [hS _ _ hs.pS]; exact hs.pb, hs.pS, hs.mne, hm⟩

abbrev G0 : Blk := Blk.of fun _ => False

theorem SameW.grow (hs : SameW w S bp m el hv gv h g) {st : St} {a : Act} {pls : Nat → Pl} {X : Nat → List Nat} (hI : Inv EQ.toCx w G0 st a w' S' pls X) (hg : Grows w G0 S S' w w') : SameW w' S' bp m el hv gv h g := by
  have hm : hp w' m = hp w m := hI.frm.block m hs.mlt (by intro h; cases h)
  refine ⟨hI.stab, hI.kl, hI.glb, (hs.hrep.heap hg.still (by simp)).stab hg.more, (hs.grep.heap hg.still (by simp)).stab hg.more, by rw [hg.still _ _ hs.pS]; exact hs.pb, hg.more _ _ hs.pS, fun mo hmo => ?_, ?_⟩
  · rcases hg.any mo m hmo with ⟨m', h⟩ | h | h
    · exact hs.mne _ h
    · have := hs.mlt; omega
    · cases h
  · obtain ⟨es, clock, h1, h2⟩ := hs.mp
    exact ⟨es, clock, by rw [hm]; exact h1, h2⟩

def valV (a : WT) : Value := .agg #[.int .i64 a.1, .int .i64 a.2.1, .string a.2.2.1]

theorem rep_V (S : Stab) (H : Heap) (a : WT) : Rep S H VTy [.int .i64 a.1, .int .i64 a.2.1, .string a.2.2.1] a [] :=
  ⟨[_], _, [], [], rfl, rfl, ⟨rfl, rfl⟩, [_], _, [], [], rfl, rfl, ⟨rfl, rfl⟩, [_], _, [], [], rfl, rfl, ⟨rfl, rfl⟩, rfl, rfl⟩

theorem valV_of {S : Stab} {H : Heap} {vs : List Value} {a : WT} {fp : List Nat} (h : Rep S H VTy vs a fp) : valOf VTy vs = valV a := by
  obtain ⟨v1, v2, f1, f2, rfl, rfl, ⟨rfl, rfl⟩, v3, v4, f3, f4, rfl, rfl, ⟨rfl, rfl⟩, v5, v6, f5, f6, rfl, rfl, ⟨rfl, rfl⟩, rfl, rfl⟩ := h
  rfl

theorem SameW.sptr (hs : SameW w S bp m el hv gv h g) (pls : Nat → Pl) (roots : Nat → Option Root) : TRel S (hp w) pls roots (.pointer (some ⟨bp, 0, none⟩)) (.a (.sptr PTy (h, g, (), ()))) :=
  ⟨bp, 0, _, el, _, rfl, hs.pb, by simp [Ty.size], ⟨[hv], [gv, .map (some m)], [], [], rfl, rfl, hs.hrep, [gv], [.map (some m)], [], [], rfl, rfl, hs.grep, [.map (some m)], [], [], [], rfl, rfl, ⟨⟨_, rfl, rfl⟩, rfl⟩, rfl, rfl⟩, .lend, hs.pS⟩
end

/-! ## Steps -/
section
variable {P : Program} {E : Cz} {w0 w w' : World} {G : Blk} {st st' : St} {a : Act} {S : Stab} {pls : Nat → Pl} {X : Nat → List Nat} {ops : Array Oper}

theorem wpL_val {Q : Exit → Act → World → Prop} {o : Oper} {l : List Oper} {K : Act → World → Prop} {v : Value} (hg : o.guard = none) (hr : (execOp a.eval o).run P w = .ok (.value v) w') (h : wpL P ops (fun _ => True) Q l K (a.put o.dst v) w') :
    wpL P ops (fun _ => True) Q (o :: l) K a w := by
  simp only [wpL]
  rw [if_pos (by simp [Region.wanted, hg])]
  simp only [Oper.wp, hr, Oper.upon_value]
  exact ⟨trivial, h⟩

theorem wpL_skip {Q : Exit → Act → World → Prop} {o : Oper} {l : List Oper} {K : Act → World → Prop} (hg : o.guard = none) (hr : (execOp a.eval o).run P w = .ok .skip w') (h : wpL P ops (fun _ => True) Q l K (a.put o.dst undef) w') :
    wpL P ops (fun _ => True) Q (o :: l) K a w := by
  simp only [wpL]
  rw [if_pos (by simp [Region.wanted, hg])]
  simp only [Oper.wp, hr, Oper.upon_skip]
  exact ⟨trivial, h⟩

theorem pre_wp (hE : EnvOK P E) (hm : P.follows .mixedOrders = true) {A : An} {N : Nat} {x y z rest : Code} {R : Type} {K : Ex → St → Option R} {r : R} (h : evalK E A N (.seq x (.seq y z)) st K = some r) (hI : Inv E.toCx w0 G st a w S pls X)
    {Q : Exit → Act → World → Prop} (hn : ∀ a' w' st' S' pls' X', K .norm st' = some r → Inv E.toCx w0 G st' a' w' S' pls' X' → Grows w0 G S S' w w' → (∀ t, t ∉ wr (.seq x (.seq y z)) → a'.tmps.getD t undef = a.tmps.getD t undef) → rest.wp P Q a' w')
    (hr : ∀ a' w' st' S' pls' X', K .ret st' = some r → Inv E.toCx w0 G st' a' w' S' pls' X' → Grows w0 G S S' w w' → Q .ret a' w') (he : ∀ i st', K (.exit i) st' ≠ some r) : (Code.seq x (.seq y (.seq z rest))).wp P Q a w := by
  simp only [evalK] at h
  refine wp_seq (wp_mono (evalK_sound hE hm A N x h hI) ?_)
  rintro e' a1 w1 ⟨e1, st1, rfl, h1, ⟨S1, pls1, X1, hI1, hg1⟩, hf1⟩
  cases e1 with
  | exit i => exact absurd h1 (he i _)
  | ret => exact hr _ _ _ _ _ _ h1 hI1 hg1
  | norm =>
    refine wp_seq (wp_mono (evalK_sound hE hm A N y h1 hI1) ?_)
    rintro e' a2 w2 ⟨e2, st2, rfl, h2, ⟨S2, pls2, X2, hI2, hg2⟩, hf2⟩
    cases e2 with
    | exit i => exact absurd h2 (he i _)
    | ret => exact hr _ _ _ _ _ _ h2 hI2 (hg1.trans hg2)
    | norm =>
      refine wp_seq (wp_mono (evalK_sound hE hm A N z h2 hI2) ?_)
      rintro e' a3 w3 ⟨e3, st3, rfl, h3, ⟨S3, pls3, X3, hI3, hg3⟩, hf3⟩
      cases e3 with
      | exit i => exact absurd h3 (he i _)
      | ret => exact hr _ _ _ _ _ _ h3 hI3 ((hg1.trans hg2).trans hg3)
      | norm =>
        refine hn _ _ _ _ _ _ h3 hI3 ((hg1.trans hg2).trans hg3) (fun t ht => ?_)
        simp only [wr, List.mem_append, not_or] at ht
        rw [hf3 t ht.2.2, hf2 t ht.2.1, hf1 t ht.1]

theorem put_getD {d : Nat} {v : Value} (h : d < a.tmps.size) : (a.put (some d) v).tmps.getD d undef = v := by
  simp [Act.put, Array.getD_eq_getD_getElem?, Array.getElem?_setIfInBounds, h]

theorem set6_wp {id : Nat} {q : Bool} {ty : TypeId} {pos : String} {Q : Exit → Act → World → Prop} (h : Q .ret (a.put (some 6) (.bool q)) w) : (Code.seq (.region id #[⟨some 6, .assign (.const (.bool q)), ty, pos, #[], none⟩] false) .ret).wp P Q a w := by
  refine wp_seq (wpL_region (J := fun _ => True) ?_)
  refine wpL_val (v := .bool q) (w' := w) rfl ?_ ?_
  · simp [execOp]; rfl
  · exact wp_ret h

theorem Inv.noG {C : Cx} (hI : Inv C w0 G0 st a w S pls X) (p : Nat → Prop) : Inv C w0 (Blk.of p) st a w S pls X := by
  refine ⟨⟨hI.frm.os, hI.frm.tape, hI.frm.output, hI.frm.size, fun b hb _ => hI.frm.block b hb (by intro h; cases h)⟩, hI.stab, hI.kl, fun id b hb => ?_, hI.nd, hI.dis, hI.roots, hI.tmps, hI.size, hI.defers, hI.glb, hI.pin⟩
  obtain ⟨h1, h2, h3⟩ := hI.own id b hb
  refine ⟨h1, h2, .inl ?_⟩
  rcases h3 with h | h
  · exact h
  · cases h
end

theorem fin39 {R : Ending → World → Prop} {a : Act} {r : Bool} {w : World} (h6 : a.tmps.getD 6 undef = .bool r) (hd : a.defers = []) (hR : R (.returned (.bool r)) w) : bodyPost Tryz.prog Tryz.f61 R .ret a w := by
  have e : Tryz.f61.results = #[.tmp 6] := by kernel_rfl
  refine ⟨hd, .bool r, ?_, hR⟩
  rw [Array.getD_eq_getD_getElem?] at h6
  simp [results, e, h6]

theorem key_pair {P : Program} {k e : TypeId} (hu : P.underlying k = some (.array 2 e)) (hu3 : P.underlying e = some (.int .i64)) (hk : P.keyType k = true) (hc : P.cellsOf k = 2) (hc3 : P.cellsOf e = 1) (hsz : 1 ≤ P.types.size)
    {i j : Int} (hi : 0 ≤ i ∧ i < 300) (hj : 0 ≤ j ∧ j < 300) : ∃ l, keyOf P k (.agg #[.int .i64 i, .int .i64 j]) = some l := by
  obtain ⟨n, hn⟩ : ∃ n, P.types.size + 1 = n + 2 := ⟨P.types.size - 1, by omega⟩
  have w1 : (Lit.int .i64 i).wf = true := by simp [Lit.wf, IntKind.min, IntKind.max, IntKind.bits, IntKind.signed]; omega
  have w2 : (Lit.int .i64 j).wf = true := by simp [Lit.wf, IntKind.min, IntKind.max, IntKind.bits, IntKind.signed]; omega
  unfold keyOf
  rw [hn]
  simp [hu, hk, Value.formed, hc, Program.keyLits, Value.cells, hc3, List.range_succ, hu3, w1, w2]

theorem key94 {i j : Int} (hi : 0 ≤ i ∧ i < 300) (hj : 0 ≤ j ∧ j < 300) : ∃ l, keyOf Tryz.prog 149 (.agg #[.int .i64 i, .int .i64 j]) = some l :=
  key_pair (e := 3) (by kernel_rfl) (by kernel_rfl) (by kernel_rfl) (by kernel_rfl) (by kernel_rfl) (Nat.le_of_ble_eq_true (by kernel_rfl)) hi hj

theorem law94 : Go.Maps.Keyed Tryz.prog 149 := by
  have hu : Tryz.prog.underlying 149 = some (.array 2 3) := by kernel_rfl
  exact Go.Maps.Keyed.of_law (deep_law_laid (by kernel_rfl) (m := 2) (by omega) (of_decide_eq_true (by kernel_rfl)) (by kernel_rfl) (by rw [hu]))
end Go.Rf

namespace Go.Rf
open Go.Proofs
set_option maxRecDepth 100000

section
variable {P : Program} {C : Cx} {w0 w w' : World} {G : Blk} {st : St} {a : Act} {S : Stab} {pls : Nat → Pl} {X : Nat → List Nat}
theorem Inv.putJ (hI : Inv C w0 G st a w S pls X) {d : Nat} {v : Value} (hd : d < C.n) (h : st.tmps d = .a .junk) : Inv C w0 G st (a.put (some d) v) w S pls X := by
  have := hI.put (dst := some d) (v := v) (tv := .a .junk) (fun d' e => by cases e; exact hd) trivial
  rwa [put_id h] at this
theorem size_put {d : Option Nat} {v : Value} : (a.put d v).tmps.size = a.tmps.size := by cases d <;> simp [Act.put]
theorem eval_put {d : Nat} {v : Value} (h : d < a.tmps.size) : (a.put (some d) v).eval (.tmp d) = v := put_getD h
theorem eval_ne {d t : Nat} {v : Value} (h : d ≠ t) : (a.put (some d) v).eval (.tmp t) = a.eval (.tmp t) := act_put (by intro e; cases e; exact h rfl)
theorem eval_tmp {t : Nat} : a.eval (.tmp t) = a.tmps.getD t undef := rfl
end

theorem enters39 (args : Array Value) (w : World) : (callFunc 61 args).run Tryz.prog w = .ok (.enter 61 args) w := by
  have h1 : Tryz.f61.name ≠ "runtime.NumGoroutine" := by
    have : (Tryz.f61.name == "runtime.NumGoroutine") = false := by kernel_rfl
    simpa using this
  have hb : Tryz.f61.body = some cS := by kernel_rfl
  simp [callFunc, Tryz.func61, h1, hb, mark]

theorem list_arr {α : Type} {L : Array α} {l : List α} (h : L.toList = l) : L = l.toArray := by subst h; simp

theorem alike_congr {h g : HT} {n : Nat} {a b a' b' : WT} (a5 : a.1 = 5) (b5 : b.1 = 5) (a5' : a'.1 = 5) (b5' : b'.1 = 5) (e1 : a'.2.1 = a.2.1) (e2 : b'.2.1 = b.2.1) : alike h g (n + 1) a' b' = alike h g (n + 1) a b := by
  simp [alike, a5, b5, a5', b5', e1, e2]

abbrev RS (w : World) (S : Stab) (bp m el : Nat) (hv gv : Value) (h g : HT) (r : Bool) (e : Ending) (w' : World) : Prop :=
  e = .returned (.bool r) ∧ Frm w w' (Blk.of fun x => x = m) ∧ SameW w' S bp m el hv gv h g

theorem no_panic {f : Func} {R : Ending → World → Prop} (hR : ∀ c w, ¬ R (.panicked c) w) {K : Act → World → Prop} {a : Act} {w : World} {c} : ¬ Exit.then K (bodyPost Tryz.prog f R) (.panic c) a w := fun h => hR _ _ h.2

theorem v_of {C : Cx} {w0 w : World} {G : Blk} {st : St} {a : Act} {S : Stab} {pls : Nat → Pl} {X : Nat → List Nat} (hI : Inv C w0 G st a w S pls X) {t : Nat} {x : WT} (h : st.tmps t = .a (.v VTy x)) : a.tmps.getD t undef = valV x := by
  have := hI.tmps t
  rw [h] at this
  obtain ⟨vs, e, hr⟩ := this
  rw [e]; exact valV_of hr
theorem b_of {C : Cx} {w0 w : World} {G : Blk} {st : St} {a : Act} {S : Stab} {pls : Nat → Pl} {X : Nat → List Nat} (hI : Inv C w0 G st a w S pls X) {t : Nat} {x : Bool} (h : st.tmps t = .a (.v .bool x)) : a.tmps.getD t undef = .bool x := by
  have := hI.tmps t
  rw [h] at this
  obtain ⟨vs, e, rfl, _⟩ := this
  rw [e]; rfl

theorem put_world {C : Cx} {w0 w : World} {G : Blk} {st : St} {a : Act} {S : Stab} {pls : Nat → Pl} {X : Nat → List Nat} (hI : Inv C w0 G st a w S pls X) {d : Nat} {x : Bool} (hd : d < C.n) : Inv C w0 G (st.put (some d) (.a (.v .bool x))) (a.put (some d) (.bool x)) w S pls X :=
  hI.put (fun d' e => by cases e; exact hd) ⟨[.bool x], rfl, rfl, rfl⟩

theorem junk_base (S : Stab) (H : Heap) (a : Act) : BaseRel S H a junkT := fun t => trivial

/-- the map, a pair put in -/
theorem tail15 {h g : HT} {n : Nat} {a b : WT} {w : World} {S : Stab} {bp m el : Nat} {hv gv : Value} (hs : SameW w S bp m el hv gv h g) (ha : alike h g (n + 1) a b = some true) (a5 : a.1 = 5) (b5 : b.1 = 5) (hi : 0 ≤ a.2.1 ∧ a.2.1 < 300) (hj : 0 ≤ b.2.1 ∧ b.2.1 < 300)
    {w8 : World} {act : Act} {k : Nat} (hsz : act.tmps.size = 98) (hd : act.defers = []) (hf : Frm w w8 (Blk.of fun x => x = m)) (hm8 : MapW w8 m h g) (t0 : act.tmps.getD 0 undef = .pointer (some ⟨bp, 0, none⟩)) (t7 : act.tmps.getD 7 undef = .pointer (some ⟨k, 0, none⟩))
    (hk : hp w8 k = some (.cells #[.int .i64 a.2.1, .int .i64 b.2.1] 149)) (hkm : k ≠ m) {pos : String} :
    (Code.seq (.region 15 o15 true) (.seq (.region 16 #[⟨some 6, .assign (.const (.bool true)), 4, pos, #[], none⟩] false) .ret)).wp Tryz.prog (bodyPost Tryz.prog Tryz.f61 (RS w S bp m el hv gv h g true)) act w8 := by
  have hbpm : bp ≠ m := by rintro rfl; exact hs.mne _ hs.pS
  have hbp : hp w8 bp = some (.cells #[hv, gv, .map (some m)] el) := by
    rw [hf.block bp (hs.stab _ _ hs.pS) (fun h => hbpm h)]; exact hs.pb
  obtain ⟨es, clock, hes, hall⟩ := hm8
  obtain ⟨kl, hkey⟩ := key94 hi hj
  have hallk : ∀ x ∈ es.toList, ∃ l, keyOf Tryz.prog 149 x.key = some l := fun x hx => by
    obtain ⟨i, j, v, h1, h2, h3, h4, _⟩ := hall x hx
    rw [h1]; exact key94 h3 h4
  refine wp_seq (region_hand (by kernel_rfl) (J := fun w' => ∀ x, x ≠ m → hp w' x = hp w8 x) ?_)
  have hpan : ∀ c a w', ¬ Exit.then (Code.wp Tryz.prog (.seq (.region 16 #[⟨some 6, .assign (.const (.bool true)), 4, pos, #[], none⟩] false) .ret) (bodyPost Tryz.prog Tryz.f61 (RS w S bp m el hv gv h g true))) (bodyPost Tryz.prog Tryz.f61 (RS w S bp m el hv gv h g true)) (.panic c) a w' :=
    fun c a w' => no_panic (fun c w h => by cases h.1)
  have hJ0 : ∀ x, x ≠ m → hp w8.drew x = hp w8 x := fun _ _ => rfl
  have hns : Region.noSelect o15 = true := by kernel_rfl
  rw [o15_size]
  have e0 : act.eval (.tmp 0) = .pointer (some ⟨bp, 0, none⟩) := t0
  have e7 : act.eval (.tmp 7) = .pointer (some ⟨k, 0, none⟩) := t7
  refine think_hand (v := .pointer (some ⟨bp, 0, none⟩)) hns hpan hJ0 o15_0 rfl (by kernel_rfl) (by simp [Region.wanted]) (fun w' _ => by simp [execOp, e0]) ?_
  refine think_hand (v := .pointer (some ⟨bp, 0, none⟩)) hns hpan hJ0 o15_1 rfl (by kernel_rfl) (by simp [Region.wanted]) (fun w' _ => by simp [execOp, eval_put, eval_ne, size_put, hsz]) ?_
  refine think_hand (v := .pointer (some ⟨bp, 2, none⟩)) hns hpan hJ0 o15_2 rfl (by kernel_rfl) (by simp [Region.wanted]) (fun w' _ => by simp [execOp, eval_put, eval_ne, size_put, hsz, s_field]) ?_
  refine think_hand (v := .map (some m)) hns hpan hJ0 o15_3 rfl (by kernel_rfl) (by simp [Region.wanted]) (fun w' hw' => by simp [execOp, eval_put, eval_ne, size_put, hsz, s_load67 (show hp w' bp = _ by rw [hw' bp hbpm]; exact hbp)]) ?_
  refine think_hand (v := .agg #[.int .i64 a.2.1, .int .i64 b.2.1]) hns hpan hJ0 o15_4 rfl (by kernel_rfl) (by simp [Region.wanted]) (fun w' hw' => by
    simp [execOp, eval_put, eval_ne, size_put, hsz, e7, s_load94 (show hp w' k = _ by rw [hw' k hkm]; exact hk)]) ?_
  obtain ⟨es', clock', hput, hes'⟩ := map_put (P := Tryz.prog) (w := w8.drew) (k := 149) (e := 3) law94 (show Tryz.prog.underlying 94 = some (.map 149 3) by kernel_rfl) (b := m) (show w8.drew.heap[m]? = _ from hes) hallk (key := .agg #[.int .i64 a.2.1, .int .i64 b.2.1]) (val := .int .i64 1) hkey
  have hset : ∀ x, x ≠ m → hp (ChangeMaps.setBlock w8.drew m (.map es' clock')) x = hp w8 x := fun x hx => by
    simp only [hp, ChangeMaps.setBlock, Array.getElem?_setIfInBounds]
    rw [if_neg (fun e => hx e.symm)]; rfl
  have hmlt : m < w8.heap.size := (Array.getElem?_eq_some_iff.1 hes).1
  have hsetm : hp (ChangeMaps.setBlock w8.drew m (.map es' clock')) m = some (.map es' clock') := by
    simp only [hp, ChangeMaps.setBlock, Array.getElem?_setIfInBounds, if_true]
    exact if_pos hmlt
  refine only_hand o15_5 (by kernel_rfl) (by simp [Region.wanted]) ?_
  have hrun : (execOp (((((act.put (some 93) (.pointer (some ⟨bp, 0, none⟩))).put (some 94) (.pointer (some ⟨bp, 0, none⟩))).put (some 95) (.pointer (some ⟨bp, 2, none⟩))).put (some 96) (.map (some m))).put (some 97) (.agg #[.int .i64 a.2.1, .int .i64 b.2.1])).eval
      (Oper.mk none (Op.mapUpdate 94 (Operand.tmp 96) (Operand.tmp 97) (Operand.const (Value.int IntKind.i64 1))) 0 "l30_ship.go:30" #[(Edge.mk 3 Ground.data), (Edge.mk 4 Ground.data), (Edge.mk 0 Ground.phase), (Edge.mk 1 Ground.phase), (Edge.mk 2 Ground.phase), (Edge.mk 3 Ground.phase), (Edge.mk 4 Ground.phase)] none)).run Tryz.prog w8.drew =
      .ok .skip (ChangeMaps.setBlock w8.drew m (.map es' clock')) := by
    have hc : ∀ a : Act, a.eval (.const (.int .i64 1)) = .int .i64 1 := fun _ => rfl
    simp [execOp, eval_put, eval_ne, size_put, hsz, hc, hput]
  simp only [Oper.wp]
  rw [hrun]
  refine ⟨hset, wpAnyH_done (by kernel_rfl) ?_ _⟩
  refine set6_wp ?_
  have hsz5 : (act.put (some 93) (.pointer (some ⟨bp, 0, none⟩))).tmps.size = 98 := by rw [size_put]; exact hsz
  refine fin39 (put_getD ?_) ?_ ⟨rfl, ?_, ?_⟩
  · simp only [size_put]; omega
  · simp only [Act.put]; exact hd
  · refine ⟨hf.os, hf.tape, hf.output, by have := hf.size; simp [ChangeMaps.setBlock]; exact this, fun b hb hG => ?_⟩
    rw [hset b (fun e => hG e)]; exact hf.block b hb hG
  · refine hs.later (by have := hf.size; simp [ChangeMaps.setBlock]; exact this) (fun b hb hne => by rw [hset b hne]; exact hf.block b hb (fun e => hne e)) ⟨es', clock', hsetm, fun e he => ?_⟩
    rcases hes' e he with h | ⟨h1, h2⟩
    · exact hall e h
    · exact ⟨a.2.1, b.2.1, 1, h1, h2, hi, hj, fun _ => ⟨n + 1, fun a' b' a5' b5' e1 e2 => by rw [alike_congr a5 b5 a5' b5' e1 e2]; exact ha⟩⟩
end Go.Rf

namespace Go.Rf
open Go.Proofs
set_option maxRecDepth 100000

section
variable {P : Program} {C : Cx} {w0 w w' : World} {G : Blk} {st : St} {a : Act} {S : Stab} {pls : Nat → Pl} {X : Nat → List Nat}
theorem Inv.noX (hI : Inv C w0 G st a w S pls X) (h : ∀ i, st.roots i = none) : Inv C w0 G st a w S pls (fun _ => []) :=
  ⟨hI.frm, hI.stab, hI.kl, by simp, by simp, by simp, fun i r hr => (by rw [h i] at hr; cases hr), hI.tmps, hI.size, hI.defers, hI.glb, hI.pin⟩
theorem Inv.called {m : Nat} (hI : Inv C w0 (Blk.of fun x => x = m) st a w S pls (fun _ => [])) (hf : Frm w w' (Blk.of fun x => x = m)) (hm : ∀ mo, ¬ S mo m) : Inv C w0 (Blk.of fun x => x = m) st a w' S pls (fun _ => []) := by
  refine hI.other hf.os hf.tape hf.output hf.size (fun b hb h => hf.block b hb ?_)
  rintro (e : b = m)
  subst e
  rcases h with ⟨mo, h⟩ | ⟨i, h⟩ | ⟨_, h⟩
  · exact hm _ h
  · cases h
  · exact h rfl
theorem notin {l : List Nat} {t : Nat} (h : l.elem t = false) : t ∉ l := fun hm => by rw [List.elem_eq_true_of_mem hm] at h; cases h
end

theorem mkR_val : ∀ (l : List Slot) (x : LD (tys l)), (∀ s ∈ l, s.k = .val) → ∀ t, mkR l x t = none := by
  intro l
  induction l with
  | nil => intro x _ t; rfl
  | cons s l ih =>
    intro x h t
    simp only [mkR]
    split
    · unfold Slot.rt
      rw [h s (by simp)]
    · exact ih x.2 (fun s hs => h s (by simp [hs])) t

theorem call39 {act : Act} {w1 : World} {S2 : Stab} {bp m el : Nat} {hv gv : Value} {h g : HT} {r0 : Bool} {p q : WT} {t1 t2 t3 d : Nat} {tys39 : Array TypeId} {ty : TypeId} {pos : String} {after : Array Edge} {guard : Option (Nat × Bool)} {K : Act → World → Prop} {Q : Exit → Act → World → Prop}
    (hc : Calls Tryz.prog 61 #[.pointer (some ⟨bp, 0, none⟩), valV p, valV q] w1 (RS w1 S2 bp m el hv gv h g r0)) (e1 : act.eval (.tmp t1) = .pointer (some ⟨bp, 0, none⟩)) (e2 : act.eval (.tmp t2) = valV p) (e3 : act.eval (.tmp t3) = valV q)
    (hK : ∀ w2, Frm w1 w2 (Blk.of fun x => x = m) → SameW w2 S2 bp m el hv gv h g → K (act.put (some d) (.bool r0)) w2) :
    (Oper.mk (some d) (.call (.mk (.value (.func 61)) #[.tmp t1, .tmp t2, .tmp t3] tys39)) ty pos after guard).wp Tryz.prog act w1 K Q := by
  have hrun : (execOp act.eval (Oper.mk (some d) (.call (.mk (.value (.func 61)) #[.tmp t1, .tmp t2, .tmp t3] tys39)) ty pos after guard)).run Tryz.prog w1 = .ok (.enter 61 #[.pointer (some ⟨bp, 0, none⟩), valV p, valV q]) w1 := by
    have ef : act.eval (.func 61) = .func (.func 61) #[] #[] := rfl
    simp [execOp, resolve, invoke, Deferred.ofValue, enters39, e1, e2, e3, ef]
  simp only [Oper.wp]
  rw [hrun, Oper.upon_enter]
  refine hc.mono ?_
  rintro e w2 ⟨rfl, h1, h2⟩
  exact hK w2 h1 h2

/-- the parts of two pairs -/
theorem tail13 {h g : HT} {n : Nat} (ih : ∀ (a b : WT) (r : Bool) (w : World) (S : Stab) (bp m el : Nat) (hv gv : Value), alike h g n a b = some r → SameW w S bp m el hv gv h g → Calls Tryz.prog 61 #[.pointer (some ⟨bp, 0, none⟩), valV a, valV b] w (RS w S bp m el hv gv h g r))
    {a b : WT} {r : Bool} {w : World} {S : Stab} {bp m el : Nat} {hv gv : Value} (hs : SameW w S bp m el hv gv h g) (ha : alike h g (n + 1) a b = some r) (a5 : a.1 = 5) (b5 : b.1 = 5) (hi : 0 ≤ a.2.1 ∧ a.2.1 < 300) (hj : 0 ≤ b.2.1 ∧ b.2.1 < 300)
    {x y : List WT} (hx : 2 ≤ x.length) (hy : 2 ≤ y.length) (hch : (alike h g n (x.getD 0 (0, 0, ByteArray.empty, ())) (y.getD 0 (0, 0, ByteArray.empty, ()))).bind (fun q => if q = true then alike h g n (x.getD 1 (0, 0, ByteArray.empty, ())) (y.getD 1 (0, 0, ByteArray.empty, ())) else some false) = some r)
    {w5 : World} {act : Act} {S2 : Stab} {pls : Nat → Pl} {k : Nat} (hI : Inv EQ.toCx w G0 (st2 x y) act w5 S2 pls (fun _ => [])) (hs5 : SameW w5 S2 bp m el hv gv h g)
    (t0 : act.tmps.getD 0 undef = .pointer (some ⟨bp, 0, none⟩)) (t7 : act.tmps.getD 7 undef = .pointer (some ⟨k, 0, none⟩))
    (hk : hp w5 k = some (.cells #[.int .i64 a.2.1, .int .i64 b.2.1] 149)) (hkm : k ≠ m) {pos pos' : String} :
    (Code.seq (.seq (.region 13 o13 true) (.cond (.tmp 92) (.seq (.region 14 #[⟨some 6, .assign (.const (.bool false)), 4, pos', #[], none⟩] false) .ret) .skip))
      (.seq (.region 15 o15 true) (.seq (.region 16 #[⟨some 6, .assign (.const (.bool true)), 4, pos, #[], none⟩] false) .ret))).wp Tryz.prog (bodyPost Tryz.prog Tryz.f61 (RS w S bp m el hv gv h g r)) act w5 := by
  have hpan : ∀ c a w', ¬ bodyPost Tryz.prog Tryz.f61 (RS w S bp m el hv gv h g r) (.panic c) a w' := fun c a w' h => by cases h.2.1
  have hklt : k < w5.heap.size := (Array.getElem?_eq_some_iff.1 hk).1
  have hns : Region.noSelect o13 = true := by kernel_rfl
  obtain ⟨r0, hr0, hr1⟩ := Option.bind_eq_some_iff.1 hch
  have hx0 : inB 0 (List.length x) := by constructor <;> omega
  have hy0 : inB 0 (List.length y) := by constructor <;> omega
  have hx1 : inB 1 (List.length x) := by constructor <;> omega
  have hy1 : inB 1 (List.length y) := by constructor <;> omega
  -- what is done when all has come up
  refine wp_seq (wp_seq (region_hand (by kernel_rfl) (J := fun w' => ∀ mo b, S2 mo b → hp w' b = hp w5 b) ?_))
  have hend : ∀ (act8 : Act) (w8 : World), act8.tmps.size = 98 → act8.defers = [] → Frm w w8 (Blk.of fun x => x = m) → MapW w8 m h g → hp w8 k = some (.cells #[.int .i64 a.2.1, .int .i64 b.2.1] 149) →
      act8.tmps.getD 0 undef = .pointer (some ⟨bp, 0, none⟩) → act8.tmps.getD 7 undef = .pointer (some ⟨k, 0, none⟩) → act8.tmps.getD 92 undef = .bool (!r) →
      Exit.then ((Code.cond (.tmp 92) (.seq (.region 14 #[⟨some 6, .assign (.const (.bool false)), 4, pos', #[], none⟩] false) .ret) .skip).wp Tryz.prog (Exit.then ((Code.seq (.region 15 o15 true) (.seq (.region 16 #[⟨some 6, .assign (.const (.bool true)), 4, pos, #[], none⟩] false) .ret)).wp Tryz.prog (bodyPost Tryz.prog Tryz.f61 (RS w S bp m el hv gv h g r))) (bodyPost Tryz.prog Tryz.f61 (RS w S bp m el hv gv h g r))))
        (Exit.then ((Code.seq (.region 15 o15 true) (.seq (.region 16 #[⟨some 6, .assign (.const (.bool true)), 4, pos, #[], none⟩] false) .ret)).wp Tryz.prog (bodyPost Tryz.prog Tryz.f61 (RS w S bp m el hv gv h g r))) (bodyPost Tryz.prog Tryz.f61 (RS w S bp m el hv gv h g r))) .normal act8 w8 := by
    intro act8 w8 hsz8 hd8 hf8 hm8 hk8 t0' t7' t92
    refine wp_cond (t := !r) t92 ?_
    cases r with
    | true =>
      rw [if_neg (by simp)]
      refine wp_skip ?_
      exact tail15 hs ha a5 b5 hi hj hsz8 hd8 hf8 hm8 t0' t7' hk8 hkm
    | false =>
      simp only [Bool.not_false, if_true]
      refine set6_wp ?_
      refine fin39 (put_getD (by omega)) (by simp only [Act.put]; exact hd8) ⟨rfl, hf8, ?_⟩
      exact hs.later hf8.size (fun b hb hne => hf8.block b hb (fun e => hne e)) hm8
  have hpan1 : ∀ c a' w', ¬ Exit.then ((Code.cond (.tmp 92) (.seq (.region 14 #[⟨some 6, .assign (.const (.bool false)), 4, pos', #[], none⟩] false) .ret) .skip).wp Tryz.prog (Exit.then ((Code.seq (.region 15 o15 true) (.seq (.region 16 #[⟨some 6, .assign (.const (.bool true)), 4, pos, #[], none⟩] false) .ret)).wp Tryz.prog (bodyPost Tryz.prog Tryz.f61 (RS w S bp m el hv gv h g r))) (bodyPost Tryz.prog Tryz.f61 (RS w S bp m el hv gv h g r))))
        (Exit.then ((Code.seq (.region 15 o15 true) (.seq (.region 16 #[⟨some 6, .assign (.const (.bool true)), 4, pos, #[], none⟩] false) .ret)).wp Tryz.prog (bodyPost Tryz.prog Tryz.f61 (RS w S bp m el hv gv h g r))) (bodyPost Tryz.prog Tryz.f61 (RS w S bp m el hv gv h g r))) (.panic c) a' w' := fun c a' w' => hpan c a' w'
  generalize hQ : Exit.then ((Code.cond (.tmp 92) (.seq (.region 14 #[⟨some 6, .assign (.const (.bool false)), 4, pos', #[], none⟩] false) .ret) .skip).wp Tryz.prog (Exit.then ((Code.seq (.region 15 o15 true) (.seq (.region 16 #[⟨some 6, .assign (.const (.bool true)), 4, pos, #[], none⟩] false) .ret)).wp Tryz.prog (bodyPost Tryz.prog Tryz.f61 (RS w S bp m el hv gv h g r))) (bodyPost Tryz.prog Tryz.f61 (RS w S bp m el hv gv h g r))))
        (Exit.then ((Code.seq (.region 15 o15 true) (.seq (.region 16 #[⟨some 6, .assign (.const (.bool true)), 4, pos, #[], none⟩] false) .ret)).wp Tryz.prog (bodyPost Tryz.prog Tryz.f61 (RS w S bp m el hv gv h g r))) (bodyPost Tryz.prog Tryz.f61 (RS w S bp m el hv gv h g r))) = Q at hend hpan1 ⊢
  have hJ0 : ∀ mo b, S2 mo b → hp w5.drew b = hp w5 b := fun _ _ _ => rfl
  have hs5d : SameW w5.drew S2 bp m el hv gv h g := hs5.later (Nat.le_refl _) (fun _ _ _ => rfl) hs5.mp
  rw [o13_size]
  have e0 : act.eval (.tmp 0) = .pointer (some ⟨bp, 0, none⟩) := t0
  refine think_hand (v := .pointer (some ⟨bp, 0, none⟩)) hns hpan1 hJ0 o13_0 rfl (by kernel_rfl) (by simp [Region.wanted]) (fun w' _ => by simp [execOp, e0]) ?_
  have hI0 := (((hI.noG (fun x => x = m)).drew).putJ (d := 73) (v := .pointer (some ⟨bp, 0, none⟩)) (by decide) rfl)
  refine think_sound EQ_ok.tab hns hpan1 hJ0 (fun w' hw' => ⟨fun mo b hb => (hw' mo b hb), by simp⟩) [1, 2, 3, 4, 5, 6] 19 ((r13a_eq x y).trans ((if_pos hx0).trans (if_pos hy0))) (by decide) hI0 ?_
  intro L1 st1 a1 hK1 hI1 hf1
  obtain ⟨z, hz, hL⟩ := Option.bind_eq_some_iff.1 hK1
  obtain ⟨hL1, rfl⟩ := Prod.mk.inj (Option.some.inj hL)
  have hL1 := list_arr hL1
  subst hL1
  obtain ⟨pls1, X1, hI1⟩ := slots_spec hI1 hz (junk_base _ _ _)
  have hI1 := hI1.noX (mkR_val _ _ (by decide))
  have f73 : a1.eval (.tmp 73) = .pointer (some ⟨bp, 0, none⟩) := (hf1 73 (notin (by kernel_rfl))).trans (put_getD (by have := hI.size; rw [this]; decide))
  have f0 : a1.tmps.getD 0 undef = .pointer (some ⟨bp, 0, none⟩) := (hf1 0 (notin (by kernel_rfl))).trans ((act_put (by decide)).trans t0)
  have f7 : a1.tmps.getD 7 undef = .pointer (some ⟨k, 0, none⟩) := (hf1 7 (notin (by kernel_rfl))).trans ((act_put (by decide)).trans t7)
  refine only_hand o13_7 (by kernel_rfl) (by simp [Region.wanted]) ?_
  refine call39 (ih _ _ r0 w5.drew S2 bp m el hv gv hr0 hs5d) f73 (v_of hI1 rfl) (v_of hI1 rfl) (fun w7 hf7 hs7 => ?_)
  have hJ7 : ∀ mo b, S2 mo b → hp w7 b = hp w5 b := fun mo b hb => hf7.block b (hs5.stab mo b hb) (fun (e : b = m) => hs5.mne mo (e ▸ hb))
  have hk7 : hp w7 k = some (.cells #[.int .i64 a.2.1, .int .i64 b.2.1] 149) := by rw [hf7.block k hklt (fun e => hkm e)]; exact hk
  refine ⟨hJ7, ?_⟩
  have hI2 := put_world (d := 80) (x := r0) (hI1.called hf7 hs5.mne) (by decide)
  refine think_sound EQ_ok.tab hns hpan1 hJ7 (fun w' hw' => ⟨fun mo b hb => (hw' mo b hb).trans (hJ7 mo b hb).symm, by simp⟩) [8, 9] 12 (r13b_eq _ _ x y r0) (by decide) hI2 ?_
  intro L2 st2' a2 hK2 hI2 hf2
  obtain ⟨z, hz, hL⟩ := Option.bind_eq_some_iff.1 hK2
  obtain ⟨hL2, rfl⟩ := Prod.mk.inj (Option.some.inj hL)
  have hL2 := list_arr hL2
  subst hL2
  obtain ⟨pls2, X2, hI2⟩ := slots_spec hI2 hz (junk_base _ _ _)
  have hI2 := hI2.noX (mkR_val _ _ (by decide))
  have g0 : a2.tmps.getD 0 undef = .pointer (some ⟨bp, 0, none⟩) := (hf2 0 (notin (by kernel_rfl))).trans ((act_put (by decide)).trans f0)
  have g7 : a2.tmps.getD 7 undef = .pointer (some ⟨k, 0, none⟩) := (hf2 7 (notin (by kernel_rfl))).trans ((act_put (by decide)).trans f7)
  cases r0 with
  | false =>
    have hr : r = false := by simpa using hr1.symm
    subst hr
    refine think_sound EQ_ok.tab hns hpan1 hJ7 (fun w' hw' => ⟨fun mo b hb => (hw' mo b hb).trans (hJ7 mo b hb).symm, by simp⟩) [10, 11, 12, 13, 14, 15, 16] 10 (r13e_eq x y) (by decide) hI2 ?_
    intro L3 st3' a3 hK3 hI3 hf3
    obtain ⟨z, hz, hL⟩ := Option.bind_eq_some_iff.1 hK3
    obtain ⟨hL3, rfl⟩ := Prod.mk.inj (Option.some.inj hL)
    have hL3 := list_arr hL3
    subst hL3
    obtain ⟨pls3, X3, hI3⟩ := slots_spec hI3 hz (junk_base _ _ _)
    have hI3 := hI3.noX (mkR_val _ _ (by decide))
    refine only_skip hJ7 o13_17 (by kernel_rfl) (guardV_wanted hI3 (by kernel_rfl)) ?_
    have hI3 := hI3.putJ (d := 90) (v := undef) (by decide) rfl
    refine think_sound EQ_ok.tab hns hpan1 hJ7 (fun w' hw' => ⟨fun mo b hb => (hw' mo b hb).trans (hJ7 mo b hb).symm, by simp⟩) [18, 19] 2 r13f_eq (by decide) hI3 ?_
    intro L4 st4' a4 hK4 hI4 hf4
    obtain ⟨z, hz, hL⟩ := Option.bind_eq_some_iff.1 hK4
    obtain ⟨hL4, rfl⟩ := Prod.mk.inj (Option.some.inj hL)
    have hL4 := list_arr hL4
    subst hL4
    obtain ⟨pls4, X4, hI4⟩ := slots_spec hI4 hz (junk_base _ _ _)
    refine wpAnyH_done (by kernel_rfl) (hend a4 w7 hI4.size hI4.defers hI4.frm hs7.mp hk7 ?_ ?_ (b_of hI4 rfl)) _
    · rw [hf4 0 (notin (by kernel_rfl)), act_put (by decide), hf3 0 (notin (by kernel_rfl))]; exact g0
    · rw [hf4 7 (notin (by kernel_rfl)), act_put (by decide), hf3 7 (notin (by kernel_rfl))]; exact g7
  | true =>
    rw [if_pos rfl] at hr1
    have e0 : a2.eval (.tmp 0) = .pointer (some ⟨bp, 0, none⟩) := g0
    refine think_hand (v := .pointer (some ⟨bp, 0, none⟩)) hns hpan1 hJ7 o13_10 rfl (by kernel_rfl) (guardV_wanted hI2 (by kernel_rfl)) (fun w' _ => by simp [execOp, e0]) ?_
    have hI2' := hI2.putJ (d := 83) (v := .pointer (some ⟨bp, 0, none⟩)) (by decide) rfl
    refine think_sound EQ_ok.tab hns hpan1 hJ7 (fun w' hw' => ⟨fun mo b hb => (hw' mo b hb).trans (hJ7 mo b hb).symm, by simp⟩) [11, 12, 13, 14, 15, 16] 9 ((r13c_eq x y).trans ((if_pos hx1).trans (if_pos hy1))) (by decide) hI2' ?_
    intro L3 st3' a3 hK3 hI3 hf3
    obtain ⟨z, hz, hL⟩ := Option.bind_eq_some_iff.1 hK3
    obtain ⟨hL3, rfl⟩ := Prod.mk.inj (Option.some.inj hL)
    have hL3 := list_arr hL3
    subst hL3
    obtain ⟨pls3, X3, hI3⟩ := slots_spec hI3 hz (junk_base _ _ _)
    have hI3 := hI3.noX (mkR_val _ _ (by decide))
    have h83 : a3.eval (.tmp 83) = .pointer (some ⟨bp, 0, none⟩) := (hf3 83 (notin (by kernel_rfl))).trans (put_getD (by have := hI2.size; rw [this]; decide))
    refine only_hand o13_17 (by kernel_rfl) (guardV_wanted hI3 (by kernel_rfl)) ?_
    refine call39 (ih _ _ r w7 S2 bp m el hv gv hr1 hs7) h83 (v_of hI3 rfl) (v_of hI3 rfl) (fun w8 hf8 hs8 => ?_)
    have hJ8 : ∀ mo b, S2 mo b → hp w8 b = hp w5 b := fun mo b hb => (hf8.block b (hs7.stab mo b hb) (fun (e : b = m) => hs5.mne mo (e ▸ hb))).trans (hJ7 mo b hb)
    have hk8 : hp w8 k = some (.cells #[.int .i64 a.2.1, .int .i64 b.2.1] 149) := by rw [hf8.block k (Nat.lt_of_lt_of_le hklt hf7.size) (fun e => hkm e)]; exact hk7
    refine ⟨hJ8, ?_⟩
    have hI4 := put_world (d := 90) (x := r) (hI3.called hf8 hs5.mne) (by decide)
    refine think_sound EQ_ok.tab hns hpan1 hJ8 (fun w' hw' => ⟨fun mo b hb => (hw' mo b hb).trans (hJ8 mo b hb).symm, by simp⟩) [18, 19] 2 (r13d_eq _ _ r) (by decide) hI4 ?_
    intro L4 st4' a4 hK4 hI4 hf4
    obtain ⟨z, hz, hL⟩ := Option.bind_eq_some_iff.1 hK4
    obtain ⟨hL4, rfl⟩ := Prod.mk.inj (Option.some.inj hL)
    have hL4 := list_arr hL4
    subst hL4
    obtain ⟨pls4, X4, hI4⟩ := slots_spec hI4 hz (junk_base _ _ _)
    refine wpAnyH_done (by kernel_rfl) (hend a4 w8 hI4.size hI4.defers hI4.frm hs8.mp hk8 ?_ ?_ (b_of hI4 rfl)) _
    · rw [hf4 0 (notin (by kernel_rfl)), act_put (by decide), hf3 0 (notin (by kernel_rfl)), act_put (by decide)]; exact g0
    · rw [hf4 7 (notin (by kernel_rfl)), act_put (by decide), hf3 7 (notin (by kernel_rfl)), act_put (by decide)]; exact g7
end Go.Rf

namespace Go.Rf
open Go.Proofs
set_option maxRecDepth 100000

theorem eqD_V (a b : WT) : eqD VTy a b = decide (a = b) := by
  obtain ⟨a1, a2, a3, ⟨⟩⟩ := a
  obtain ⟨b1, b2, b3, ⟨⟩⟩ := b
  by_cases h1 : a1 = b1 <;> by_cases h2 : a2 = b2 <;> by_cases h3 : a3 = b3 <;> simp [eqD, eqL, h1, h2, h3]

/-- two pairs -/
theorem tail9 {h g : HT} {n : Nat} (ih : ∀ (a b : WT) (r : Bool) (w : World) (S : Stab) (bp m el : Nat) (hv gv : Value), alike h g n a b = some r → SameW w S bp m el hv gv h g → Calls Tryz.prog 61 #[.pointer (some ⟨bp, 0, none⟩), valV a, valV b] w (RS w S bp m el hv gv h g r))
    {a b : WT} {r : Bool} {w : World} {S : Stab} {bp m el : Nat} {hv gv : Value} (hs : SameW w S bp m el hv gv h g) (ha : alike h g (n + 1) a b = some r) (a5 : a.1 = 5) (b5 : b.1 = 5)
    {w1 : World} {act : Act} {S1 : Stab} {pls : Nat → Pl} {X : Nat → List Nat} (hI : Inv EQ.toCx w G0 (mkSt SL1 (a, b, ()) junkT) act w1 S1 pls X) (hg : Grows w G0 S S1 w w1) (hs1 : SameW w1 S1 bp m el hv gv h g)
    (t0 : act.tmps.getD 0 undef = .pointer (some ⟨bp, 0, none⟩)) {p1 p2 p3 : String} :
    (Code.seq (.region 9 o9 false) (.seq (.seq (.region 10 o10 true) (.cond (.tmp 54) (.seq (.region 11 #[⟨some 6, .assign (.const (.bool true)), 4, p1, #[], none⟩] false) .ret) .skip)) (.seq (.region 12 o12 true)
      (Code.seq (.seq (.region 13 o13 true) (.cond (.tmp 92) (.seq (.region 14 #[⟨some 6, .assign (.const (.bool false)), 4, p2, #[], none⟩] false) .ret) .skip))
        (.seq (.region 15 o15 true) (.seq (.region 16 #[⟨some 6, .assign (.const (.bool true)), 4, p3, #[], none⟩] false) .ret)))))).wp Tryz.prog (bodyPost Tryz.prog Tryz.f61 (RS w S bp m el hv gv h g r)) act w1 := by
  -- the bounds
  have ha' := ha
  simp only [alike] at ha'
  rw [if_pos (a5.trans b5.symm), if_neg (by omega), if_pos a5] at ha'
  split at ha'
  rotate_left
  · cases ha'
  rename_i hcond
  obtain ⟨hin1, hin2, hlx, hly, hl1, hl2⟩ := hcond
  have hi : 0 ≤ a.2.1 ∧ a.2.1 < 300 := by omega
  have hj : 0 ≤ b.2.1 ∧ b.2.1 < 300 := by omega
  have hpan : ∀ c a w', ¬ bodyPost Tryz.prog Tryz.f61 (RS w S bp m el hv gv h g r) (.panic c) a w' := fun c a w' h => by cases h.2.1
  generalize hc13 : (Code.seq (.seq (.region 13 o13 true) (.cond (.tmp 92) (.seq (.region 14 #[⟨some 6, .assign (.const (.bool false)), 4, p2, #[], none⟩] false) .ret) .skip))
        (.seq (.region 15 o15 true) (.seq (.region 16 #[⟨some 6, .assign (.const (.bool true)), 4, p3, #[], none⟩] false) .ret))) = c13
  -- region 9
  refine wp_seq (wpL_region (J := fun _ => True) ?_)
  have hI1 := hI.repl (t := 0) (by decide) (tv := .a (.sptr PTy (h, g, (), ()))) (by rw [t0]; exact hs1.sptr _ _)
  rw [(List.take_append_drop 4 o9.toList).symm]
  refine wpL_append _ _ (wpL_mono _ ?_ (opsK_sound EQ_ok (fun _ => trivial) 14 [] _ (r9_eq h g a b) hI1))
  rintro a2 w2 ⟨st2', hK2, ⟨S2, pls2, X2, hI2, hg2⟩, hf2, _⟩
  have hf2 : ∀ t, t ∉ dsts (o9.toList.take 4) → a2.tmps.getD t undef = act.tmps.getD t undef := hf2
  simp only at hK2
  split at hK2
  rotate_left
  · cases hK2
  rename_i i0 j0 e44 e46
  obtain ⟨z, hz, hL⟩ := Option.bind_eq_some_iff.1 hK2
  obtain ⟨hLa, hLb⟩ := Prod.mk.inj (Option.some.inj hL)
  obtain ⟨hLc, hLd⟩ := Prod.mk.inj hLb
  clear hL hLb
  subst hLa hLc hLd
  have v44 : a2.eval (.tmp 44) = .int .i64 a.2.1 := by
    have := hI2.tmps 44
    rw [e44] at this
    obtain ⟨vs, e, rfl, _⟩ := this
    rw [eval_tmp, e]; rfl
  have v46 : a2.eval (.tmp 46) = .int .i64 b.2.1 := by
    have := hI2.tmps 46
    rw [e46] at this
    obtain ⟨vs, e, rfl, _⟩ := this
    rw [eval_tmp, e]; rfl
  have hs2 := hs.grow hI2 (hg.trans hg2)
  obtain ⟨pls2, X2, hI2⟩ := slots_spec hI2 hz (junk_base _ _ _)
  have hsz2 : a2.tmps.size = 98 := hI2.size
  have g0 : a2.tmps.getD 0 undef = .pointer (some ⟨bp, 0, none⟩) := (hf2 0 (notin (by kernel_rfl))).trans t0
  rw [o9_l]
  simp only [List.drop_succ_cons, List.drop_zero]
  refine wpL_val (v := .agg #[.int .i64 a.2.1, .int .i64 b.2.1]) (w' := w2) rfl (by simp [execOp, v44, v46, s_build]) ?_
  refine wpL_val (v := .pointer (some ⟨w2.heap.size, 0, none⟩)) (w' := w2.alloc (.cells #[.int .i64 0, .int .i64 0] 149)) rfl (by simp [execOp, s_alloc]) ?_
  refine wpL_skip (w' := w2.alloc (.cells #[.int .i64 a.2.1, .int .i64 b.2.1] 149)) rfl (by simp [execOp, eval_put, eval_ne, size_put, hsz2, s_store]) ?_
  have hk3 : hp (w2.alloc (.cells #[.int .i64 a.2.1, .int .i64 b.2.1] 149)) w2.heap.size = some (.cells #[.int .i64 a.2.1, .int .i64 b.2.1] 149) := hp_alloc_new
  have hI3 := ((hI2.alloc (.cells #[.int .i64 a.2.1, .int .i64 b.2.1] 149)).putJ (d := 47) (v := .agg #[.int .i64 a.2.1, .int .i64 b.2.1]) (by decide) rfl).putJ (d := 7) (v := .pointer (some ⟨w2.heap.size, 0, none⟩)) (by decide) rfl
  have hs3 : SameW (w2.alloc (.cells #[.int .i64 a.2.1, .int .i64 b.2.1] 149)) S2 bp m el hv gv h g := hs2.later (by simp) (fun b hb _ => hp_alloc_old hb) (by
    obtain ⟨es, clock, h1, h2⟩ := hs2.mp
    exact ⟨es, clock, by rw [hp_alloc_old hs2.mlt]; exact h1, h2⟩)
  have hkm : w2.heap.size ≠ m := by have := hs2.mlt; omega
  generalize hk : w2.heap.size = k at *
  generalize hw3 : w2.alloc (.cells #[.int .i64 a.2.1, .int .i64 b.2.1] 149) = w3 at *
  generalize ha3 : (a2.put (some 47) (.agg #[.int .i64 a.2.1, .int .i64 b.2.1])).put (some 7) (.pointer (some ⟨k, 0, none⟩)) = a3 at *
  have k0 : a3.eval (.tmp 0) = .pointer (some ⟨bp, 0, none⟩) := by subst ha3; rw [eval_ne (by decide), eval_ne (by decide)]; exact g0
  have k7 : a3.eval (.tmp 7) = .pointer (some ⟨k, 0, none⟩) := by subst ha3; exact eval_put (by rw [size_put]; omega)
  have hsz3 : a3.tmps.size = 98 := hI3.size
  -- region 10
  show Exit.then _ _ .normal a3 w3
  refine wp_seq (wp_seq (region_hand (by kernel_rfl) (J := fun w' => w' = w3.drew) ?_))
  have hns : Region.noSelect o10 = true := by kernel_rfl
  have hbpm : bp ≠ m := by rintro rfl; exact hs.mne _ hs.pS
  obtain ⟨es, clock, hes, hall⟩ := hs3.mp
  obtain ⟨kl, hkey⟩ := key94 hi hj
  have hallk : ∀ x ∈ es.toList, ∃ l, keyOf Tryz.prog 149 x.key = some l := fun x hx => by
    obtain ⟨i, j, v, h1, h2, h3, h4, _⟩ := hall x hx
    rw [h1]; exact key94 h3 h4
  obtain ⟨v, hlook, hv'⟩ := map_look (P := Tryz.prog) (w := w3.drew) (k := 149) (e := 3) law94 (show Tryz.prog.underlying 94 = some (.map 149 3) by kernel_rfl) (s_zero3 _) (b := m) (show w3.drew.heap[m]? = _ from hes) hallk (key := .agg #[.int .i64 a.2.1, .int .i64 b.2.1]) hkey
  obtain ⟨c, rfl, hc⟩ : ∃ c : Int, v = .int .i64 c ∧ (c > 0 → r = true) := by
    rcases hv' with rfl | ⟨e0, he0, hkk, rfl⟩
    · exact ⟨0, rfl, fun h => by omega⟩
    · obtain ⟨i, j, c, h1, h2, _, _, h5⟩ := hall e0 he0
      refine ⟨c, h2, fun hc => ?_⟩
      rw [h1] at hkk
      simp only [Value.agg.injEq, List.cons.injEq, Array.mk.injEq, Value.int.injEq, true_and, and_true] at hkk
      obtain ⟨n', hn'⟩ := h5 hc
      have q1 := alike_mono (hn' a b a5 b5 hkk.1.symm hkk.2.symm) (max n' (n + 1)) (by omega)
      have q2 := alike_mono ha (max n' (n + 1)) (by omega)
      rw [q1] at q2
      exact (Option.some.inj q2).symm
  rw [o10_size]
  generalize hQ : Exit.then ((Code.cond (.tmp 54) (.seq (.region 11 #[⟨some 6, .assign (.const (.bool true)), 4, p1, #[], none⟩] false) .ret) .skip).wp Tryz.prog (Exit.then ((Code.seq (.region 12 o12 true) c13).wp Tryz.prog (bodyPost Tryz.prog Tryz.f61 (RS w S bp m el hv gv h g r))) (bodyPost Tryz.prog Tryz.f61 (RS w S bp m el hv gv h g r))))
      (Exit.then ((Code.seq (.region 12 o12 true) c13).wp Tryz.prog (bodyPost Tryz.prog Tryz.f61 (RS w S bp m el hv gv h g r))) (bodyPost Tryz.prog Tryz.f61 (RS w S bp m el hv gv h g r))) = Q
  have hpan1 : ∀ c a w', ¬ Q (.panic c) a w' := by subst hQ; exact fun c a w' => hpan c a w'
  refine think_hand (J := fun w' => w' = w3.drew) (v := .pointer (some ⟨bp, 0, none⟩)) hns hpan1 rfl o10_0 rfl (by kernel_rfl) (by simp [Region.wanted]) (fun w' _ => by simp [execOp, k0]) ?_
  refine think_hand (J := fun w' => w' = w3.drew) (v := .pointer (some ⟨bp, 0, none⟩)) hns hpan1 rfl o10_1 rfl (by kernel_rfl) (by simp [Region.wanted]) (fun w' _ => by simp [execOp, eval_put, eval_ne, size_put, hsz3]) ?_
  refine think_hand (J := fun w' => w' = w3.drew) (v := .pointer (some ⟨bp, 2, none⟩)) hns hpan1 rfl o10_2 rfl (by kernel_rfl) (by simp [Region.wanted]) (fun w' _ => by simp [execOp, eval_put, eval_ne, size_put, hsz3, s_field]) ?_
  refine think_hand (J := fun w' => w' = w3.drew) (v := .map (some m)) hns hpan1 rfl o10_3 rfl (by kernel_rfl) (by simp [Region.wanted]) (fun w' hw' => by subst hw'; simp [execOp, eval_put, eval_ne, size_put, hsz3, s_load67 (show hp w3.drew bp = _ from hs3.pb)]) ?_
  refine think_hand (J := fun w' => w' = w3.drew) (v := .agg #[.int .i64 a.2.1, .int .i64 b.2.1]) hns hpan1 rfl o10_4 rfl (by kernel_rfl) (by simp [Region.wanted]) (fun w' hw' => by subst hw'; simp [execOp, eval_put, eval_ne, size_put, hsz3, k7, s_load94 (show hp w3.drew k = _ from hk3)]) ?_
  refine think_hand (J := fun w' => w' = w3.drew) (v := .int .i64 c) hns hpan1 rfl o10_5 rfl (by kernel_rfl) (by simp [Region.wanted]) (fun w' hw' => by subst hw'; simp [execOp, eval_put, eval_ne, size_put, hsz3, hlook]) ?_
  refine think_hand (J := fun w' => w' = w3.drew) (v := .bool (decide (c > 0))) hns hpan1 rfl o10_6 rfl (by kernel_rfl) (by simp [Region.wanted]) (fun w' hw' => by
    have hc0 : ∀ a : Act, a.eval (.const (.int .i64 0)) = .int .i64 0 := fun _ => rfl
    simp [execOp, eval_put, eval_ne, size_put, hsz3, hc0, eqGuard, s_gtr]) ?_
  have hI4 := (((((((hI3.drew).putJ (d := 48) (v := .pointer (some ⟨bp, 0, none⟩)) (by decide) rfl).putJ (d := 49) (v := .pointer (some ⟨bp, 0, none⟩)) (by decide) rfl).putJ (d := 50) (v := .pointer (some ⟨bp, 2, none⟩)) (by decide) rfl).putJ (d := 51) (v := .map (some m)) (by decide) rfl).putJ (d := 52)
    (v := .agg #[.int .i64 a.2.1, .int .i64 b.2.1]) (by decide) rfl).putJ (d := 53) (v := .int .i64 c) (by decide) rfl).putJ (d := 54) (v := .bool (decide (c > 0))) (by decide) rfl
  refine wpAnyH_done (by kernel_rfl) ?_ _
  have k54 : (((((((a3.put (some 48) (.pointer (some ⟨bp, 0, none⟩))).put (some 49) (.pointer (some ⟨bp, 0, none⟩))).put (some 50) (.pointer (some ⟨bp, 2, none⟩))).put (some 51) (.map (some m))).put (some 52)
    (.agg #[.int .i64 a.2.1, .int .i64 b.2.1])).put (some 53) (.int .i64 c)).put (some 54) (.bool (decide (c > 0)))).eval (.tmp 54) = .bool (decide (c > 0)) := by simp [eval_put, size_put, hsz3]
  have k0' : (((((((a3.put (some 48) (.pointer (some ⟨bp, 0, none⟩))).put (some 49) (.pointer (some ⟨bp, 0, none⟩))).put (some 50) (.pointer (some ⟨bp, 2, none⟩))).put (some 51) (.map (some m))).put (some 52)
    (.agg #[.int .i64 a.2.1, .int .i64 b.2.1])).put (some 53) (.int .i64 c)).put (some 54) (.bool (decide (c > 0)))).eval (.tmp 0) = .pointer (some ⟨bp, 0, none⟩) := by simp [eval_ne, k0]
  have k7' : (((((((a3.put (some 48) (.pointer (some ⟨bp, 0, none⟩))).put (some 49) (.pointer (some ⟨bp, 0, none⟩))).put (some 50) (.pointer (some ⟨bp, 2, none⟩))).put (some 51) (.map (some m))).put (some 52)
    (.agg #[.int .i64 a.2.1, .int .i64 b.2.1])).put (some 53) (.int .i64 c)).put (some 54) (.bool (decide (c > 0)))).eval (.tmp 7) = .pointer (some ⟨k, 0, none⟩) := by simp [eval_ne, k7]
  generalize ((((((a3.put (some 48) (.pointer (some ⟨bp, 0, none⟩))).put (some 49) (.pointer (some ⟨bp, 0, none⟩))).put (some 50) (.pointer (some ⟨bp, 2, none⟩))).put (some 51) (.map (some m))).put (some 52)
    (.agg #[.int .i64 a.2.1, .int .i64 b.2.1])).put (some 53) (.int .i64 c)).put (some 54) (.bool (decide (c > 0))) = a4 at *
  have hs4 : SameW w3.drew S2 bp m el hv gv h g := hs3.later (Nat.le_refl _) (fun _ _ _ => rfl) hs3.mp
  subst hQ
  refine wp_cond (t := decide (c > 0)) k54 ?_
  by_cases hc0 : c > 0
  · rw [if_pos (by simpa using hc0)]
    have hr := hc hc0
    subst hr
    refine set6_wp ?_
    have hfm := (hI4.noG (fun x => x = m)).frm
    refine fin39 (put_getD (by have := hI4.size; rw [this]; decide)) (by simp only [Act.put]; exact hI4.defers) ⟨rfl, hfm, hs.later hfm.size (fun b hb hne => hfm.block b hb (fun e => hne e)) hs4.mp⟩
  · rw [if_neg (by simpa using hc0)]
    refine wp_skip ?_
    -- region 12
    show (Code.seq (.region 12 o12 true) c13).wp Tryz.prog _ a4 w3.drew
    refine wp_seq (region_hand (by kernel_rfl) (J := fun w' => w' = w3.drew.drew) ?_)
    have hs5 : SameW w3.drew.drew S2 bp m el hv gv h g := hs4.later (Nat.le_refl _) (fun _ _ _ => rfl) hs4.mp
    have hI5 := (hI4.drew).repl (t := 0) (by decide) (tv := .a (.sptr PTy (h, g, (), ()))) (by rw [show a4.tmps.getD 0 undef = _ from k0']; exact hs5.sptr _ _)
    rw [o12_size]
    refine think_sound (J := fun w' => w' = w3.drew.drew) (Q := Exit.then (c13.wp Tryz.prog (bodyPost Tryz.prog Tryz.f61 (RS w S bp m el hv gv h g r))) (bodyPost Tryz.prog Tryz.f61 (RS w S bp m el hv gv h g r))) EQ_ok.tab (by kernel_rfl) (fun c a w' => hpan c a w') rfl (fun w' hw' => by subst hw'; exact ⟨fun _ _ _ => rfl, fun _ _ _ => rfl⟩) (List.range 20) 20 ((r12_eq h g a b).trans ((if_pos hin1).trans (if_pos hin2))) (by decide) hI5 ?_
    intro L1 st1' a5' hK hI6 hf6
    obtain ⟨z, hz, hL⟩ := Option.bind_eq_some_iff.1 hK
    obtain ⟨hL1, rfl⟩ := Prod.mk.inj (Option.some.inj hL)
    have hL1 := list_arr hL1
    subst hL1
    obtain ⟨pls6, X6, hI6⟩ := slots_spec hI6 hz (junk_base _ _ _)
    have hI6 := hI6.noX (mkR_val _ _ (by decide))
    refine wpAnyH_done (by kernel_rfl) ?_ _
    show c13.wp Tryz.prog _ a5' w3.drew.drew
    subst hc13
    exact tail13 ih hs ha a5 b5 hi hj hlx hly ha' hI6 hs5 ((hf6 0 (notin (by kernel_rfl))).trans k0') ((hf6 7 (notin (by kernel_rfl))).trans k7') hk3 hkm
end Go.Rf

namespace Go.Rf
open Go.Proofs
set_option maxRecDepth 100000

theorem cS_eq : cS = .seq (cl cS) (.seq (cl (cr cS)) (.seq (cl (cr (cr cS))) (Code.seq (.region 9 o9 false) (.seq (.seq (.region 10 o10 true) (.cond (.tmp 54) (.seq (.region 11 #[⟨some 6, .assign (.const (.bool true)), 4, "l30_ship.go:24", #[], none⟩] false) .ret) .skip)) (.seq (.region 12 o12 true)
      (Code.seq (.seq (.region 13 o13 true) (.cond (.tmp 92) (.seq (.region 14 #[⟨some 6, .assign (.const (.bool false)), 4, "l30_ship.go:28", #[], none⟩] false) .ret) .skip))
        (.seq (.region 15 o15 true) (.seq (.region 16 #[⟨some 6, .assign (.const (.bool true)), 4, "l30_ship.go:31", #[], none⟩] false) .ret)))))))) := by kernel_rfl

theorem pre_wr : (wr (.seq (cl cS) (.seq (cl (cr cS)) (cl (cr (cr cS)))))).elem 0 = false := by kernel_rfl

/-- two values, compared -/
theorem same_calls (h g : HT) : ∀ (n : Nat) (a b : WT) (r : Bool) (w : World) (S : Stab) (bp m el : Nat) (hv gv : Value), alike h g n a b = some r → SameW w S bp m el hv gv h g →
    Calls Tryz.prog 61 #[.pointer (some ⟨bp, 0, none⟩), valV a, valV b] w (RS w S bp m el hv gv h g r) := by
  intro n
  induction n with
  | zero => intro a b r w S bp m el hv gv ha; simp [alike] at ha
  | succ n ih =>
    intro a b r w S bp m el hv gv ha hs
    refine calls_of_wp Tryz.func61 (show Tryz.f61.body = some cS by kernel_rfl) ?_
    have hn : Tryz.f61.ntmps = 98 := by kernel_rfl
    rw [hn]
    have ht : ∀ j v, #[Value.pointer (some ⟨bp, 0, none⟩), valV a, valV b][j]? = some v → (#[Value.pointer (some ⟨bp, 0, none⟩), valV a, valV b] ++ Array.replicate (98 - #[Value.pointer (some ⟨bp, 0, none⟩), valV a, valV b].size) undef).getD j undef = v := by
      intro j v hj
      have hlt : j < 3 := (Array.getElem?_eq_some_iff.1 hj).1
      rw [Array.getD_eq_getD_getElem?, Array.getElem?_append_left (by simpa using hlt), hj]; rfl
    generalize hact : ({ tmps := #[Value.pointer (some ⟨bp, 0, none⟩), valV a, valV b] ++ Array.replicate (98 - #[Value.pointer (some ⟨bp, 0, none⟩), valV a, valV b].size) undef, defers := [] } : Act) = act
    have t0 : act.tmps.getD 0 undef = .pointer (some ⟨bp, 0, none⟩) := by rw [← hact]; exact ht 0 _ rfl
    have t1 : act.tmps.getD 1 undef = valV a := by rw [← hact]; exact ht 1 _ rfl
    have t2 : act.tmps.getD 2 undef = valV b := by rw [← hact]; exact ht 2 _ rfl
    have hsz : act.tmps.size = EQ.n := by rw [← hact]; simp; rfl
    obtain ⟨pls0, X0, hI0, _⟩ := init_inv (C := EQ.toCx) (G := G0) (a := act) (w := w) (S := S) hs.stab hs.kl hsz (by rw [← hact]) hs.glb (fun _ _ _ _ => trivial) [] 0 [] () [] rfl rfl (by simp) (by simp) (by simp) (by simp)
    have hI1 : Inv EQ.toCx w G0 (st0 h g a b) act w S pls0 X0 := ((hI0.repl (t := 0) (by decide) (tv := .a (.sptr PTy (h, g, (), ()))) (by rw [t0]; exact hs.sptr _ _)).repl (t := 1) (by decide) (tv := .a (.v VTy a)) (by rw [t1]; exact ⟨_, rfl, rep_V _ _ a⟩)).repl (t := 2) (by decide) (tv := .a (.v VTy b)) (by rw [t2]; exact ⟨_, rfl, rep_V _ _ b⟩)
    rw [cS_eq]
    have early : evalK EQ AQ 0 (.seq (cl cS) (.seq (cl (cr cS)) (cl (cr (cr cS))))) (st0 h g a b) KF = some (.inl r) → ∀ rest : Code, (Code.seq (cl cS) (.seq (cl (cr cS)) (.seq (cl (cr (cr cS))) rest))).wp Tryz.prog (bodyPost Tryz.prog Tryz.f61 (RS w S bp m el hv gv h g r)) act w := by
      intro hV rest
      refine pre_wp EQ_ok (by kernel_rfl) hV hI1 ?_ ?_ ?_
      · intro a' w' st' S' pls' X' hK
        simp only [KF] at hK
        obtain ⟨x, _, h⟩ := Option.bind_eq_some_iff.1 hK
        cases h
      · intro a' w' st' S' pls' X' hK hI' hg'
        simp only [KF] at hK
        split at hK
        · rename_i q e6
          cases hK
          have hfm := (hI'.noG (fun x => x = m)).frm
          have hm : hp w' m = hp w m := hI'.frm.block m hs.mlt (by intro h; cases h)
          refine fin39 (b_of hI' e6) hI'.defers ⟨rfl, hfm, hs.later hfm.size (fun b hb hne => hfm.block b hb (fun e => hne e)) ?_⟩
          obtain ⟨es, clock, h1, h2⟩ := hs.mp
          exact ⟨es, clock, by rw [hm]; exact h1, h2⟩
        · cases hK
      · intro i st' hK
        simp only [KF] at hK
        cases hK
    by_cases e1 : a.1 = b.1
    · by_cases e67 : a.1 = 6 ∨ a.1 = 7
      · have hr : r = (decide (a.2.1 = b.2.1) && decide (h.length = g.length)) := by
          have ha' := ha
          simp only [alike] at ha'
          rw [if_pos e1, if_pos e67] at ha'
          exact (Option.some.inj ha').symm
        refine early ?_ _
        rw [pre_eq, hr]
        rcases e67 with e | e
        · by_cases hN : a.2.1 = b.2.1 <;> simp [e1 ▸ e, e, hN, Int.ofNat_inj]
        · by_cases hN : a.2.1 = b.2.1 <;> simp [e1 ▸ e, e, hN, Int.ofNat_inj]
      · by_cases e5 : a.1 = 5
        · have hV : evalK EQ AQ 0 (.seq (cl cS) (.seq (cl (cr cS)) (cl (cr (cr cS))))) (st0 h g a b) KF = some (.inr (a, b, ())) := by
            rw [pre_eq]
            simp [e1 ▸ e5, e5]
          refine pre_wp EQ_ok (by kernel_rfl) hV hI1 ?_ ?_ ?_
          · intro a1 w1 st1' S1 pls1 X1 hK hI2 hg1 hf1
            simp only [KF] at hK
            obtain ⟨x, hx, h2⟩ := Option.bind_eq_some_iff.1 hK
            cases h2
            have hs1 := hs.grow hI2 hg1
            obtain ⟨pls2, X2, hI3⟩ := slots_spec hI2 hx (junk_base _ _ _)
            exact tail9 ih hs ha e5 (e1 ▸ e5) hI3 hg1 hs1 ((hf1 0 (notin pre_wr)).trans t0)
          · intro a' w' st' S' pls' X' hK
            simp only [KF] at hK
            split at hK <;> cases hK
          · intro i st' hK
            simp only [KF] at hK
            cases hK
        · have hr : r = decide (a = b) := by
            have ha' := ha
            simp only [alike] at ha'
            rw [if_pos e1, if_neg e67, if_neg e5] at ha'
            exact (Option.some.inj ha').symm
          refine early ?_ _
          rw [pre_eq, hr, eqD_V]
          have e6 : ¬ b.1 = 6 := fun h => e67 (.inl (e1.trans h))
          have e7 : ¬ b.1 = 7 := fun h => e67 (.inr (e1.trans h))
          have e5' : ¬ b.1 = 5 := fun h => e5 (e1.trans h)
          simp [e1, e6, e7, e5']
    · have hr : r = false := by
        have ha' := ha
        simp only [alike] at ha'
        rw [if_neg e1] at ha'
        exact (Option.some.inj ha').symm
      refine early ?_ _
      rw [pre_eq, hr]
      simp [e1]
end Go.Rf

namespace Go.Rf
open Go.Proofs
set_option maxRecDepth 100000
noncomputable def cV : Code := (Tryz.f14.body).getD .skip
noncomputable def v3 : Array Oper := opsOf (cl (cr (cr cV)))
noncomputable def v4 : Array Oper := opsOf (cl (cr (cr (cr cV))))
theorem v3_l : v3.toList = [(Oper.mk (some 30) (Op.move (Operand.tmp 0)) 24 "l30_ship.go:38" #[] none),
  (Oper.mk (some 31) (Op.move (Operand.tmp 2)) 24 "l30_ship.go:38" #[] none),
  (Oper.mk (some 32) (Op.makeMap 94 none) 94 "l30_ship.go:38" #[] none),
  (Oper.mk (some 33) (Op.build 96 #[(0, (Operand.tmp 30)), (1, (Operand.tmp 31)), (2, (Operand.tmp 32))]) 96 "l30_ship.go:38" #[(Edge.mk 0 Ground.data), (Edge.mk 1 Ground.data), (Edge.mk 2 Ground.data)] none),
  (Oper.mk (some 9) (Op.alloc 96) 0 "l30_ship.go:38" #[] none),
  (Oper.mk none (Op.store 96 (Operand.tmp 9) (Operand.tmp 33)) 0 "l30_ship.go:38" #[(Edge.mk 4 Ground.data), (Edge.mk 3 Ground.data), (Edge.mk 0 Ground.phase), (Edge.mk 1 Ground.phase), (Edge.mk 2 Ground.phase), (Edge.mk 3 Ground.phase), (Edge.mk 4 Ground.phase)] none)] := by kernel_rfl
theorem v4_l : v4.toList = [(Oper.mk (some 34) (Op.load 26 (Operand.tmp 5)) 26 "l30_ship.go:39" #[] none),
  (Oper.mk (some 35) (Op.load 26 (Operand.tmp 7)) 26 "l30_ship.go:39" #[] none),
  (Oper.mk (some 36) (Op.call (Call.mk (Callee.value (Operand.func 61)) #[(Operand.tmp 9), (Operand.tmp 34), (Operand.tmp 35)] #[96, 26, 26])) 4 "l30_ship.go:39" #[(Edge.mk 0 Ground.data), (Edge.mk 1 Ground.data)] none),
  (Oper.mk (some 8) (Op.assign (Operand.tmp 36)) 4 "l30_ship.go:39" #[(Edge.mk 2 Ground.data), (Edge.mk 2 Ground.chain), (Edge.mk 0 Ground.phase), (Edge.mk 1 Ground.phase), (Edge.mk 2 Ground.phase)] none)] := by kernel_rfl
theorem cV_eq : cV = .seq (cl cV) (.seq (cl (cr cV)) (.seq (.region 3 v3 false) (.seq (.region 4 v4 false) .ret))) := by kernel_rfl

abbrev PL4 : List Slot := [⟨0, .val, HTy⟩, ⟨1, .val, VTy⟩, ⟨2, .val, HTy⟩, ⟨3, .val, VTy⟩]
def SLV : List Slot := [⟨0, .val, HTy⟩, ⟨2, .val, HTy⟩, ⟨5, .box false, VTy⟩, ⟨7, .box false, VTy⟩]
noncomputable def EV (N : Nat) : Cz := { tab := tabQ, n := 37, V := Vp, ann := look [], fn := look [(52, (⟨[HTy], [.bool], i_HeapOk N⟩ : Fn)), (53, (⟨[HTy, VTy], [.bool], i_ValueOk N⟩ : Fn))], fx := look [] }
theorem EV_ok (N : Nat) : EnvOK Tryz.prog (EV N) := ⟨tabQ_ok, look_all (Q := fun t s => Ctr Tryz.prog Vp t s) _ (by
    intro p hp
    simp only [List.mem_cons, List.not_mem_nil, or_false] at hp
    rcases hp with rfl | rfl
    · exact c_i_HeapOk N
    · exact c_i_ValueOk N), (fun _ _ h => by cases h)⟩
def KV (e : Ex) (st : St) : Option (Bool ⊕ LD (tys SLV)) :=
  match e with
  | .ret => (match st.tmps 8 with
    | .a (.v .bool r) => some (.inl r)
    | _ => none)
  | .norm => (slots 37 st SLV).bind fun x => some (.inr x)
  | .exit _ => none
theorem preV_eq (N : Nat) (x : HT × WT × HT × WT × Unit) : evalK (EV N) AQ N (.seq (cl cV) (cl (cr cV))) (mkSt PL4 x junkT) KV =
  (i_HeapOk N (x.1, ())).bind fun r1 =>
((if (!r1.1) = true then
  some true else (i_HeapOk N (x.2.2.1, ())).bind fun r2 =>
  some (!r2.1))).bind fun b3 =>
((if b3 = true then
  some true else (i_ValueOk N (x.1, x.2.1, ())).bind fun r4 =>
  some (!r4.1))).bind fun b5 =>
((if b5 = true then
  some true else (i_ValueOk N (x.2.2.1, x.2.2.2.1, ())).bind fun r6 =>
  some (!r6.1))).bind fun b7 =>
(if b7 = true then
  some (.inl false) else some (.inr (x.1, x.2.2.1, x.2.1, x.2.2.2.1, ()))) := by kernel_rfl
end Go.Rf

namespace Go.Rf
open Go.Proofs
set_option maxRecDepth 100000

theorem v_build (p q : Option Addr) (l1 c1 l2 c2 m : Nat) (w : World) : (Instr.build 96 #[(0, .slice p l1 c1), (1, .slice q l2 c2), (2, .map (some m))]).run Tryz.prog w = .ok (.agg #[.slice p l1 c1, .slice q l2 c2, .map (some m)]) w := by kernel_rfl

theorem v_zero69 : (∀ w, (zeroValue 96).run Tryz.prog w = .ok (.agg #[.slice none 0 0, .slice none 0 0, .map none]) w) ∧ (Tryz.prog.info? 96).map (·.size) = some 3 := zero_of_info (by kernel_rfl)

theorem v_alloc (w : World) : (Instr.alloc 96 true (.tuple #[])).run Tryz.prog w = .ok (.pointer (some ⟨w.heap.size, 0, none⟩)) (w.alloc (.cells #[.slice none 0 0, .slice none 0 0, .map none] 96)) := by
  simp [Instr.alloc, newVar, newRow, v_zero69.1, Value.cells]

theorem v_store (p q : Option Addr) (l1 c1 l2 c2 m : Nat) (w : World) : (Instr.storeAt 96 (.pointer (some ⟨w.heap.size, 0, none⟩)) (.agg #[.slice p l1 c1, .slice q l2 c2, .map (some m)])).run Tryz.prog (w.alloc (.cells #[.slice none 0 0, .slice none 0 0, .map none] 96)) =
    .ok () (w.alloc (.cells #[.slice p l1 c1, .slice q l2 c2, .map (some m)] 96)) :=
  run_storeAt_new w 96 _ _ v_zero69.2 rfl (by simp [Value.oneCell'])

theorem v_map (w : World) : (Instr.makeMap 94 none).run Tryz.prog w = .ok (.map (some w.heap.size)) (w.alloc (.map #[] 0)) := by simp [Instr.makeMap]

theorem fin19 {R : Ending → World → Prop} {a : Act} {r : Bool} {w : World} (h6 : a.tmps.getD 8 undef = .bool r) (hd : a.defers = []) (hR : R (.returned (.bool r)) w) : bodyPost Tryz.prog Tryz.f14 R .ret a w := by
  have e : Tryz.f14.results = #[.tmp 8] := by kernel_rfl
  refine ⟨hd, .bool r, ?_, hR⟩
  rw [Array.getD_eq_getD_getElem?] at h6
  simp [results, e, h6]

theorem slice_of {S : Stab} {H : Heap} {vs : List Value} {x : HT} (h : Rep S H HTy vs x []) : ∃ p l c, vs = [.slice p l c] := by
  obtain ⟨a, len, cap, rfl, _⟩ := h
  exact ⟨a, len, cap, rfl⟩

/-- a value loaded from a variable of one's own -/
theorem wpL_pure {P : Program} {E : Cz} {w0 w : World} {G : Blk} {st : St} {a : Act} {S : Stab} {pls : Nat → Pl} {X : Nat → List Nat} {ops : Array Oper} (hT : TabOK P E.tab) (hI : Inv E.toCx w0 G st a w S pls X) {Q : Exit → Act → World → Prop} {o : Oper} {l : List Oper} {K : Act → World → Prop} {d : Nat} {tv : TV}
    (hg : o.guard = none) (hd : o.dst = some d) (hlt : d < E.n) (h : pureK E.toCx st o.op some = some tv) (hK : ∀ v, Inv E.toCx w0 G (st.put (some d) tv) (a.put (some d) v) w S pls X → wpL P ops (fun _ => True) Q l K (a.put (some d) v) w) :
    wpL P ops (fun _ => True) Q (o :: l) K a w := by
  obtain ⟨v, hrun, hv⟩ := pure_run hT hI h
  refine wpL_val (v := v) (w' := w) hg (hrun w ⟨fun _ _ _ => rfl, fun _ _ _ _ => rfl⟩) ?_
  rw [hd]
  exact hK v (hI.put (fun d' e => by cases e; exact hlt) hv)

theorem reg3 {a2 : Act} {w2 : World} (hsz2 : a2.tmps.size = 37) {p0 p1 : Option Addr} {l0 c0 l1 c1 : Nat} (k0 : a2.eval (.tmp 0) = .slice p0 l0 c0) (k2 : a2.eval (.tmp 2) = .slice p1 l1 c1) {Q : Exit → Act → World → Prop} {K : Act → World → Prop}
    (h : ∀ wm, wm = w2.alloc (.map #[] 0) → K (((((a2.put (some 30) (.slice p0 l0 c0)).put (some 31) (.slice p1 l1 c1)).put (some 32) (.map (some w2.heap.size))).put (some 33) (.agg #[.slice p0 l0 c0, .slice p1 l1 c1, .map (some w2.heap.size)])).put (some 9) (.pointer (some ⟨wm.heap.size, 0, none⟩)))
      (wm.alloc (.cells #[.slice p0 l0 c0, .slice p1 l1 c1, .map (some w2.heap.size)] 96))) : wpL Tryz.prog v3 (fun _ => True) Q v3.toList K a2 w2 := by
  rw [v3_l]
  have hm := v_map w2
  generalize hwm : w2.alloc (.map #[] 0) = wm at hm
  have h := h wm hwm.symm
  exact steps6 (w3 := wm) (w4 := wm) (w5 := wm.alloc (.cells #[.slice none 0 0, .slice none 0 0, .map none] 96)) (w6 := wm.alloc (.cells #[.slice p0 l0 c0, .slice p1 l1 c1, .map (some w2.heap.size)] 96))
    (v1 := .slice p0 l0 c0) (v2 := .slice p1 l1 c1) (v3 := .map (some w2.heap.size)) (v4 := .agg #[.slice p0 l0 c0, .slice p1 l1 c1, .map (some w2.heap.size)]) (v5 := .pointer (some ⟨wm.heap.size, 0, none⟩)) rfl rfl rfl rfl rfl rfl rfl
    (by simp [execOp, k0]) (by simp [execOp, eval_ne, k2]) (by simp [execOp, hm]) (by simp [execOp, eval_put, eval_ne, size_put, hsz2, v_build]) (by simp [execOp, v_alloc]) (by simp [execOp, eval_put, eval_ne, size_put, hsz2, v_store]) h

theorem c_i_SameVal (N : Nat) : Ctr Tryz.prog Vp 14 ⟨[HTy, VTy, HTy, VTy], [.bool], i_SameVal N⟩ := by
  have hbody : Tryz.f14.body = some cV := by kernel_rfl
  refine ⟨?_, ?_⟩
  · intro args w
    have h1 : Tryz.f14.name ≠ "runtime.NumGoroutine" := by
      have : (Tryz.f14.name == "runtime.NumGoroutine") = false := by kernel_rfl
      simpa using this
    simp [callFunc, Tryz.func14, h1, hbody, mark]
  · intro w S args vals fp r hstab hkl hglb ha hnd hfp hF
    obtain ⟨h, a, g, b, ⟨⟩⟩ := args
    obtain ⟨r, ⟨⟩⟩ := r
    refine calls_of_wp Tryz.func14 hbody ?_
    have hn : Tryz.f14.ntmps = 37 := by kernel_rfl
    rw [hn]
    have hlen : vals.length = 4 := ha.length
    obtain ⟨pls0, X0, hI0, hX0⟩ := init_inv (C := (EV N).toCx) (G := (Blk.of fun b => b ∈ fp)) (a := { tmps := vals.toArray ++ Array.replicate (37 - vals.toArray.size) undef, defers := [] }) hstab hkl
      (by simp [hlen]; rfl) rfl hglb (fun _ _ _ _ => trivial) PL4 0 vals (h, a, g, b, ()) fp (by rfl) ha hnd (fun b hb => ⟨(hfp b hb).1, (hfp b hb).2, hb⟩)
      (by intro j v hj
          have hlt : j < vals.length := (List.getElem?_eq_some_iff.1 hj).1
          simp only [Nat.zero_add, Array.getD_eq_getD_getElem?]
          rw [Array.getElem?_append_left (by simpa using hlt)]
          simp [hj]) (by show 0 + 4 ≤ 37; omega)
    generalize ({ tmps := vals.toArray ++ Array.replicate (37 - vals.toArray.size) undef, defers := [] } : Act) = act at hI0 ⊢
    rw [cV_eq]
    have hfin : ∀ (q : Bool) (a' : Act) (w' : World), a'.tmps.getD 8 undef = .bool q → a'.defers = [] → q = r → Frm w w' (Blk.of fun b => b ∈ fp) → bodyPost Tryz.prog Tryz.f14 (fun e w' => ∃ rv T g, e = .returned (retVal rv) ∧ Frm w w' (Blk.of fun b => b ∈ fp) ∧ ArgsRel (fun _ => T) (hp w') [.bool] rv (r, ()) g ∧
        (∀ b, T b → b < w'.heap.size ∧ (S .keep b ∨ w.heap.size ≤ b ∨ b ∈ fp)) ∧ g.Nodup ∧ (∀ b ∈ g, b < w'.heap.size ∧ ¬ T b ∧ (w.heap.size ≤ b ∨ b ∈ fp))) .ret a' w' := by
      rintro q a' w' h8 hd rfl hf
      exact fin19 h8 hd ⟨[.bool q], fun b => S .keep b, [], rfl, hf, ⟨[.bool q], [], [], rfl, ⟨rfl, rfl⟩, rfl, rfl⟩, fun b hb => ⟨Nat.lt_of_lt_of_le (hstab _ b hb) hf.size, .inl hb⟩, by simp, by simp⟩
    -- what the tests say
    have hV : ∃ res, evalK (EV N) AQ N (.seq (cl cV) (cl (cr cV))) (mkSt PL4 (h, a, g, b, ()) junkT) KV = some res ∧ (res = .inl false ∧ r = false ∨ res = .inr (h, g, a, b, ()) ∧ alike h g N a b = some r) := by
      unfold i_SameVal at hF
      simp only at hF
      obtain ⟨r1, e1, hF⟩ := Option.bind_eq_some_iff.1 hF
      obtain ⟨b3, e3, hF⟩ := Option.bind_eq_some_iff.1 hF
      obtain ⟨b5, e5, hF⟩ := Option.bind_eq_some_iff.1 hF
      obtain ⟨b7, e7, hF⟩ := Option.bind_eq_some_iff.1 hF
      split at hF
      · rename_i h7
        simp only [Option.some.injEq, Prod.mk.injEq, and_true] at hF
        refine ⟨.inl false, (preV_eq N (h, a, g, b, ())).trans ?_, .inl ⟨rfl, hF.symm⟩⟩
        simp only
        rw [e1, Option.bind_some, e3, Option.bind_some, e5, Option.bind_some, e7, Option.bind_some, if_pos h7]
      · rename_i h7
        obtain ⟨r8, e8, hF⟩ := Option.bind_eq_some_iff.1 hF
        simp only [Option.some.injEq, Prod.mk.injEq, and_true] at hF
        subst hF
        refine ⟨.inr (h, g, a, b, ()), (preV_eq N (h, a, g, b, ())).trans ?_, .inr ⟨rfl, e8⟩⟩
        simp only
        rw [e1, Option.bind_some, e3, Option.bind_some, e5, Option.bind_some, e7, Option.bind_some, if_neg h7]
    obtain ⟨res, hV, hres⟩ := hV
    simp only [evalK] at hV
    have hret : ∀ (a' : Act) (w' : World) (st' : St) (S' : Stab) (pls' : Nat → Pl) (X' : Nat → List Nat), KV .ret st' = some res → Inv (EV N).toCx w (Blk.of fun b => b ∈ fp) st' a' w' S' pls' X' → bodyPost Tryz.prog Tryz.f14 (fun e w' => ∃ rv T g, e = .returned (retVal rv) ∧ Frm w w' (Blk.of fun b => b ∈ fp) ∧ ArgsRel (fun _ => T) (hp w') [.bool] rv (r, ()) g ∧
        (∀ b, T b → b < w'.heap.size ∧ (S .keep b ∨ w.heap.size ≤ b ∨ b ∈ fp)) ∧ g.Nodup ∧ (∀ b ∈ g, b < w'.heap.size ∧ ¬ T b ∧ (w.heap.size ≤ b ∨ b ∈ fp))) .ret a' w' := by
      intro a' w' st' S' pls' X' hK hI
      simp only [KV] at hK
      split at hK
      · rename_i q e8
        cases hK
        rcases hres with ⟨e, hr⟩ | ⟨e, _⟩
        · cases e
          exact hfin false a' w' (b_of hI e8) hI.defers hr.symm hI.frm
        · cases e
      · cases hK
    refine wp_seq (wp_mono (evalK_sound (EV_ok N) (by kernel_rfl) AQ N _ hV hI0) ?_)
    rintro e' a1 w1 ⟨e1, st1, rfl, h1, ⟨S1, pls1, X1, hI1, hg1⟩, hf1⟩
    cases e1 with
    | exit i => simp [KV] at h1
    | ret => exact hret _ _ _ _ _ _ h1 hI1
    | norm =>
      refine wp_seq (wp_mono (evalK_sound (EV_ok N) (by kernel_rfl) AQ N _ h1 hI1) ?_)
      rintro e' a2 w2 ⟨e2, st2, rfl, h2, ⟨S2, pls2, X2, hI2, hg2⟩, hf2⟩
      cases e2 with
      | exit i => simp [KV] at h2
      | ret => exact hret _ _ _ _ _ _ h2 hI2
      | norm =>
        simp only [KV] at h2
        obtain ⟨x, hx, hxx⟩ := Option.bind_eq_some_iff.1 h2
        cases hxx
        rcases hres with ⟨e, _⟩ | ⟨e, hal⟩
        · cases e
        cases e
        have hg := hg1.trans hg2
        obtain ⟨pls3, X3, hI3⟩ := slots_spec hI2 hx (junk_base _ _ _)
        have hsz2 : a2.tmps.size = 37 := hI3.size
        -- the two heaps, as values
        obtain ⟨vs0, e0, hr0⟩ : TRel S2 (hp w2) pls3 _ (a2.tmps.getD 0 undef) (.a (.v HTy h)) := hI3.tmps 0
        obtain ⟨vs1, e1, hr1⟩ : TRel S2 (hp w2) pls3 _ (a2.tmps.getD 2 undef) (.a (.v HTy g)) := hI3.tmps 2
        obtain ⟨p0, l0, c0, rfl⟩ := slice_of hr0
        obtain ⟨p1, l1, c1, rfl⟩ := slice_of hr1
        have k0 : a2.eval (.tmp 0) = .slice p0 l0 c0 := e0
        have k2 : a2.eval (.tmp 2) = .slice p1 l1 c1 := e1
        -- region 3
        refine wp_seq (wpL_region (J := fun _ => True) ?_)
        refine reg3 hsz2 k0 k2 (fun wm hwm => ?_)
        have hI3a := hI3.alloc (.map #[] 0)
        have hm2 : hp (w2.alloc (.map #[] 0)) w2.heap.size = some (.map #[] 0) := hp_alloc_new
        have hold2 : ∀ b, b < w2.heap.size → hp (w2.alloc (.map #[] 0)) b = hp w2 b := fun b hb => hp_alloc_old hb
        have hszm : (w2.alloc (.map #[] 0)).heap.size = w2.heap.size + 1 := by simp
        have hos : (w2.alloc (.map #[] 0)).os = w2.os ∧ (w2.alloc (.map #[] 0)).tape = w2.tape ∧ (w2.alloc (.map #[] 0)).output = w2.output := ⟨rfl, rfl, rfl⟩
        rw [← hwm] at hI3a hm2 hold2 hszm hos
        clear hwm
        have hI4 := ((((((hI3a.alloc (.cells #[.slice p0 l0 c0, .slice p1 l1 c1, .map (some w2.heap.size)] 96)).putJ (d := 30) (v := .slice p0 l0 c0) (show 30 < 37 by decide) rfl).putJ (d := 31) (v := .slice p1 l1 c1) (show 31 < 37 by decide) rfl).putJ (d := 32) (v := .map (some w2.heap.size)) (show 32 < 37 by decide) rfl).putJ (d := 33)
          (v := .agg #[.slice p0 l0 c0, .slice p1 l1 c1, .map (some w2.heap.size)]) (show 33 < 37 by decide) rfl).putJ (d := 9) (v := .pointer (some ⟨wm.heap.size, 0, none⟩)) (show 9 < 37 by decide) rfl)
        have k9 : (((((a2.put (some 30) (.slice p0 l0 c0)).put (some 31) (.slice p1 l1 c1)).put (some 32) (.map (some w2.heap.size))).put (some 33) (.agg #[.slice p0 l0 c0, .slice p1 l1 c1, .map (some w2.heap.size)])).put (some 9) (.pointer (some ⟨wm.heap.size, 0, none⟩))).eval (.tmp 9) =
          .pointer (some ⟨wm.heap.size, 0, none⟩) := eval_put (by simp [size_put, hsz2])
        generalize ((((a2.put (some 30) (.slice p0 l0 c0)).put (some 31) (.slice p1 l1 c1)).put (some 32) (.map (some w2.heap.size))).put (some 33) (.agg #[.slice p0 l0 c0, .slice p1 l1 c1, .map (some w2.heap.size)])).put (some 9) (.pointer (some ⟨wm.heap.size, 0, none⟩)) = a3 at *
        -- the pairing in the world
        have hold : ∀ b, b < w2.heap.size → hp (wm.alloc (.cells #[.slice p0 l0 c0, .slice p1 l1 c1, .map (some w2.heap.size)] 96)) b = hp w2 b := fun b hb => by
          rw [hp_alloc_old (by omega), hold2 b hb]
        have hSl : ∀ mo b, S2 mo b → b < w2.heap.size := hI3.stab
        have hs : SameW (wm.alloc (.cells #[.slice p0 l0 c0, .slice p1 l1 c1, .map (some w2.heap.size)] 96)) (fun mo b => S2 mo b ∨ (mo = .lend ∧ b = wm.heap.size)) wm.heap.size w2.heap.size 96 (.slice p0 l0 c0) (.slice p1 l1 c1) h g := by
          refine ⟨?_, ?_, ⟨fun b hb => .inl (hI3.glb.1 b hb), Vp.loc w2 _ (fun b hb => hold b (hSl _ _ (hI3.glb.1 b hb))) hI3.glb.2⟩, ?_, ?_, hp_alloc_new, .inr ⟨rfl, rfl⟩, ?_, ⟨#[], 0, ?_, by simp⟩⟩
          · rintro mo b (h | ⟨_, rfl⟩)
            · have := hSl _ _ h; simp; omega
            · simp
          · rintro b (h | ⟨h, _⟩)
            · exact .inl (hI3.kl b h)
            · cases h
          · exact (hr0.heap (fun mo b hb => hold b (hSl _ _ hb)) (by simp)).stab (fun _ _ h => .inl h)
          · exact (hr1.heap (fun mo b hb => hold b (hSl _ _ hb)) (by simp)).stab (fun _ _ h => .inl h)
          · rintro mo (h | ⟨_, h⟩)
            · have := hSl _ _ h; omega
            · omega
          · rw [hp_alloc_old (by omega)]; exact hm2
        have hsz3 : w2.heap.size ≤ (wm.alloc (.cells #[.slice p0 l0 c0, .slice p1 l1 c1, .map (some w2.heap.size)] 96)).heap.size := by simp; omega
        have hos3 : (wm.alloc (.cells #[.slice p0 l0 c0, .slice p1 l1 c1, .map (some w2.heap.size)] 96)).os = w2.os ∧ (wm.alloc (.cells #[.slice p0 l0 c0, .slice p1 l1 c1, .map (some w2.heap.size)] 96)).tape = w2.tape ∧ (wm.alloc (.cells #[.slice p0 l0 c0, .slice p1 l1 c1, .map (some w2.heap.size)] 96)).output = w2.output := hos
        generalize wm.alloc (.cells #[.slice p0 l0 c0, .slice p1 l1 c1, .map (some w2.heap.size)] 96) = w3 at *
        -- region 4
        show Exit.then _ _ .normal a3 w3
        refine wp_seq (wpL_region (J := fun _ => True) ?_)
        rw [v4_l]
        refine wpL_pure (tv := .a (.v VTy a)) (EV_ok N).tab hI4 rfl rfl (show 34 < 37 by decide) (by kernel_rfl) (fun v5 hI5 => ?_)
        refine wpL_pure (tv := .a (.v VTy b)) (EV_ok N).tab hI5 rfl rfl (show 35 < 37 by decide) (by kernel_rfl) (fun v6 hI6 => ?_)
        simp only [wpL]
        rw [if_pos (by simp [Region.wanted])]
        refine call39 (same_calls h g N a b r w3 _ _ _ _ _ _ hal hs) (by rw [eval_ne (by decide), eval_ne (by decide)]; exact k9) (v_of hI6 rfl) (v_of hI6 rfl) (fun w4 hf4 hs4 => ⟨trivial, ?_⟩)
        have hsz6 : ((a3.put (some 34) v5).put (some 35) v6).tmps.size = 37 := hI6.size
        have hd6 : ((a3.put (some 34) v5).put (some 35) v6).defers = [] := hI6.defers
        generalize (a3.put (some 34) v5).put (some 35) v6 = a4 at *
        rw [if_pos (by simp [Region.wanted])]
        have hrun : (execOp (a4.put (some 36) (.bool r)).eval (Oper.mk (some 8) (Op.assign (Operand.tmp 36)) 4 "l30_ship.go:39" #[(Edge.mk 2 Ground.data), (Edge.mk 2 Ground.chain), (Edge.mk 0 Ground.phase), (Edge.mk 1 Ground.phase), (Edge.mk 2 Ground.phase)] none)).run Tryz.prog w4 = .ok (.value (.bool r)) w4 := by
          simp [execOp, eval_put, hsz6]
        simp only [Oper.wp]
        rw [hrun]
        refine ⟨trivial, ?_⟩
        refine wp_ret ?_
        refine hfin r _ w4 (put_getD (by rw [size_put]; omega)) (by simp only [Act.put]; exact hd6) rfl ?_
        have hfw := hI3.frm
        have hm3 := hfw.size
        refine ⟨hf4.os.trans (hos3.1.trans hfw.os), hf4.tape.trans (hos3.2.1.trans hfw.tape), hf4.output.trans (hos3.2.2.trans hfw.output), by have := hf4.size; omega, fun x hx hG => ?_⟩
        · rw [hf4.block x (by omega) (fun (e : x = w2.heap.size) => by omega), hold x (by omega)]
          exact hfw.block x hx hG
end Go.Rf

namespace Go.Rf
open Go.Proofs
set_option maxRecDepth 100000
noncomputable def E_l_FnShip (N : Nat) : Cz := { tab := tabP, n := 134, V := Vp, ann := look [], fn := look [(8, (⟨[(.sl .lend (.int .u8))], [.bool], l_big N⟩ : Fn)), (12, (⟨[(.sl .lend (.pair (.int .i64) (.pair .str (.pair (.int .i64) (.pair (.int .i64) (.pair (.sl .lend .str) (.pair (.sl .lend (.pair (.int .i64) (.pair (.int .i64) (.pair .str .unit)))) .unit)))))))], [.bool], s_HeapOk N⟩ : Fn)), (13, (⟨[(.sl .lend (.pair (.int .i64) (.pair (.int .i64) (.pair .str .unit)))), (.sl .lend (.pair (.int .i64) (.pair (.int .i64) (.pair .str .unit))))], [.bool], l_sameVals N⟩ : Fn)), (14, (⟨[(.sl .lend (.pair (.int .i64) (.pair .str (.pair (.int .i64) (.pair (.int .i64) (.pair (.sl .lend .str) (.pair (.sl .lend (.pair (.int .i64) (.pair (.int .i64) (.pair .str .unit)))) .unit))))))), (.pair (.int .i64) (.pair (.int .i64) (.pair .str .unit))), (.sl .lend (.pair (.int .i64) (.pair .str (.pair (.int .i64) (.pair (.int .i64) (.pair (.sl .lend .str) (.pair (.sl .lend (.pair (.int .i64) (.pair (.int .i64) (.pair .str .unit)))) .unit))))))), (.pair (.int .i64) (.pair (.int .i64) (.pair .str .unit)))], [.bool], i_SameVal N⟩ : Fn)), (15, (⟨[(.sl .lend (.pair (.int .i64) (.pair .str (.pair (.int .i64) (.pair (.int .i64) (.pair (.sl .lend .str) (.pair (.sl .lend (.pair (.int .i64) (.pair (.int .i64) (.pair .str .unit)))) .unit))))))), (.pair (.int .i64) (.pair (.int .i64) (.pair .str .unit))), (.sl .lend (.pair (.int .i64) (.pair .str (.pair (.int .i64) (.pair (.int .i64) (.pair (.sl .lend .str) (.pair (.sl .lend (.pair (.int .i64) (.pair (.int .i64) (.pair .str .unit)))) .unit))))))), (.pair (.int .i64) (.pair (.int .i64) (.pair .str .unit)))], [.bool], s_SameVal N⟩ : Fn)), (16, (⟨[(.sl .lend (.pair (.int .i64) (.pair .str (.pair (.int .i64) (.pair (.int .i64) (.pair (.sl .lend .str) (.pair (.sl .lend (.pair (.int .i64) (.pair (.int .i64) (.pair .str .unit)))) .unit))))))), (.pair (.int .i64) (.pair (.int .i64) (.pair .str .unit)))], [(.int .i64)], s_Weight N⟩ : Fn))], fx := look [(9, (⟨[.no], [(.sl .keep (.int .u8))], [.val, .val, .val], [(.sl .own (.pair (.int .i64) (.pair .str (.pair (.int .i64) (.pair (.int .i64) (.pair (.sl .own .str) (.pair (.sl .own (.pair (.int .i64) (.pair (.int .i64) (.pair .str .unit)))) .unit))))))), (.pair (.int .i64) (.pair (.int .i64) (.pair .str .unit))), (.sl .own (.pair (.int .i64) (.pair .str (.pair (.int .i64) (.pair (.int .i64) (.pair (.sl .own .str) (.pair (.sl .own (.pair (.int .i64) (.pair (.int .i64) (.pair .str .unit)))) .unit)))))))], s_DrawShip N⟩ : Fx)), (10, (⟨[.no, .no, .no], [(.sl .lend (.pair (.int .i64) (.pair .str (.pair (.int .i64) (.pair (.int .i64) (.pair (.sl .lend .str) (.pair (.sl .lend (.pair (.int .i64) (.pair (.int .i64) (.pair .str .unit)))) .unit))))))), (.pair (.int .i64) (.pair (.int .i64) (.pair .str .unit))), (.sl .lend (.pair (.int .i64) (.pair .str (.pair (.int .i64) (.pair (.int .i64) (.pair (.sl .lend .str) (.pair (.sl .lend (.pair (.int .i64) (.pair (.int .i64) (.pair .str .unit)))) .unit)))))))], [.val, .val, .val], [(.sl .own (.pair (.int .i64) (.pair .str (.pair (.int .i64) (.pair (.int .i64) (.pair (.sl .own .str) (.pair (.sl .own (.pair (.int .i64) (.pair (.int .i64) (.pair .str .unit)))) .unit))))))), (.pair (.int .i64) (.pair (.int .i64) (.pair .str .unit))), .bool], i_Ship N⟩ : Fx)), (11, (⟨[.no, .no, .no], [(.sl .lend (.pair (.int .i64) (.pair .str (.pair (.int .i64) (.pair (.int .i64) (.pair (.sl .lend .str) (.pair (.sl .lend (.pair (.int .i64) (.pair (.int .i64) (.pair .str .unit)))) .unit))))))), (.pair (.int .i64) (.pair (.int .i64) (.pair .str .unit))), (.sl .lend (.pair (.int .i64) (.pair .str (.pair (.int .i64) (.pair (.int .i64) (.pair (.sl .lend .str) (.pair (.sl .lend (.pair (.int .i64) (.pair (.int .i64) (.pair .str .unit)))) .unit)))))))], [.val, .val, .val], [(.sl .own (.pair (.int .i64) (.pair .str (.pair (.int .i64) (.pair (.int .i64) (.pair (.sl .own .str) (.pair (.sl .own (.pair (.int .i64) (.pair (.int .i64) (.pair .str .unit)))) .unit))))))), (.pair (.int .i64) (.pair (.int .i64) (.pair .str .unit))), .bool], s_Ship N⟩ : Fx))] }
def A_l_FnShip : An := { join := look [], loop := look [(0, ⟨[⟨3, .own false, (.sl .own (.pair (.int .i64) (.pair .str (.pair (.int .i64) (.pair (.int .i64) (.pair (.sl .own .str) (.pair (.sl .own (.pair (.int .i64) (.pair (.int .i64) (.pair .str .unit)))) .unit)))))))⟩, ⟨4, .box false, (.pair (.int .i64) (.pair (.int .i64) (.pair .str .unit)))⟩, ⟨5, .own false, (.sl .own (.pair (.int .i64) (.pair .str (.pair (.int .i64) (.pair (.int .i64) (.pair (.sl .own .str) (.pair (.sl .own (.pair (.int .i64) (.pair (.int .i64) (.pair .str .unit)))) .unit)))))))⟩, ⟨6, .own false, (.sl .own (.pair (.int .i64) (.pair .str (.pair (.int .i64) (.pair (.int .i64) (.pair (.sl .own .str) (.pair (.sl .own (.pair (.int .i64) (.pair (.int .i64) (.pair .str .unit)))) .unit)))))))⟩, ⟨7, .box false, (.pair (.int .i64) (.pair (.int .i64) (.pair .str .unit)))⟩, ⟨12, .val, (.int .i64)⟩], [⟨3, .own false, (.sl .own (.pair (.int .i64) (.pair .str (.pair (.int .i64) (.pair (.int .i64) (.pair (.sl .own .str) (.pair (.sl .own (.pair (.int .i64) (.pair (.int .i64) (.pair .str .unit)))) .unit)))))))⟩, ⟨4, .box false, (.pair (.int .i64) (.pair (.int .i64) (.pair .str .unit)))⟩, ⟨5, .own false, (.sl .own (.pair (.int .i64) (.pair .str (.pair (.int .i64) (.pair (.int .i64) (.pair (.sl .own .str) (.pair (.sl .own (.pair (.int .i64) (.pair (.int .i64) (.pair .str .unit)))) .unit)))))))⟩, ⟨6, .own false, (.sl .own (.pair (.int .i64) (.pair .str (.pair (.int .i64) (.pair (.int .i64) (.pair (.sl .own .str) (.pair (.sl .own (.pair (.int .i64) (.pair (.int .i64) (.pair .str .unit)))) .unit)))))))⟩, ⟨7, .box false, (.pair (.int .i64) (.pair (.int .i64) (.pair .str .unit)))⟩], [2, 12, 51, 52, 53, 54, 55, 56, 57, 58, 59, 60, 61, 62, 63, 64, 65, 66, 67, 68, 69, 70, 71, 72, 73, 74, 75, 76, 77, 78, 79, 80, 81, 82, 83, 84, 85, 86, 87]⟩)], ret := [⟨2, .val, .bool⟩] }
theorem c_l_FnShip (N : Nat) : Ctr Tryz.prog Vp 3 ⟨[(.sl .keep (.int .u8))], [.bool], l_FnShip N⟩ := by
  have hE : EnvOK Tryz.prog (E_l_FnShip N) := ⟨tabP_ok, look_all (Q := fun t s => Ctr Tryz.prog Vp t s) _ (by
    intro p hp
    simp only [List.mem_cons, List.not_mem_nil, or_false] at hp
    rcases hp with rfl | rfl | rfl | rfl | rfl | rfl
    · exact c_l_big N
    · exact c_s_HeapOk N
    · exact c_l_sameVals N
    · exact c_i_SameVal N
    · exact c_s_SameVal N
    · exact c_s_Weight N), look_all (Q := fun t s => CtrX Tryz.prog Vp t s) _ (by
    intro p hp
    simp only [List.mem_cons, List.not_mem_nil, or_false] at hp
    rcases hp with rfl | rfl | rfl
    · exact c_s_DrawShip N
    · exact c_i_Ship N
    · exact c_s_Ship N)⟩
  have h := fn_sound hE (by kernel_rfl) (N := N) (A := A_l_FnShip) (pl := [⟨0, .val, (.sl .keep (.int .u8))⟩]) (fid := 3) (fn := Tryz.f3) (c := ((Tryz.f3.body).getD .skip)) ⟨Tryz.func3, by kernel_rfl, by kernel_rfl, by kernel_rfl, Nat.le_of_ble_eq_true (by kernel_rfl), by kernel_rfl, by kernel_rfl, Nat.le_of_ble_eq_true (by kernel_rfl), by kernel_rfl⟩
  have e : l_FnShip N = evalF (E_l_FnShip N) A_l_FnShip N [⟨0, .val, (.sl .keep (.int .u8))⟩] ((Tryz.f3.body).getD .skip) := funext fun x => by kernel_rfl
  rw [e]
  exact h
end Go.Rf
