/-
  Proved: the statement FnExactRecordsOfCardSaid: the program's RecordsOf returns what the reference's returns, for all arguments; on the conditions that the given card says (the listed variables of the library hold what the program's text lays).
-/
import Derived.Test.YtcgneindmpkhgaaGreatDoorRCon
import Derived.Test.YtcgneindmpkhgaaGreatDoorRLaw
import Derived.Test.YtcgneindmpkhgaaGreatDoorRRfD
import Derived.Lib.LaidTab
import Derived.Lib.LaidU8
import Derived.Shelf.Vars
import Derived.Stop.LaidErr
import Derived.Lay
import Derived.SevenTiedAt
import Derived.Test.YtcgneindmpkhgaaGreatDoorTie
import Derived.Test.YtcgneindmpkhgaaGreatDoorCards
import Derived.Test.YtcgneindmpkhgaaGreatDoorRWld
import Derived.Test.YtcgneindmpkhgaaGreatDoorRUse
import Derived.Test.YtcgneindmpkhgaaGreatDoorRConB
set_option linter.unusedSimpArgs false
set_option linter.unusedVariables false
set_option autoImplicit false
namespace Go.Rf
open Go.Proofs Go.Proofs.YtcgneindmpkhgaaGreatDoor Go.ChangeShapes Go.WideShapes Go.ChangeAt Go.RowKit
set_option maxRecDepth 100000
theorem iface_of_reads {P : Program} {w : World} {n nm : String} {d : DataW Unit} {g : Nat} {ti : TypeId} {ms : Array (String × TypeId)} (h : Lib.VarReads P w n (.iface nm d)) (hg : P.globalNamed n = some g)
  (ht : (P.globals[g]?).map (·.type) = some ti) (hi : P.underlying ti = some (.interface ms)) : ∃ t p, w.cell? ⟨g, 0, none⟩ = some (.iface t p) := by
 obtain ⟨g', t', cs, fuel, p, h1, h2, h3, h4⟩ := h
 obtain rfl := Option.some.inj (hg.symm.trans h1)
 obtain rfl := Option.some.inj (ht.symm.trans h2)
 have key : ∃ t v, cs.toList = [.iface t v] := by
  cases fuel with
  | zero => simp [DataW.trod] at h4
  | succ k =>
   unfold DataW.trod at h4
   rw [hi] at h4
   split at h4 <;> first | (exact ⟨_, _, ‹_›⟩) | simp_all
 obtain ⟨t, v, hcs⟩ := key
 refine ⟨t, v, ?_⟩
 have e : cs = #[.iface t v] := by rw [← Array.toArray_toList (xs := cs), hcs]
 subst e
 unfold World.var? at h3
 rw [hg] at h3
 simp only [oB] at h3
 split at h3
 ·rename_i cs' _ _ hh
  cases h3
  simp [World.cell?, hh]
 ·cases h3
theorem heap_lt {w : World} {b : Nat} {v : Value} (h : w.cell? ⟨b, 0, none⟩ = some v) : b < w.heap.size := by
 unfold World.cell? at h
 split at h
 ·rename_i hb; exact (Array.getElem?_eq_some_iff.1 hb).1
 ·cases h
theorem gW_of {W : World} (hL : laidMet Tryz.prog Rows.fnExactRecordsOfRow.laid W) (hS : W.ShapedOpen Tryz.prog) : (∀ b, b < Vp.n → b < W.heap.size) ∧ Vp.holds W := by
 have h0 : ∃ m, W.cell? ⟨0, 0, none⟩ = some (.int .i64 m) :=
  cell_of_shapedOpen_int (P := Tryz.prog) (g := 0) (t := 3) (zero := #[.int .i64 0]) hS (of_decide_eq_true (by kernel_rfl)) (by kernel_rfl) rfl (by kernel_rfl) (by kernel_rfl) Tryz.underlying3
 have h1 : Lib.TabIs Tryz.prog W "internal/strconv.uint64pow10" IntKind.u64 Lib.pow10Tab :=
  Lib.tabIs_of_head (g := 3) (t := 336) (e := 314) (n := 20) (by kernel_rfl) (by kernel_rfl) Tryz.underlying336 Tryz.underlying314 (by kernel_rfl) (by kernel_rfl) hL.tail.tail
 have h2 : ∃ t p, W.cell? ⟨1, 0, none⟩ = some (.iface t p) :=
  iface_of_reads (ti := 300) (ms := #[("Error", 342)]) (Lib.laidMet.reads hL (.tail _ (.tail _ (.tail _ (.tail _ (.head _)))))) (by kernel_rfl) (by kernel_rfl) (by kernel_rfl)
 have h3 : ∃ t p, W.cell? ⟨2, 0, none⟩ = some (.iface t p) :=
  iface_of_reads (ti := 300) (ms := #[("Error", 342)]) (Lib.laidMet.reads hL (.tail _ (.tail _ (.tail _ (.head _))))) (by kernel_rfl) (by kernel_rfl) (by kernel_rfl)
 refine ⟨fun b hb => ?_, h0, h1, h2, h3⟩
 have hb : b < 4 := hb
 have hz : (0 : Nat) < Lib.pow10Tab.length := by decide
 have h4 := Lib.TabIs.cell h1 (g := 3) (by kernel_rfl) 0 hz
 have := heap_lt h4
 omega
end Go.Rf
namespace Go.Rf
open Go.Proofs Go.Proofs.YtcgneindmpkhgaaGreatDoor Go.ChangeShapes Go.WideShapes Go.ChangeAt Go.RowKit
set_option maxRecDepth 100000
theorem FType_of {x : TT} (h : Lim (.pair .str (.pair (.int .i64) .unit)) x) : F_Type x := h.1
theorem FNode_of {x : NT} (h : Lim t180l x) : F_Node x := ⟨h.2.2.1, h.2.2.2.1, h.2.2.2.2.1.1⟩
theorem FProg_of {x : PT} (h : Lim t165l x) : F_Prog x := ⟨h.1.1, fun s hs => FNode_of (h.1.2 s hs)⟩
theorem FDef_of {x : DT} (h : Lim t188l x) : F_Def x := ⟨h.1, FProg_of h.2.1⟩
theorem FSrc_of {x : ST} (h : Lim t75l x) : F_Src x :=
 ⟨h.1, h.2.1, h.2.2.1, ⟨h.2.2.2.1.1, fun t ht => FType_of (h.2.2.2.1.2 t ht)⟩, ⟨h.2.2.2.2.1.1, fun t ht => FDef_of (h.2.2.2.2.1.2 t ht)⟩, ⟨h.2.2.2.2.2.1.1, fun t ht => FDef_of (h.2.2.2.2.2.1.2 t ht)⟩⟩
theorem FValue_of {x : VT} (h : Lim t103o x) : F_Value x := h.2.2.1
theorem FCell_of {x : CT} (h : Lim t64l x) : F_Cell x := ⟨h.2.1, h.2.2.2.2.1, h.2.2.2.2.2.1.1, fun s hs => FValue_of (h.2.2.2.2.2.1.2 s hs)⟩
theorem FLink_of {x : LT} (h : Lim t228o x) : F_Link x := ⟨h.1, h.2.2.1⟩
theorem FInst_of {x : IT} (h : Lim t114l x) : F_Inst x :=
 ⟨h.1, h.2.2.1, ⟨h.2.2.2.1.1, fun s hs => FValue_of (h.2.2.2.1.2 s hs)⟩, ⟨h.2.2.2.2.1.1, fun s hs => FLink_of (h.2.2.2.2.1.2 s hs)⟩, ⟨h.2.2.2.2.2.1.1, fun s hs => FType_of (h.2.2.2.2.2.1.2 s hs)⟩⟩
theorem FUnit_of {x : UT} (h : Lim t167l x) : F_Unit x := FProg_of h.2.1
theorem FSys_of {x : YT} (h : Lim t26l x) : F_Sys x :=
 ⟨⟨h.1.1, fun s hs => FCell_of (h.1.2 s hs)⟩, ⟨h.2.1.1, fun s hs => FInst_of (h.2.1.2 s hs)⟩, ⟨h.2.2.1.1, fun s hs => FUnit_of (h.2.2.1.2 s hs)⟩, h.2.2.2.1⟩
theorem FBind_of {x : BT} (h : Lim t216o x) : F_Bind x := ⟨h.1, FValue_of h.2.1⟩
theorem FFrame_of {x : FT} (h : Lim t194l x) : F_Frame x :=
 ⟨⟨h.2.2.1.1, fun s hs => FValue_of (h.2.2.1.2 s hs)⟩, ⟨h.2.2.2.1.1, fun s hs => FBind_of (h.2.2.2.1.2 s hs)⟩⟩
theorem FMachine_of {x : MT} (h : Lim t106l x) : F_Machine x :=
 ⟨⟨h.2.2.2.1.1, fun s hs => FBind_of (h.2.2.2.1.2 s hs)⟩, FValue_of h.2.2.2.2.1, ⟨h.2.2.2.2.2.1.1, fun s hs => FFrame_of (h.2.2.2.2.2.1.2 s hs)⟩⟩
theorem FEnt_of {x : ET} (h : Lim t77l x) : F_Ent x := FSrc_of h.1
theorem FTask_of {x : KT} (h : Lim t108l x) : F_Task x := FMachine_of h.2.1
theorem FWorld_of {x : WT} (h : Lim t30l x) : F_World x :=
 ⟨FSys_of h.1, ⟨h.2.1.1, fun s hs => FEnt_of (h.2.1.2 s hs)⟩, ⟨h.2.2.1.1, fun s hs => FTask_of (h.2.2.1.2 s hs)⟩⟩
theorem tryz_own : ownKnob Tryz.prog.godebug = none := by kernel_rfl
theorem tryz_laidOut : laidOutB Tryz.prog = true := by kernel_rfl
end Go.Rf
namespace Go.Rf
open Go.Proofs Go.Proofs.YtcgneindmpkhgaaGreatDoor Go.ChangeShapes Go.WideShapes Go.ChangeAt Go.RowKit
set_option maxRecDepth 100000
theorem exactRecordsOf_lifted (os : Os) (started : os.Started) (H : Type) (enc : TypeId × Value → H) :
  ReturnsInHanded {} Tryz.checked os 5 .any (fun w args => (Rows.fnExactRecordsOfSpec.pre enc Tryz.prog Tryz.f5 [] false w args ∧ laidMet Tryz.prog Rows.fnExactRecordsOfRow.laid w) ∧ sizedMet enc Tryz.prog Tryz.f5 (OpenSpec.ofChange Rows.fnExactRecordsOfSpec) false w args)
   (Rows.fnExactRecordsOfSpec.post enc Tryz.prog Tryz.f5 false true false false) := by
 refine law_lifted (C := Tryz.checked) (tab := tabP) (V := Vp) (tb := 4) tabP_ok (fun N => c_l_FnExactRecordsOf N)
  (fun x hx => ⟨lim + 1, l_FnExactRecordsOf_true _ x (FWorld_of hx.1) (Nat.lt_succ_self _)⟩)
  (fun W h1 h2 => gW_of h1 h2) (by kernel_rfl) tryz_laidOut ?_ (by kernel_rfl) (by kernel_rfl) ?_ rfl tryz_own started (by kernel_rfl) Tryz.func5 ?_
 ·intro t ht
  have hall : (Tryz.f5.params.toList.all fun t => Tryz.prog.readableRec t && decide (t < Tryz.prog.types.size)) = true := by kernel_rfl
  have := List.all_eq_true.1 hall t ht
  rw [bA, decide_eq_true_eq] at this
  exact this
 ·intro ds hd
  have hd : ds.length = 3 := hd
  match ds, hd with
  | [d1, d2, d3], _ => rfl
 ·exact ChangeSpec.witness_shaped (enc := enc) (C := Tryz.checked) (os := os) (X := fun w _ => laidMet Tryz.prog Rows.fnExactRecordsOfRow.laid w) false (World.laidAll Tryz.prog os Rows.fnExactRecordsOfRow.laid)
   #[.agg #[.slice none 0 0, .slice none 0 0, .slice none 0 0, .slice none 0 0, .slice none 0 0, .slice none 0 0, .int .i64 0], .string bE, .string bE] 8 (World.laidAll_os _ _ _)
   (World.shaped_of_ZipB (by kernel_rfl) (by kernel_rfl)) (by kernel_rfl) (by kernel_rfl) (by kernel_rfl)
   (laidMet_laidAll _ (by kernel_rfl) (by kernel_rfl))
set_option maxHeartbeats 4000000 in
theorem exactRecordsOf_facts : joinedFacts Tryz.pinned.checked.prog 5 Tryz.f5 Rows.fnExactRecordsOfSpec Rows.fnExactRecordsOfRow = true := by
 unfold joinedFacts
 simp only [bA]
 and_intros <;> as_aux_lemma => kernel_rfl
theorem exactRecordsOf_holds : Rows.FnExactRecordsOfSaid :=
 OpenClaim.holds_of_wide 5 Tryz.f5 rfl rfl rfl rfl rfl rfl rfl ⟨rfl, rfl, rfl, rfl, rfl⟩ rfl rfl rfl rfl rfl (by as_aux_lemma => kernel_rfl) Tryz.func5 exactRecordsOf_facts
  (of_decide_eq_true (by as_aux_lemma => kernel_rfl)) (by unfold Func.isWrapper; first | (rw [if_pos (by decide +kernel)]; kernel_rfl) | (rw [if_neg (by decide +kernel)]; exact ⟨rfl, rfl⟩))
  (fun os started H enc _ => exactRecordsOf_lifted os started H enc)
theorem exactRecordsOf_card : Rows.FnExactRecordsOfCardSaid :=
 Claim7.holds_tied_plain_at .later [] [.data, .data, .data, .sentinel, .sentinel] true (true, "2570664e0d8e1ed82060de1cf266d95285b7b3e19ee572348b8b1847899668dc") true
  exactRecordsOf_holds (fun _ h => by cases h) (by kernel_rfl) (fun _ h => by cases h) fnExactRecordsOf_row_tie rfl ⟨rfl, rfl⟩ (by kernel_rfl) rfl
  (fun f fn hf hfn => by
   obtain rfl : f = 5 := Option.some.inj ((show Tryz.prog.funcNamed "loop.example/g00765/laws.FnExactRecordsOf" = some 5 by kernel_rfl).symm.trans hf) |>.symm
   obtain rfl : fn = Tryz.f5 := (Option.some.inj (Tryz.func5.symm.trans hfn)).symm
   exact ⟨by kernel_rfl, fun j t ht => by
    have hm : t ∈ Tryz.f5.params.toList := by simpa using Array.mem_of_getElem? ht
    have hall : (Tryz.f5.params.toList.all fun u => !Tryz.prog.wantsStandIn u) = true := by kernel_rfl
    exact (show Tryz.prog.wantsStandIn t = false by simpa using List.all_eq_true.1 hall t hm)⟩)
  (by kernel_rfl)
end Go.Rf
namespace Go.Proofs.YtcgneindmpkhgaaGreatDoor
/-- ████ THE STATEMENT ████ -/
theorem exactRecordsOf_proved : Rows.FnExactRecordsOfCardSaid := Go.Rf.exactRecordsOf_card
#print axioms exactRecordsOf_proved
end Go.Proofs.YtcgneindmpkhgaaGreatDoor
