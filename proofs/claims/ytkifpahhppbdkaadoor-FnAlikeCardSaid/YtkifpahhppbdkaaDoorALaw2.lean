/-
  Proved: the statement FnAlikeCardSaid: a value is alike to itself; two are alike both ways; alike plain ones have one weight; on the conditions that the given card says (the listed variables of the library hold what the program's text lays).
-/
import Derived.Test.YtkifpahhppbdkaaDoorACon
import Derived.Test.YtkifpahhppbdkaaDoorALaw
import Derived.Test.YtkifpahhppbdkaaDoorARfD
import Derived.Lib.LaidTab
import Derived.Lib.LaidU8
import Derived.Shelf.Vars
import Derived.Stop.LaidErr
import Derived.Lay
import Derived.SevenTiedAt
import Derived.Test.YtkifpahhppbdkaaDoorTie
import Derived.Test.YtkifpahhppbdkaaDoorCards
import Derived.Test.YtkifpahhppbdkaaDoorALike
import Derived.Test.YtkifpahhppbdkaaDoorAConS
set_option linter.unusedSimpArgs false
set_option linter.unusedVariables false
set_option autoImplicit false
namespace Go.Rf
open Go.Proofs Go.Proofs.YtkifpahhppbdkaaDoor Go.ChangeShapes Go.WideShapes Go.ChangeAt Go.RowKit
set_option maxRecDepth 100000

/-- a variable that reads as an interface value holds one -/
theorem iface_of_reads {P : Program} {w : World} {n nm : String} {d : DataW Unit} {g : Nat} {ti : TypeId} {ms : Array (String × TypeId)} (h : Lib.VarReads P w n (.iface nm d)) (hg : P.globalNamed n = some g)
    (ht : (P.globals[g]?).map (·.type) = some ti) (hi : P.underlying ti = some (.interface ms)) : ∃ t p, w.cell? ⟨g, 0, none⟩ = some (.iface t p) := by
  obtain ⟨g', t', cs, fuel, p, h1, h2, h3, h4⟩ := h
  obtain rfl := Option.some.inj (hg.symm.trans h1)
  obtain rfl := Option.some.inj (ht.symm.trans h2)
  have key : ∃ t v, cs.toList = [.iface t v] := by
    cases fuel with
    | zero => simp [DataW.trod] at h4
    | succ k =>
      unfold DataW.trod at h4
      rw [hi] at h4
      split at h4 <;> first | (exact ⟨_, _, ‹_›⟩) | simp_all
  obtain ⟨t, v, hcs⟩ := key
  refine ⟨t, v, ?_⟩
  have e : cs = #[.iface t v] := by rw [← Array.toArray_toList (xs := cs), hcs]
  subst e
  unfold World.var? at h3
  rw [hg] at h3
  simp only [Option.bind_some] at h3
  split at h3
  · rename_i cs' _ _ hh
    cases h3
    simp [World.cell?, hh]
  · cases h3

theorem heap_lt {w : World} {b : Nat} {v : Value} (h : w.cell? ⟨b, 0, none⟩ = some v) : b < w.heap.size := by
  unfold World.cell? at h
  split at h
  · rename_i hb; exact (Array.getElem?_eq_some_iff.1 hb).1
  · cases h

theorem gW_of {W : World} (hL : laidMet Tryd.prog Rows.fnExactWeightRow.laid W) (hS : W.ShapedOpen Tryd.prog) : (∀ b, b < Vp.n → b < W.heap.size) ∧ Vp.holds W := by
  have h0 : ∃ m, W.cell? ⟨0, 0, none⟩ = some (.int .i64 m) :=
    cell_of_shapedOpen_int (P := Tryd.prog) (g := 0) (t := 3) (zero := #[.int .i64 0]) hS (of_decide_eq_true (by kernel_rfl)) (by kernel_rfl) rfl (by kernel_rfl) (by kernel_rfl) Tryd.underlying3
  have h1 : Lib.TabIs Tryd.prog W "internal/strconv.uint64pow10" IntKind.u64 Lib.pow10Tab :=
    Lib.tabIs_of_head (g := 3) (t := 137) (e := 118) (n := 20) (by kernel_rfl) (by kernel_rfl) Tryd.underlying137 Tryd.underlying118 (by kernel_rfl) (by kernel_rfl) hL.tail.tail
  have h2 : ∃ t p, W.cell? ⟨1, 0, none⟩ = some (.iface t p) :=
    iface_of_reads (ti := 105) (ms := #[("Error", 147)]) (Lib.laidMet.reads hL (.tail _ (.tail _ (.tail _ (.tail _ (.head _)))))) (by kernel_rfl) (by kernel_rfl) (by kernel_rfl)
  have h3 : ∃ t p, W.cell? ⟨2, 0, none⟩ = some (.iface t p) :=
    iface_of_reads (ti := 105) (ms := #[("Error", 147)]) (Lib.laidMet.reads hL (.tail _ (.tail _ (.tail _ (.head _))))) (by kernel_rfl) (by kernel_rfl) (by kernel_rfl)
  refine ⟨fun b hb => ?_, h0, h1, h2, h3⟩
  have hb : b < 4 := hb
  have hz : (0 : Nat) < Lib.pow10Tab.length := by decide
  have h4 := Lib.TabIs.cell h1 (g := 3) (by kernel_rfl) 0 hz
  have := heap_lt h4
  omega
end Go.Rf

namespace Go.Rf
open Go.Proofs Go.Proofs.YtkifpahhppbdkaaDoor Go.ChangeShapes Go.WideShapes Go.ChangeAt Go.RowKit
set_option maxRecDepth 100000

theorem FV_of {v : VT} (h : Lim (.pair (.int .i64) (.pair (.int .i64) (.pair .str .unit))) v) : FV v := h.2.2.1
theorem FC_of {c : CT} (h : Lim (.pair (.int .i64) (.pair .str (.pair (.int .i64) (.pair (.int .i64) (.pair (.sl .lend .str) (.pair (.sl .lend (.pair (.int .i64) (.pair (.int .i64) (.pair .str .unit)))) .unit)))))) c) : FC c :=
  ⟨h.2.1, h.2.2.2.2.1.1, h.2.2.2.2.1.2, h.2.2.2.2.2.1.1, fun v hv => FV_of (h.2.2.2.2.2.1.2 v hv)⟩
theorem FH_of {h : List CT} (hh : Lim (.sl .lend (.pair (.int .i64) (.pair .str (.pair (.int .i64) (.pair (.int .i64) (.pair (.sl .lend .str) (.pair (.sl .lend (.pair (.int .i64) (.pair (.int .i64) (.pair .str .unit)))) .unit))))))) h) : FH h :=
  ⟨hh.1, fun c hc => FC_of (hh.2 c hc)⟩

theorem tryd_own : ownKnob Tryd.prog.godebug = none := by kernel_rfl
theorem tryd_laidOut : laidOutB Tryd.prog = true := by kernel_rfl
end Go.Rf

namespace Go.Rf
open Go.Proofs Go.Proofs.YtkifpahhppbdkaaDoor Go.ChangeShapes Go.WideShapes Go.ChangeAt Go.RowKit
set_option maxRecDepth 100000

theorem fnAlike_lifted (os : Os) (started : os.Started) (H : Type) (enc : TypeId × Value → H) :
    ReturnsInHanded {} Tryd.checked os 6 .any (fun w args => (Rows.fnAlikeSpec.pre enc Tryd.prog Tryd.f6 [] false w args ∧ laidMet Tryd.prog Rows.fnAlikeRow.laid w) ∧ sizedMet enc Tryd.prog Tryd.f6 (OpenSpec.ofChange Rows.fnAlikeSpec) false w args)
      (Rows.fnAlikeSpec.post enc Tryd.prog Tryd.f6 false true false false) := by
  refine law_lifted (C := Tryd.checked) (tab := tabP) (V := Vp) (tb := 4) tabP_ok (fun N => c_l_FnAlike N)
    (fun x hx => ⟨big + 1, l_FnAlike_true _ x hx.1.1 (Nat.lt_succ_self _)⟩)
    (fun W h1 h2 => gW_of h1 h2) (by kernel_rfl) tryd_laidOut ?_ (by kernel_rfl) (by kernel_rfl) ?_ rfl tryd_own started (by kernel_rfl) Tryd.func6 ?_
  · intro t ht
    have hall : (Tryd.f6.params.toList.all fun t => Tryd.prog.readableRec t && decide (t < Tryd.prog.types.size)) = true := by kernel_rfl
    have := List.all_eq_true.1 hall t ht
    rw [Bool.and_eq_true, decide_eq_true_eq] at this
    exact this
  · intro ds hd
    have hd : ds.length = 1 := hd
    match ds, hd with
    | [d1], _ => rfl
  · exact ChangeSpec.witness_shaped (enc := enc) (C := Tryd.checked) (os := os) (X := fun w _ => laidMet Tryd.prog Rows.fnAlikeRow.laid w) false (World.laidAll Tryd.prog os Rows.fnAlikeRow.laid)
      #[.slice none 0 0] 8 (World.laidAll_os _ _ _)
      (World.shaped_of_ZipB (by kernel_rfl) (by kernel_rfl)) (by kernel_rfl) (by kernel_rfl) (by kernel_rfl)
      (laidMet_laidAll _ (by kernel_rfl) (by kernel_rfl))

theorem fnAlike_holds : Rows.FnAlikeSaid :=
  OpenClaim.holds_of_wide 6 Tryd.f6 rfl rfl rfl rfl rfl rfl rfl ⟨rfl, rfl, rfl, rfl, rfl⟩ rfl rfl rfl rfl rfl (by kernel_rfl) Tryd.func6 (by kernel_rfl)
    (of_decide_eq_true (by kernel_rfl)) (by unfold Func.isWrapper; first | (rw [if_pos (by decide +kernel)]; kernel_rfl) | (rw [if_neg (by decide +kernel)]; exact ⟨rfl, rfl⟩))
    (fun os started H enc _ => fnAlike_lifted os started H enc)

theorem fnAlike_card : Rows.FnAlikeCardSaid :=
  Claim7.holds_tied_plain_at .later [] [.data, .data, .data, .sentinel, .sentinel] true (true, "4228be788a7c299eb1306005c0db6358ab79a1da065884056bc6703f78c79910") true
    fnAlike_holds (fun _ h => by cases h) (by kernel_rfl) (fun _ h => by cases h) fnAlike_row_tie rfl ⟨rfl, rfl⟩ (by kernel_rfl) rfl
    (fun f fn hf hfn => by
      obtain rfl : f = 6 := Option.some.inj ((show Tryd.prog.funcNamed "loop.example/g00765/laws.FnAlike" = some 6 by kernel_rfl).symm.trans hf) |>.symm
      obtain rfl : fn = Tryd.f6 := (Option.some.inj (Tryd.func6.symm.trans hfn)).symm
      exact ⟨by kernel_rfl, fun j t ht => by
        have hm : t ∈ Tryd.f6.params.toList := by simpa using Array.mem_of_getElem? ht
        have hall : (Tryd.f6.params.toList.all fun u => !Tryd.prog.wantsStandIn u) = true := by kernel_rfl
        exact (show Tryd.prog.wantsStandIn t = false by simpa using List.all_eq_true.1 hall t hm)⟩)
    (by kernel_rfl)
end Go.Rf

namespace Go.Proofs.YtkifpahhppbdkaaDoor
/-- ████ THE STATEMENT ████ -/
theorem fnAlike_proved : Rows.FnAlikeCardSaid := Go.Rf.fnAlike_card
#print axioms fnAlike_proved
end Go.Proofs.YtkifpahhppbdkaaDoor
