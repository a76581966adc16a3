/-
  The functions of the program that FnExactLevels reaches, as plain functions.
-/
import Derived.Test.YtkifpahhppbdkaaGreatDoorLRfD
import Derived.Lib.AtoiAll
import Derived.Lib.Bytealg
import Derived.Lib.IndexMore
import Derived.Lib.ItoaNum
import Derived.Shelf.Strings.Prefix
set_option linter.unusedSimpArgs false
set_option linter.unusedVariables false
set_option autoImplicit false
namespace Go.Rf
def look {α : Type} : List (Nat × α) → Nat → Option α
  | [], _ => none
  | (k, x) :: l, t => bif Nat.beq t k then some x else look l t
theorem look_all {α : Type} {Q : Nat → α → Prop} : ∀ (l : List (Nat × α)), (∀ p ∈ l, Q p.1 p.2) → ∀ k x, look l k = some x → Q k x := by
  intro l
  induction l with
  | nil => intro _ k x h; cases h
  | cons p l ih =>
    intro h k x hk
    obtain ⟨k', y⟩ := p
    simp only [look] at hk
    cases e : Nat.beq k k' with
    | true =>
      rw [e] at hk
      simp only [cond_true, Option.some.injEq] at hk
      subst hk
      have := Nat.eq_of_beq_eq_true e
      subst this
      exact h (k, y) (by simp)
    | false =>
      rw [e] at hk
      exact ih (fun p hp => h p (by simp [hp])) k x hk
theorem rowOK_of {P : Program} {tab : Nat → Option Ty} {t : Nat} {s : Ty} (h : (P.info? t).map (fun i => (i.size, Nat.ble i.bytes 16384, i.zero)) = some (s.size, true, some (valOf s (zeroC s))))
    (hd : (P.underlying t).map (fun d => descOK tab s (dk d)) = some true) (hc : (!s.flat || (!P.stoodInHeld t && !P.eqGuardType P.depth t && (P.fieldsOf t).toList.all (fun f => f.name != "_"))) = true) : RowOK P tab t s := by
  obtain ⟨i, h1, h2⟩ := Option.map_eq_some_iff.1 h
  obtain ⟨d, h3, h4⟩ := Option.map_eq_some_iff.1 hd
  simp only [Prod.mk.injEq] at h2
  refine ⟨⟨i.bytes, Nat.le_of_ble_eq_true h2.2.1, by rw [h1]; simp [h2.1, h2.2.2]⟩, ⟨dk d, by rw [h3]; rfl, h4⟩, fun hf => ?_⟩
  rw [hf] at hc
  simp only [Bool.not_true, Bool.false_or, Bool.and_eq_true, Bool.not_eq_true'] at hc
  exact ⟨hc.1.1, hc.1.2, hc.2⟩
end Go.Rf

namespace Go.Rf
/-! what the library's functions do, in plain Lean -/
def g_strings_IndexByte (N : Nat) (x : ByteArray × Int × Unit) : Option (Int × Unit) := some (Lib.indexByte x.1.data.toList x.2.1.toNat.toUInt8, ())
def g_strings_Contains (N : Nat) (x : ByteArray × ByteArray × Unit) : Option (Bool × Unit) := if x.1.size < 4294967281 then some (Lib.contains x.1.data.toList x.2.1.data.toList, ()) else none
def g_strconv_Itoa (N : Nat) (x : Int × Unit) : Option (ByteArray × Unit) := if -9223372036854775808 ≤ x.1 ∧ x.1 ≤ 9223372036854775807 then some (⟨(Lib.itoa x.1).toArray⟩, ()) else none
def i_ReadDec (N : Nat) (x : ByteArray × Unit) : Option (Int × Bool × Unit) :=
  if 1 ≤ (Lib.trimPrefix x.1.data.toList [45]).length ∧ (Lib.trimPrefix x.1.data.toList [45]).length ≤ 9 then
    match Lib.atoiAll x.1.data.toList with
    | .ok v => if Lib.itoa v = x.1.data.toList then some (v, true, ()) else some (0, false, ())
    | _ => some (0, false, ())
  else some (0, false, ())

/-- no slices -/
def Ty.scal : Ty → Bool
  | .int _ => true
  | .bool => true
  | .str => true
  | _ => false

theorem ArgsRel.scal {S S' : Stab} {H H' : Heap} : ∀ {rs : List Ty} {rv : List Value} {x : LD rs} {g : List Nat}, rs.all Ty.scal = true → ArgsRel S H rs rv x g → g = [] ∧ ArgsRel S' H' rs rv x [] := by
  intro rs
  induction rs with
  | nil => intro rv x g _ h; cases rv <;> simp_all [ArgsRel]
  | cons τ rs ih =>
    intro rv x g hs h
    cases rv with
    | nil => simp [ArgsRel] at h
    | cons v rv =>
      simp only [List.all_cons, Bool.and_eq_true] at hs
      obtain ⟨ws, f1, f2, e, hr, rfl, h⟩ := h
      obtain ⟨rfl, k2⟩ := ih hs.2 h
      have : f1 = [] ∧ Rep S' H' τ ws x.1 [] := by
        cases τ <;> simp only [Ty.scal, Bool.false_eq_true] at hs
        · obtain ⟨h1, h2⟩ := hr; exact ⟨h2, h1, rfl⟩
        · obtain ⟨h1, h2⟩ := hr; exact ⟨h2, h1, rfl⟩
        · obtain ⟨h1, h2⟩ := hr; exact ⟨h2, h1, rfl⟩
        · exact absurd hs.1 (by simp)
        · exact absurd hs.1 (by simp)
        · exact absurd hs.1 (by simp)
        · exact absurd hs.1 (by simp)
        · exact absurd hs.1 (by simp)
      obtain ⟨rfl, hr'⟩ := this
      exact ⟨rfl, ws, [], [], e, hr', rfl, k2⟩

/-- a function over numbers, flags and texts that lays new blocks at most -/
theorem ctr_scal {P : Program} {V : Glb} {fid : Nat} {fn : Func} {c : Code} (hfn : P.funcs[fid]? = some fn) (hbody : fn.body = some c) (hname : (fn.name == "runtime.NumGoroutine") = false) {ps rs : List Ty} {F : LD ps → Option (LD rs)}
    (hp1 : ps.all Ty.scal = true) (hr1 : rs.all Ty.scal = true)
    (hcall : ∀ (w : World) (args : LD ps) (vals : List Value) (r : LD rs), V.holds w → ArgsRel (fun _ _ => False) (fun _ => none) ps vals args [] → F args = some r →
      Calls P fid vals.toArray w fun e w' => ∃ rv, e = .returned (retVal rv) ∧ RowKit.Below w.heap.size w w' ∧ ArgsRel (fun _ _ => False) (fun _ => none) rs rv r []) : Ctr P V fid ⟨ps, rs, F⟩ := by
  refine ⟨?_, ?_⟩
  · intro args w
    have h1 : fn.name ≠ "runtime.NumGoroutine" := by simpa using hname
    simp [callFunc, hfn, h1, hbody, mark]
  · intro w S args vals fp r hst _ hg ha _ _ hF
    obtain ⟨rfl, ha'⟩ := ha.scal (S' := fun _ _ => False) (H' := fun _ => none) hp1
    refine (hcall w args vals r hg.2 ha' hF).mono ?_
    rintro e w' ⟨rv, rfl, hb, hr⟩
    refine ⟨rv, fun b => S .keep b, [], rfl, ⟨hb.os, hb.tape, hb.output, hb.size, fun b h _ => hb.block b h⟩, (hr.scal hr1).2, fun b h => ⟨Nat.lt_of_lt_of_le (hst _ b h) hb.size, .inl h⟩, by simp, by simp⟩
end Go.Rf

namespace Go.Rf
def i_inRange (N : Nat) (x : Int × Int × Int × Unit) : Option (Bool × Unit) :=
((if (decide (x.1 ≥ x.2.1)) = true then
  some (decide (x.1 ≤ x.2.2.1)) else some false)).bind fun b1 =>
  some (b1, ())
def i_isSymByte (N : Nat) (x : Int × Unit) : Option (Bool × Unit) :=
((if (decide (x.1 ≥ 97)) = true then
  some (decide (x.1 ≤ 122)) else some false)).bind fun b1 =>
((if b1 = true then
  some true else ((if (decide (x.1 ≥ 48)) = true then
  some (decide (x.1 ≤ 57)) else some false)).bind fun b2 =>
  some b2)).bind fun b3 =>
((if b3 = true then
  some true else (g_strings_IndexByte N (ByteArray.mk #[33, 63, 42, 47, 60, 61, 62, 43, 45, 95], x.1, ())).bind fun r4 =>
  some (decide (r4.1 ≥ 0)))).bind fun b5 =>
  some (b5, ())
def i_symOk (N : Nat) (x : ByteArray × Unit) : Option (Bool × Unit) :=
(iter (A := Int × Unit) (B := Unit) (C := Bool × Unit) (fun s1 =>
(if (decide (s1.1 < (ByteArray.size x.1 : Int))) = true then
(if inB s1.1 (ByteArray.size x.1) then
(i_isSymByte N (bt x.1 s1.1, ())).bind fun r2 =>
(if (!r2.1) = true then
  some (Step.ret (false, ())) else
  some (Step.more (IntKind.wrap .i64 (s1.1 + 1), ()))) else none) else
  some (Step.done (())))) N (0, ())).bind fun r3 => match r3 with
| .inl y4 => (i_inRange N ((ByteArray.size x.1 : Int), 1, 16, ())).bind fun r6 =>
((if (!r6.1) = true then
  some true else (if inB 0 (ByteArray.size x.1) then
((if (decide ((bt x.1 0) ≥ 48)) = true then
(if inB 0 (ByteArray.size x.1) then
  some (decide ((bt x.1 0) ≤ 57)) else none) else some false)).bind fun b7 =>
  some b7 else none))).bind fun b8 =>
(if b8 = true then
  some (false, ()) else
(i_ReadDec N (x.1, ())).bind fun r9 =>
  some (!r9.2.1, ()))
| .inr z5 => some (z5.1, ())
def i_isOneOf (N : Nat) (x : ByteArray × ByteArray × Unit) : Option (Bool × Unit) :=
((if (!decide (x.1 = (ByteArray.mk #[]))) = true then
(g_strings_Contains N (x.1, ByteArray.mk #[32], ())).bind fun r1 =>
  some (!r1.1) else some false)).bind fun b2 =>
((if b2 = true then
(if ByteArray.size (ByteArray.mk #[32]) + ByteArray.size x.2.1 < 4611686018427387904 then
(if ByteArray.size ((ByteArray.mk #[32]) ++ x.2.1) + ByteArray.size (ByteArray.mk #[32]) < 4611686018427387904 then
(if ByteArray.size (ByteArray.mk #[32]) + ByteArray.size x.1 < 4611686018427387904 then
(if ByteArray.size ((ByteArray.mk #[32]) ++ x.1) + ByteArray.size (ByteArray.mk #[32]) < 4611686018427387904 then
(g_strings_Contains N (((ByteArray.mk #[32]) ++ x.2.1) ++ (ByteArray.mk #[32]), ((ByteArray.mk #[32]) ++ x.1) ++ (ByteArray.mk #[32]), ())).bind fun r3 =>
  some r3.1 else none) else none) else none) else none) else some false)).bind fun b4 =>
  some (b4, ())
def i_Arity (N : Nat) (x : ByteArray × Unit) : Option (Int × Unit) :=
(i_isOneOf N (x.1, ByteArray.mk #[43, 32, 45, 32, 42, 32, 60, 32, 61, 32, 101, 113, 63, 32, 99, 111, 110, 115], ())).bind fun r1 =>
(if r1.1 = true then
  some (2, ()) else
(i_isOneOf N (x.1, ByteArray.mk #[99, 97, 114, 32, 99, 100, 114, 32, 110, 117, 108, 108, 63, 32, 112, 97, 105, 114, 63, 32, 110, 111, 116, 32, 112, 114, 105, 110, 116, 32, 101, 114, 114, 111, 114, 32, 102, 105, 101, 108, 100, 32, 105, 115], ())).bind fun r2 =>
(if r2.1 = true then
  some (1, ()) else
(if (decide (x.1 = (ByteArray.mk #[109, 97, 107, 101]))) = true then
  some (0, ()) else
  some ((-1), ()))))
def i_IsName (N : Nat) (x : ByteArray × Unit) : Option (Bool × Unit) :=
(if (decide (x.1 = (ByteArray.mk #[37, 116]))) = true then
  some (true, ()) else
(i_symOk N (x.1, ())).bind fun r1 =>
((if r1.1 = true then
(i_isOneOf N (x.1, ByteArray.mk #[113, 117, 111, 116, 101, 32, 105, 102, 32, 108, 97, 109, 98, 100, 97, 32, 98, 101, 103, 105, 110, 32, 115, 101, 116, 33, 32, 108, 101, 116, 32, 108, 101, 116, 42, 32, 99, 111, 110, 100, 32, 101, 108, 115, 101, 32, 97, 110, 100, 32, 111, 114, 32, 119, 104, 101, 110, 32, 100, 101, 102, 105, 110, 101], ())).bind fun r2 =>
  some (!r2.1) else some false)).bind fun b3 =>
((if b3 = true then
(i_Arity N (x.1, ())).bind fun r4 =>
  some (decide (r4.1 < 0)) else some false)).bind fun b5 =>
  some (b5, ()))
def i_allNames (N : Nat) (x : List (ByteArray) × Unit) : Option (Bool × Unit) :=
(iter (A := Int × Unit) (B := Unit) (C := Bool × Unit) (fun s1 =>
(if (decide (s1.1 < (List.length x.1 : Int))) = true then
(if inB s1.1 (List.length x.1) then
(i_IsName N (List.getD x.1 (Int.toNat s1.1) ByteArray.empty, ())).bind fun r2 =>
(if (!r2.1) = true then
  some (Step.ret (false, ())) else
  some (Step.more (IntKind.wrap .i64 (s1.1 + 1), ()))) else none) else
  some (Step.done (())))) N (0, ())).bind fun r3 => match r3 with
| .inl y4 => some (true, ())
| .inr z5 => some (z5.1, ())
def s_l1In (N : Nat) (x : Int × Int × Int × Unit) : Option (Bool × Unit) :=
((if (decide (x.1 ≥ x.2.1)) = true then
  some (decide (x.1 ≤ x.2.2.1)) else some false)).bind fun b1 =>
  some (b1, ())
def s_l2Digit (N : Nat) (x : Int × Unit) : Option (Bool × Unit) :=
((if (decide (x.1 ≥ 48)) = true then
  some (decide (x.1 ≤ 57)) else some false)).bind fun b1 =>
  some (b1, ())
def s_l2In (N : Nat) (x : Int × ByteArray × Unit) : Option (Bool × Unit) :=
(iter (A := Int × Unit) (B := Unit) (C := Bool × Unit) (fun s1 =>
(if (decide (s1.1 < (ByteArray.size x.2.1 : Int))) = true then
(if inB s1.1 (ByteArray.size x.2.1) then
(if (decide ((bt x.2.1 s1.1) = x.1)) = true then
  some (Step.ret (true, ())) else
  some (Step.more (IntKind.wrap .i64 (s1.1 + 1), ()))) else none) else
  some (Step.done (())))) N (0, ())).bind fun r2 => match r2 with
| .inl y3 => some (false, ())
| .inr z4 => some (z4.1, ())
def s_l2Sign (N : Nat) (x : Int × Unit) : Option (Bool × Unit) :=
((if (decide (x.1 ≥ 97)) = true then
  some (decide (x.1 ≤ 122)) else some false)).bind fun b1 =>
((if b1 = true then
  some true else (s_l2Digit N (x.1, ())).bind fun r2 =>
  some r2.1)).bind fun b3 =>
((if b3 = true then
  some true else (s_l2In N (x.1, ByteArray.mk #[33, 63, 42, 47, 60, 61, 62, 43, 45, 95], ())).bind fun r4 =>
  some r4.1)).bind fun b5 =>
  some (b5, ())
def s_Dec (N : Nat) (x : Int × Unit) : Option (ByteArray × Unit) :=
(if (decide (x.1 = 0)) = true then
  some (ByteArray.mk #[48], ()) else
(iter (A := Int × ByteArray × Unit) (B := ByteArray × Unit) (C := ByteArray × Unit) (fun s1 =>
(if (!decide (s1.1 = 0)) = true then
((if (decide ((Int.tmod s1.1 10) < 0)) = true then
  some (IntKind.wrap .i64 (0 - (Int.tmod s1.1 10)), ()) else
  some (Int.tmod s1.1 10, ())) : Option (Int × Unit)).bind fun j2 =>
(if ByteArray.size (ofBytes [IntKind.wrap .u8 (IntKind.wrap .i64 (48 + j2.1))]) + ByteArray.size s1.2.1 < 4611686018427387904 then
  some (Step.more (IntKind.wrap .i64 (Int.tdiv s1.1 10), (ofBytes [IntKind.wrap .u8 (IntKind.wrap .i64 (48 + j2.1))]) ++ s1.2.1, ())) else none) else
  some (Step.done (s1.2.1, ())))) N (x.1, ByteArray.mk #[], ())).bind fun r3 => match r3 with
| .inl y4 => (if (decide (x.1 < 0)) = true then
(if ByteArray.size (ByteArray.mk #[45]) + ByteArray.size y4.1 < 4611686018427387904 then
  some ((ByteArray.mk #[45]) ++ y4.1, ()) else none) else
  some (y4.1, ()))
| .inr z5 => some (z5.1, ()))
def s_ReadDec (N : Nat) (x : ByteArray × Unit) : Option (Int × Bool × Unit) :=
(iter (A := Int × Int × Int × Unit) (B := Int × Int × Unit) (C := Int × Bool × Unit) (fun s1 =>
((if (decide (s1.2.2.1 < (ByteArray.size x.1 : Int))) = true then
  some (decide (s1.2.2.1 < 11)) else some false)).bind fun b2 =>
(if b2 = true then
(if inB s1.2.2.1 (ByteArray.size x.1) then
((if (decide ((bt x.1 s1.2.2.1) ≥ 48)) = true then
(if inB s1.2.2.1 (ByteArray.size x.1) then
  some (decide ((bt x.1 s1.2.2.1) ≤ 57)) else none) else some false)).bind fun b3 =>
((if b3 = true then
(if inB s1.2.2.1 (ByteArray.size x.1) then
  some (IntKind.wrap .i64 ((IntKind.wrap .i64 (s1.1 * 10)) + (IntKind.wrap .i64 (IntKind.wrap .u8 ((bt x.1 s1.2.2.1) - 48)))), IntKind.wrap .i64 (s1.2.1 + 1), ()) else none) else
  some (s1.1, s1.2.1, ())) : Option (Int × Int × Unit)).bind fun j4 =>
  some (Step.more (j4.1, j4.2.1, IntKind.wrap .i64 (s1.2.2.1 + 1), ())) else none) else
  some (Step.done (s1.1, s1.2.1, ())))) N (0, 0, 0, ())).bind fun r5 => match r5 with
| .inl y6 => ((if (decide ((ByteArray.size x.1 : Int) > 0)) = true then
(if inB 0 (ByteArray.size x.1) then
  some (decide ((bt x.1 0) = 45)) else none) else some false)).bind fun b8 =>
((if b8 = true then
  some (IntKind.wrap .i64 (0 - y6.1), ()) else
  some (y6.1, ())) : Option (Int × Unit)).bind fun j9 =>
((if (decide (y6.2.1 > 9)) = true then
  some true else some (decide ((ByteArray.size x.1 : Int) > 10)))).bind fun b10 =>
((if b10 = true then
  some true else (s_Dec N (j9.1, ())).bind fun r11 =>
  some (!decide (r11.1 = x.1)))).bind fun b12 =>
(if b12 = true then
  some (0, false, ()) else
  some (j9.1, true, ()))
| .inr z7 => some (z7.1, z7.2.1, ())
def s_l2Sym (N : Nat) (x : ByteArray × Unit) : Option (Bool × Unit) :=
(s_l1In N ((ByteArray.size x.1 : Int), 1, 16, ())).bind fun r1 =>
((if (!r1.1) = true then
  some true else (if inB 0 (ByteArray.size x.1) then
(s_l2Digit N (bt x.1 0, ())).bind fun r2 =>
  some r2.1 else none))).bind fun b3 =>
(if b3 = true then
  some (false, ()) else
(iter (A := Int × Unit) (B := Unit) (C := Bool × Unit) (fun s4 =>
(if (decide (s4.1 < (ByteArray.size x.1 : Int))) = true then
(if inB s4.1 (ByteArray.size x.1) then
(s_l2Sign N (bt x.1 s4.1, ())).bind fun r5 =>
(if (!r5.1) = true then
  some (Step.ret (false, ())) else
  some (Step.more (IntKind.wrap .i64 (s4.1 + 1), ()))) else none) else
  some (Step.done (())))) N (0, ())).bind fun r6 => match r6 with
| .inl y7 => (s_ReadDec N (x.1, ())).bind fun r9 =>
  some (!r9.2.1, ())
| .inr z8 => some (z8.1, ()))
def s_l3In (N : Nat) (x : List (ByteArray) × ByteArray × Unit) : Option (Bool × Unit) :=
(iter (A := Int × Unit) (B := Unit) (C := Bool × Unit) (fun s1 =>
(if (decide (s1.1 < (List.length x.1 : Int))) = true then
(if inB s1.1 (List.length x.1) then
(if (decide ((List.getD x.1 (Int.toNat s1.1) ByteArray.empty) = x.2.1)) = true then
  some (Step.ret (true, ())) else
  some (Step.more (IntKind.wrap .i64 (s1.1 + 1), ()))) else none) else
  some (Step.done (())))) N (0, ())).bind fun r2 => match r2 with
| .inl y3 => some (false, ())
| .inr z4 => some (z4.1, ())
def s_l3Word (N : Nat) (x : ByteArray × Unit) : Option (Bool × Unit) :=
(s_l3In N ([ByteArray.mk #[113, 117, 111, 116, 101], ByteArray.mk #[105, 102], ByteArray.mk #[108, 97, 109, 98, 100, 97], ByteArray.mk #[98, 101, 103, 105, 110], ByteArray.mk #[115, 101, 116, 33], ByteArray.mk #[108, 101, 116], ByteArray.mk #[108, 101, 116, 42], ByteArray.mk #[99, 111, 110, 100], ByteArray.mk #[101, 108, 115, 101], ByteArray.mk #[97, 110, 100], ByteArray.mk #[111, 114], ByteArray.mk #[119, 104, 101, 110], ByteArray.mk #[100, 101, 102, 105, 110, 101]], x.1, ())).bind fun r1 =>
  some (r1.1, ())
def s_Arity (N : Nat) (x : ByteArray × Unit) : Option (Int × Unit) :=
((if (decide (x.1 = (ByteArray.mk #[43]))) = true then
  some (decide (x.1 = (ByteArray.mk #[43])), ()) else
((if (decide (x.1 = (ByteArray.mk #[45]))) = true then
  some (decide (x.1 = (ByteArray.mk #[45])), ()) else
((if (decide (x.1 = (ByteArray.mk #[42]))) = true then
  some (decide (x.1 = (ByteArray.mk #[42])), ()) else
((if (decide (x.1 = (ByteArray.mk #[60]))) = true then
  some (decide (x.1 = (ByteArray.mk #[60])), ()) else
((if (decide (x.1 = (ByteArray.mk #[61]))) = true then
  some (decide (x.1 = (ByteArray.mk #[61])), ()) else
((if (decide (x.1 = (ByteArray.mk #[101, 113, 63]))) = true then
  some (decide (x.1 = (ByteArray.mk #[101, 113, 63])), ()) else
  some (decide (x.1 = (ByteArray.mk #[99, 111, 110, 115])), ())) : Option (Bool × Unit)).bind fun j63 =>
  some (j63.1, ())) : Option (Bool × Unit)).bind fun j62 =>
  some (j62.1, ())) : Option (Bool × Unit)).bind fun j60 =>
  some (j60.1, ())) : Option (Bool × Unit)).bind fun j56 =>
  some (j56.1, ())) : Option (Bool × Unit)).bind fun j48 =>
  some (j48.1, ())) : Option (Bool × Unit)).bind fun j32 =>
(if j32.1 = true then
  some (2, ()) else
((if (decide (x.1 = (ByteArray.mk #[99, 97, 114]))) = true then
  some (decide (x.1 = (ByteArray.mk #[99, 97, 114])), ()) else
((if (decide (x.1 = (ByteArray.mk #[99, 100, 114]))) = true then
  some (decide (x.1 = (ByteArray.mk #[99, 100, 114])), ()) else
((if (decide (x.1 = (ByteArray.mk #[110, 117, 108, 108, 63]))) = true then
  some (decide (x.1 = (ByteArray.mk #[110, 117, 108, 108, 63])), ()) else
((if (decide (x.1 = (ByteArray.mk #[112, 97, 105, 114, 63]))) = true then
  some (decide (x.1 = (ByteArray.mk #[112, 97, 105, 114, 63])), ()) else
((if (decide (x.1 = (ByteArray.mk #[110, 111, 116]))) = true then
  some (decide (x.1 = (ByteArray.mk #[110, 111, 116])), ()) else
((if (decide (x.1 = (ByteArray.mk #[112, 114, 105, 110, 116]))) = true then
  some (decide (x.1 = (ByteArray.mk #[112, 114, 105, 110, 116])), ()) else
((if (decide (x.1 = (ByteArray.mk #[101, 114, 114, 111, 114]))) = true then
  some (decide (x.1 = (ByteArray.mk #[101, 114, 114, 111, 114])), ()) else
((if (decide (x.1 = (ByteArray.mk #[102, 105, 101, 108, 100]))) = true then
  some (decide (x.1 = (ByteArray.mk #[102, 105, 101, 108, 100])), ()) else
  some (decide (x.1 = (ByteArray.mk #[105, 115])), ())) : Option (Bool × Unit)).bind fun j318 =>
  some (j318.1, ())) : Option (Bool × Unit)).bind fun j317 =>
  some (j317.1, ())) : Option (Bool × Unit)).bind fun j315 =>
  some (j315.1, ())) : Option (Bool × Unit)).bind fun j311 =>
  some (j311.1, ())) : Option (Bool × Unit)).bind fun j303 =>
  some (j303.1, ())) : Option (Bool × Unit)).bind fun j287 =>
  some (j287.1, ())) : Option (Bool × Unit)).bind fun j255 =>
  some (j255.1, ())) : Option (Bool × Unit)).bind fun j191 =>
(if j191.1 = true then
  some (1, ()) else
(if (decide (x.1 = (ByteArray.mk #[109, 97, 107, 101]))) = true then
  some (0, ()) else
  some ((-1), ()))))
def s_IsName (N : Nat) (x : ByteArray × Unit) : Option (Bool × Unit) :=
((if (decide (x.1 = (ByteArray.mk #[37, 116]))) = true then
  some true else (s_l2Sym N (x.1, ())).bind fun r1 =>
((if r1.1 = true then
(s_l3Word N (x.1, ())).bind fun r2 =>
  some (!r2.1) else some false)).bind fun b3 =>
((if b3 = true then
(s_Arity N (x.1, ())).bind fun r4 =>
  some (decide (r4.1 < 0)) else some false)).bind fun b5 =>
  some b5)).bind fun b6 =>
  some (b6, ())
def l_szStringS (N : Nat) (x : List (ByteArray) × Int × Unit) : Option (Int × Unit) :=
(if (decide ((IntKind.wrap .i64 (x.2.1 - (List.length x.1 : Int))) < 0)) = true then
  some ((-1), ()) else
(iter (A := Int × Int × Unit) (B := Int × Unit) (C := Int × Unit) (fun s1 =>
(if (decide (s1.2.1 < (List.length x.1 : Int))) = true then
(if inB s1.2.1 (List.length x.1) then
(if (decide ((IntKind.wrap .i64 (s1.1 - (ByteArray.size (List.getD x.1 (Int.toNat s1.2.1) ByteArray.empty) : Int))) < 0)) = true then
  some (Step.ret ((-1), ())) else
  some (Step.more (IntKind.wrap .i64 (s1.1 - (ByteArray.size (List.getD x.1 (Int.toNat s1.2.1) ByteArray.empty) : Int)), IntKind.wrap .i64 (s1.2.1 + 1), ()))) else none) else
  some (Step.done (s1.1, ())))) N (IntKind.wrap .i64 (x.2.1 - (List.length x.1 : Int)), 0, ())).bind fun r2 => match r2 with
| .inl y3 => some (y3.1, ())
| .inr z4 => some (z4.1, ()))
def l_toStringS (N : Nat) (x : List (ByteArray) × Unit) : Option (List (ByteArray) × Unit) :=
(if mkB (List.length x.1 : Int) (List.length x.1 : Int) then
(iter (A := List (ByteArray) × Int × Unit) (B := List (ByteArray) × Unit) (C := List (ByteArray) × Unit) (fun s1 =>
(if (decide (s1.2.1 < (List.length x.1 : Int))) = true then
(if inB s1.2.1 (List.length x.1) then
(if inB s1.2.1 (List.length s1.1) then
  some (Step.more (List.set s1.1 (Int.toNat s1.2.1) (List.getD x.1 (Int.toNat s1.2.1) ByteArray.empty), IntKind.wrap .i64 (s1.2.1 + 1), ())) else none) else none) else
  some (Step.done (s1.1, ())))) N (List.replicate (Int.toNat (List.length x.1 : Int)) ByteArray.empty, 0, ())).bind fun r2 => match r2 with
| .inl y3 => some (y3.1, ())
| .inr z4 => some (z4.1, ()) else none)
def l_eqStringS (N : Nat) (x : List (ByteArray) × List (ByteArray) × Unit) : Option (Bool × Unit) :=
(if (!decide ((List.length x.1 : Int) = (List.length x.2.1 : Int))) = true then
  some (false, ()) else
(iter (A := Int × Unit) (B := Unit) (C := Bool × Unit) (fun s1 =>
(if (decide (s1.1 < (List.length x.1 : Int))) = true then
(if inB s1.1 (List.length x.1) then
(if inB s1.1 (List.length x.2.1) then
(if (!decide ((List.getD x.1 (Int.toNat s1.1) ByteArray.empty) = (List.getD x.2.1 (Int.toNat s1.1) ByteArray.empty))) = true then
  some (Step.ret (false, ())) else
  some (Step.more (IntKind.wrap .i64 (s1.1 + 1), ()))) else none) else none) else
  some (Step.done (())))) N (0, ())).bind fun r2 => match r2 with
| .inl y3 => some (true, ())
| .inr z4 => some (z4.1, ()))
def i_Dec (N : Nat) (x : Int × Unit) : Option (ByteArray × Unit) :=
(g_strconv_Itoa N (x.1, ())).bind fun r1 =>
  some (r1.1, ())
end Go.Rf

namespace Go.Rf
def l_szType (N : Nat) (x : (ByteArray × Int × Unit) × Int × Unit) : Option (Int × Unit) :=
(if (decide ((IntKind.wrap .i64 (x.2.1 - (ByteArray.size x.1.1 : Int))) < 0)) = true then
  some ((-1), ()) else
  some (IntKind.wrap .i64 (x.2.1 - (ByteArray.size x.1.1 : Int)), ()))
def l_szTypeS (N : Nat) (x : List (ByteArray × Int × Unit) × Int × Unit) : Option (Int × Unit) :=
(if (decide ((IntKind.wrap .i64 (x.2.1 - (List.length x.1 : Int))) < 0)) = true then
  some ((-1), ()) else
(iter (A := Int × Int × Unit) (B := Int × Unit) (C := Int × Unit) (fun s1 =>
(if (decide (s1.2.1 < (List.length x.1 : Int))) = true then
(if inB s1.2.1 (List.length x.1) then
(l_szType N (List.getD x.1 (Int.toNat s1.2.1) (ByteArray.empty, (0, ())), s1.1, ())).bind fun r2 =>
(if (decide (r2.1 < 0)) = true then
  some (Step.ret ((-1), ())) else
  some (Step.more (r2.1, IntKind.wrap .i64 (s1.2.1 + 1), ()))) else none) else
  some (Step.done (s1.1, ())))) N (IntKind.wrap .i64 (x.2.1 - (List.length x.1 : Int)), 0, ())).bind fun r3 => match r3 with
| .inl y4 => some (y4.1, ())
| .inr z5 => some (z5.1, ()))
def l_szIntS (N : Nat) (x : List (Int) × Int × Unit) : Option (Int × Unit) :=
(if (decide ((IntKind.wrap .i64 (x.2.1 - (List.length x.1 : Int))) < 0)) = true then
  some ((-1), ()) else
  some (IntKind.wrap .i64 (x.2.1 - (List.length x.1 : Int)), ()))
def l_szNode (N : Nat) (x : (Int × Int × ByteArray × List (ByteArray) × List (Int) × Unit) × Int × Unit) : Option (Int × Unit) :=
(if (decide ((IntKind.wrap .i64 (x.2.1 - (ByteArray.size x.1.2.2.1 : Int))) < 0)) = true then
  some ((-1), ()) else
(l_szStringS N (x.1.2.2.2.1, IntKind.wrap .i64 (x.2.1 - (ByteArray.size x.1.2.2.1 : Int)), ())).bind fun r1 =>
(if (decide (r1.1 < 0)) = true then
  some ((-1), ()) else
(l_szIntS N (x.1.2.2.2.2.1, r1.1, ())).bind fun r2 =>
(if (decide (r2.1 < 0)) = true then
  some ((-1), ()) else
  some (r2.1, ()))))
def l_szNodeS (N : Nat) (x : List (Int × Int × ByteArray × List (ByteArray) × List (Int) × Unit) × Int × Unit) : Option (Int × Unit) :=
(if (decide ((IntKind.wrap .i64 (x.2.1 - (List.length x.1 : Int))) < 0)) = true then
  some ((-1), ()) else
(iter (A := Int × Int × Unit) (B := Int × Unit) (C := Int × Unit) (fun s1 =>
(if (decide (s1.2.1 < (List.length x.1 : Int))) = true then
(if inB s1.2.1 (List.length x.1) then
(l_szNode N (List.getD x.1 (Int.toNat s1.2.1) (0, (0, (ByteArray.empty, ([], ([], ()))))), s1.1, ())).bind fun r2 =>
(if (decide (r2.1 < 0)) = true then
  some (Step.ret ((-1), ())) else
  some (Step.more (r2.1, IntKind.wrap .i64 (s1.2.1 + 1), ()))) else none) else
  some (Step.done (s1.1, ())))) N (IntKind.wrap .i64 (x.2.1 - (List.length x.1 : Int)), 0, ())).bind fun r3 => match r3 with
| .inl y4 => some (y4.1, ())
| .inr z5 => some (z5.1, ()))
def l_szProg (N : Nat) (x : (List (Int × Int × ByteArray × List (ByteArray) × List (Int) × Unit) × Int × Unit) × Int × Unit) : Option (Int × Unit) :=
(l_szNodeS N (x.1.1, x.2.1, ())).bind fun r1 =>
(if (decide (r1.1 < 0)) = true then
  some ((-1), ()) else
  some (r1.1, ()))
def l_szDef (N : Nat) (x : (ByteArray × (List (Int × Int × ByteArray × List (ByteArray) × List (Int) × Unit) × Int × Unit) × Unit) × Int × Unit) : Option (Int × Unit) :=
(if (decide ((IntKind.wrap .i64 (x.2.1 - (ByteArray.size x.1.1 : Int))) < 0)) = true then
  some ((-1), ()) else
(l_szProg N (x.1.2.1, IntKind.wrap .i64 (x.2.1 - (ByteArray.size x.1.1 : Int)), ())).bind fun r1 =>
(if (decide (r1.1 < 0)) = true then
  some ((-1), ()) else
  some (r1.1, ())))
def l_szDefS (N : Nat) (x : List (ByteArray × (List (Int × Int × ByteArray × List (ByteArray) × List (Int) × Unit) × Int × Unit) × Unit) × Int × Unit) : Option (Int × Unit) :=
(if (decide ((IntKind.wrap .i64 (x.2.1 - (List.length x.1 : Int))) < 0)) = true then
  some ((-1), ()) else
(iter (A := Int × Int × Unit) (B := Int × Unit) (C := Int × Unit) (fun s1 =>
(if (decide (s1.2.1 < (List.length x.1 : Int))) = true then
(if inB s1.2.1 (List.length x.1) then
(l_szDef N (List.getD x.1 (Int.toNat s1.2.1) (ByteArray.empty, (([], (0, ())), ())), s1.1, ())).bind fun r2 =>
(if (decide (r2.1 < 0)) = true then
  some (Step.ret ((-1), ())) else
  some (Step.more (r2.1, IntKind.wrap .i64 (s1.2.1 + 1), ()))) else none) else
  some (Step.done (s1.1, ())))) N (IntKind.wrap .i64 (x.2.1 - (List.length x.1 : Int)), 0, ())).bind fun r3 => match r3 with
| .inl y4 => some (y4.1, ())
| .inr z5 => some (z5.1, ()))
def l_szSrc (N : Nat) (x : (ByteArray × List (ByteArray) × List (ByteArray) × List (ByteArray × Int × Unit) × List (ByteArray × (List (Int × Int × ByteArray × List (ByteArray) × List (Int) × Unit) × Int × Unit) × Unit) × List (ByteArray × (List (Int × Int × ByteArray × List (ByteArray) × List (Int) × Unit) × Int × Unit) × Unit) × Unit) × Int × Unit) : Option (Int × Unit) :=
(if (decide ((IntKind.wrap .i64 (x.2.1 - (ByteArray.size x.1.1 : Int))) < 0)) = true then
  some ((-1), ()) else
(l_szStringS N (x.1.2.1, IntKind.wrap .i64 (x.2.1 - (ByteArray.size x.1.1 : Int)), ())).bind fun r1 =>
(if (decide (r1.1 < 0)) = true then
  some ((-1), ()) else
(l_szStringS N (x.1.2.2.1, r1.1, ())).bind fun r2 =>
(if (decide (r2.1 < 0)) = true then
  some ((-1), ()) else
(l_szTypeS N (x.1.2.2.2.1, r2.1, ())).bind fun r3 =>
(if (decide (r3.1 < 0)) = true then
  some ((-1), ()) else
(l_szDefS N (x.1.2.2.2.2.1, r3.1, ())).bind fun r4 =>
(if (decide (r4.1 < 0)) = true then
  some ((-1), ()) else
(l_szDefS N (x.1.2.2.2.2.2.1, r4.1, ())).bind fun r5 =>
(if (decide (r5.1 < 0)) = true then
  some ((-1), ()) else
  some (r5.1, ())))))))
def s_l11DefNames (N : Nat) (x : List (ByteArray × (List (Int × Int × ByteArray × List (ByteArray) × List (Int) × Unit) × Int × Unit) × Unit) × Unit) : Option (List (ByteArray) × Unit) :=
(iter (A := List (ByteArray) × Int × Unit) (B := List (ByteArray) × Unit) (C := List (ByteArray) × Unit) (fun s1 =>
(if (decide (s1.2.1 < (List.length x.1 : Int))) = true then
(if inB s1.2.1 (List.length x.1) then
(if List.length s1.1 + List.length ([(List.getD x.1 (Int.toNat s1.2.1) (ByteArray.empty, (([], (0, ())), ()))).1] : List (ByteArray)) ≤ 4294967296 then
  some (Step.more (s1.1 ++ ([(List.getD x.1 (Int.toNat s1.2.1) (ByteArray.empty, (([], (0, ())), ()))).1] : List (ByteArray)), IntKind.wrap .i64 (s1.2.1 + 1), ())) else none) else none) else
  some (Step.done (s1.1, ())))) N ([], 0, ())).bind fun r2 => match r2 with
| .inl y3 => some (y3.1, ())
| .inr z4 => some (z4.1, ())
def s_l11Many (N : Nat) (x : (ByteArray × List (ByteArray) × List (ByteArray) × List (ByteArray × Int × Unit) × List (ByteArray × (List (Int × Int × ByteArray × List (ByteArray) × List (Int) × Unit) × Int × Unit) × Unit) × List (ByteArray × (List (Int × Int × ByteArray × List (ByteArray) × List (Int) × Unit) × Int × Unit) × Unit) × Unit) × Unit) : Option (Bool × Unit) :=
((if (decide ((List.length x.1.2.1 : Int) > 30)) = true then
  some true else some (decide ((List.length x.1.2.2.1 : Int) > 30)))).bind fun b1 =>
((if b1 = true then
  some true else some (decide ((List.length x.1.2.2.2.2.1 : Int) > 30)))).bind fun b2 =>
((if b2 = true then
  some true else some (decide ((List.length x.1.2.2.2.1 : Int) > 8)))).bind fun b3 =>
((if b3 = true then
  some true else some (decide ((List.length x.1.2.2.2.2.2.1 : Int) > 8)))).bind fun b4 =>
  some (b4, ())
def s_l11TypeNames (N : Nat) (x : List (ByteArray × Int × Unit) × Unit) : Option (List (ByteArray) × Unit) :=
(iter (A := List (ByteArray) × Int × Unit) (B := List (ByteArray) × Unit) (C := List (ByteArray) × Unit) (fun s1 =>
(if (decide (s1.2.1 < (List.length x.1 : Int))) = true then
(if inB s1.2.1 (List.length x.1) then
(if List.length s1.1 + List.length ([(List.getD x.1 (Int.toNat s1.2.1) (ByteArray.empty, (0, ()))).1] : List (ByteArray)) ≤ 4294967296 then
  some (Step.more (s1.1 ++ ([(List.getD x.1 (Int.toNat s1.2.1) (ByteArray.empty, (0, ()))).1] : List (ByteArray)), IntKind.wrap .i64 (s1.2.1 + 1), ())) else none) else none) else
  some (Step.done (s1.1, ())))) N ([], 0, ())).bind fun r2 => match r2 with
| .inl y3 => some (y3.1, ())
| .inr z4 => some (z4.1, ())
def s_l11Twice (N : Nat) (x : List (ByteArray) × Unit) : Option (Bool × Unit) :=
(iter (A := Int × Unit) (B := Unit) (C := Bool × Unit) (fun s1 =>
(if (decide (s1.1 < (List.length x.1 : Int))) = true then
(if cutB 0 s1.1 (List.length x.1) then
(if inB s1.1 (List.length x.1) then
(s_l3In N (List.drop (Int.toNat 0) (List.take (Int.toNat s1.1) x.1), List.getD x.1 (Int.toNat s1.1) ByteArray.empty, ())).bind fun r2 =>
(if r2.1 = true then
  some (Step.ret (true, ())) else
  some (Step.more (IntKind.wrap .i64 (s1.1 + 1), ()))) else none) else none) else
  some (Step.done (())))) N (0, ())).bind fun r3 => match r3 with
| .inl y4 => some (false, ())
| .inr z5 => some (z5.1, ())
def s_l11Dup (N : Nat) (x : (ByteArray × List (ByteArray) × List (ByteArray) × List (ByteArray × Int × Unit) × List (ByteArray × (List (Int × Int × ByteArray × List (ByteArray) × List (Int) × Unit) × Int × Unit) × Unit) × List (ByteArray × (List (Int × Int × ByteArray × List (ByteArray) × List (Int) × Unit) × Int × Unit) × Unit) × Unit) × Unit) : Option (Bool × Unit) :=
(s_l11Twice N (x.1.2.1, ())).bind fun r1 =>
((if r1.1 = true then
  some true else (s_l11Twice N (x.1.2.2.1, ())).bind fun r2 =>
  some r2.1)).bind fun b3 =>
(if b3 = true then
(some true).bind fun b5 =>
  some (b5, ()) else (s_l11TypeNames N (x.1.2.2.2.1, ())).bind fun r6 =>
(s_l11Twice N (r6.1, ())).bind fun r7 =>
(if r7.1 = true then
(some true).bind fun b9 =>
  some (b9, ()) else (s_l11DefNames N (x.1.2.2.2.2.1, ())).bind fun r10 =>
(s_l11Twice N (r10.1, ())).bind fun r11 =>
(if r11.1 = true then
(some true).bind fun b13 =>
  some (b13, ()) else (s_l11DefNames N (x.1.2.2.2.2.2.1, ())).bind fun r14 =>
(s_l11Twice N (r14.1, ())).bind fun r15 =>
((if r15.1 = true then
  some true else (s_l3In N (x.1.2.1, x.1.1, ())).bind fun r16 =>
  some r16.1)).bind fun b17 =>
  some (b17, ()))))
def s_l11Lacks (N : Nat) (x : (ByteArray × List (ByteArray) × List (ByteArray) × List (ByteArray × Int × Unit) × List (ByteArray × (List (Int × Int × ByteArray × List (ByteArray) × List (Int) × Unit) × Int × Unit) × Unit) × List (ByteArray × (List (Int × Int × ByteArray × List (ByteArray) × List (Int) × Unit) × Int × Unit) × Unit) × Unit) × Unit) : Option (Bool × Unit) :=
(iter (A := (ByteArray × List (ByteArray) × List (ByteArray) × List (ByteArray × Int × Unit) × List (ByteArray × (List (Int × Int × ByteArray × List (ByteArray) × List (Int) × Unit) × Int × Unit) × Unit) × List (ByteArray × (List (Int × Int × ByteArray × List (ByteArray) × List (Int) × Unit) × Int × Unit) × Unit) × Unit) × Int × Unit) (B := (ByteArray × List (ByteArray) × List (ByteArray) × List (ByteArray × Int × Unit) × List (ByteArray × (List (Int × Int × ByteArray × List (ByteArray) × List (Int) × Unit) × Int × Unit) × Unit) × List (ByteArray × (List (Int × Int × ByteArray × List (ByteArray) × List (Int) × Unit) × Int × Unit) × Unit) × Unit) × Unit) (C := Bool × Unit) (fun s1 =>
(if (decide (s1.2.1 < (List.length s1.1.2.2.1 : Int))) = true then
(if inB s1.2.1 (List.length s1.1.2.2.1) then
(s_l11DefNames N (s1.1.2.2.2.2.1, ())).bind fun r2 =>
(s_l3In N (r2.1, List.getD s1.1.2.2.1 (Int.toNat s1.2.1) ByteArray.empty, ())).bind fun r3 =>
(if (!r3.1) = true then
  some (Step.ret (true, ())) else
  some (Step.more (s1.1, IntKind.wrap .i64 (s1.2.1 + 1), ()))) else none) else
  some (Step.done (s1.1, ())))) N (x.1, 0, ())).bind fun r4 => match r4 with
| .inl y5 => ((iter (A := (ByteArray × List (ByteArray) × List (ByteArray) × List (ByteArray × Int × Unit) × List (ByteArray × (List (Int × Int × ByteArray × List (ByteArray) × List (Int) × Unit) × Int × Unit) × Unit) × List (ByteArray × (List (Int × Int × ByteArray × List (ByteArray) × List (Int) × Unit) × Int × Unit) × Unit) × Unit) × Int × Unit) (B := Unit) (C := Bool × Unit) (fun s7 =>
(if (decide (s7.2.1 < (List.length s7.1.2.2.2.2.2.1 : Int))) = true then
(if inB s7.2.1 (List.length s7.1.2.2.2.2.2.1) then
(s_l11TypeNames N (s7.1.2.2.2.1, ())).bind fun r8 =>
(s_l3In N (r8.1, (List.getD s7.1.2.2.2.2.2.1 (Int.toNat s7.2.1) (ByteArray.empty, (([], (0, ())), ()))).1, ())).bind fun r9 =>
(if (!r9.1) = true then
  some (Step.ret (true, ())) else
  some (Step.more (s7.1, IntKind.wrap .i64 (s7.2.1 + 1), ()))) else none) else
  some (Step.done (())))) N (y5.1, 0, ())).bind fun r10 => match r10 with
| .inl y11 => some (false, ())
| .inr z12 => some (z12.1, ()))
| .inr z6 => some (z6.1, ())
def s_l11All (N : Nat) (x : List (ByteArray) × Unit) : Option (Bool × Unit) :=
(iter (A := Int × Unit) (B := Unit) (C := Bool × Unit) (fun s1 =>
(if (decide (s1.1 < (List.length x.1 : Int))) = true then
(if inB s1.1 (List.length x.1) then
(s_IsName N (List.getD x.1 (Int.toNat s1.1) ByteArray.empty, ())).bind fun r2 =>
(if (!r2.1) = true then
  some (Step.ret (false, ())) else
  some (Step.more (IntKind.wrap .i64 (s1.1 + 1), ()))) else none) else
  some (Step.done (())))) N (0, ())).bind fun r3 => match r3 with
| .inl y4 => some (true, ())
| .inr z5 => some (z5.1, ())
def s_l3Names (N : Nat) (x : List (ByteArray) × Int × Unit) : Option (Bool × Unit) :=
(if (decide ((List.length x.1 : Int) > x.2.1)) = true then
  some (false, ()) else
(iter (A := Int × Unit) (B := Unit) (C := Bool × Unit) (fun s1 =>
(if (decide (s1.1 < (List.length x.1 : Int))) = true then
(if inB s1.1 (List.length x.1) then
(s_IsName N (List.getD x.1 (Int.toNat s1.1) ByteArray.empty, ())).bind fun r2 =>
(if (!r2.1) = true then
  some (Step.ret (false, ())) else (if cutB 0 s1.1 (List.length x.1) then
(if inB s1.1 (List.length x.1) then
(s_l3In N (List.drop (Int.toNat 0) (List.take (Int.toNat s1.1) x.1), List.getD x.1 (Int.toNat s1.1) ByteArray.empty, ())).bind fun r3 =>
(if r3.1 = true then
  some (Step.ret (false, ())) else
  some (Step.more (IntKind.wrap .i64 (s1.1 + 1), ()))) else none) else none)) else none) else
  some (Step.done (())))) N (0, ())).bind fun r4 => match r4 with
| .inl y5 => some (true, ())
| .inr z6 => some (z6.1, ()))
def s_l3Prim (N : Nat) (x : (Int × Int × ByteArray × List (ByteArray) × List (Int) × Unit) × Unit) : Option (Bool × Unit) :=
(if (decide (x.1.2.2.1 = (ByteArray.mk #[109, 97, 107, 101]))) = true then
((if (decide ((List.length x.1.2.2.2.1 : Int) = 1)) = true then
(if inB 0 (List.length x.1.2.2.2.1) then
(s_IsName N (List.getD x.1.2.2.2.1 (Int.toNat 0) ByteArray.empty, ())).bind fun r1 =>
  some r1.1 else none) else some false)).bind fun b2 =>
((if b2 = true then
  some (decide ((List.length x.1.2.2.2.2.1 : Int) ≤ 8)) else some false)).bind fun b3 =>
((if b3 = true then
  some (decide (x.1.2.1 = 0)) else some false)).bind fun b4 =>
  some (b4, ()) else
(if (decide (x.1.2.2.1 = (ByteArray.mk #[102, 105, 101, 108, 100]))) = true then
((if (decide ((List.length x.1.2.2.2.1 : Int) = 1)) = true then
(if inB 0 (List.length x.1.2.2.2.1) then
(s_IsName N (List.getD x.1.2.2.2.1 (Int.toNat 0) ByteArray.empty, ())).bind fun r5 =>
  some r5.1 else none) else some false)).bind fun b6 =>
((if b6 = true then
  some (decide ((List.length x.1.2.2.2.2.1 : Int) = 1)) else some false)).bind fun b7 =>
((if b7 = true then
(s_l1In N (x.1.2.1, 0, 7, ())).bind fun r8 =>
  some r8.1 else some false)).bind fun b9 =>
  some (b9, ()) else
(if (decide (x.1.2.2.1 = (ByteArray.mk #[105, 115]))) = true then
((if (decide ((List.length x.1.2.2.2.1 : Int) = 1)) = true then
(if inB 0 (List.length x.1.2.2.2.1) then
(s_IsName N (List.getD x.1.2.2.2.1 (Int.toNat 0) ByteArray.empty, ())).bind fun r10 =>
  some r10.1 else none) else some false)).bind fun b11 =>
((if b11 = true then
  some (decide ((List.length x.1.2.2.2.2.1 : Int) = 1)) else some false)).bind fun b12 =>
((if b12 = true then
  some (decide (x.1.2.1 = 0)) else some false)).bind fun b13 =>
  some (b13, ()) else
((if (decide ((List.length x.1.2.2.2.1 : Int) = 0)) = true then
(s_Arity N (x.1.2.2.1, ())).bind fun r14 =>
  some (decide (r14.1 = (List.length x.1.2.2.2.2.1 : Int))) else some false)).bind fun b15 =>
((if b15 = true then
  some (decide (x.1.2.1 = 0)) else some false)).bind fun b16 =>
  some (b16, ()))))
def s_l3Node (N : Nat) (x : (Int × Int × ByteArray × List (ByteArray) × List (Int) × Unit) × Unit) : Option (Bool × Unit) :=
(if (decide (x.1.1 = 1)) = true then
((if (decide ((List.length x.1.2.2.2.1 : Int) = 0)) = true then
  some (decide ((List.length x.1.2.2.2.2.1 : Int) = 0)) else some false)).bind fun b1 =>
((if b1 = true then
  some (decide (x.1.2.2.1 = (ByteArray.mk #[]))) else some false)).bind fun b2 =>
((if b2 = true then
(s_l1In N (x.1.2.1, (-1000000), 1000000, ())).bind fun r3 =>
  some r3.1 else some false)).bind fun b4 =>
  some (b4, ()) else
(if (decide (x.1.1 = 2)) = true then
((if (decide ((List.length x.1.2.2.2.1 : Int) = 0)) = true then
  some (decide ((List.length x.1.2.2.2.2.1 : Int) = 0)) else some false)).bind fun b5 =>
((if b5 = true then
  some (decide (x.1.2.2.1 = (ByteArray.mk #[]))) else some false)).bind fun b6 =>
((if b6 = true then
(s_l1In N (x.1.2.1, 0, 1, ())).bind fun r7 =>
  some r7.1 else some false)).bind fun b8 =>
  some (b8, ()) else
(if (decide (x.1.1 = 3)) = true then
((if (decide ((List.length x.1.2.2.2.1 : Int) = 0)) = true then
  some (decide ((List.length x.1.2.2.2.2.1 : Int) = 0)) else some false)).bind fun b9 =>
((if b9 = true then
  some (decide (x.1.2.2.1 = (ByteArray.mk #[]))) else some false)).bind fun b10 =>
((if b10 = true then
  some (decide (x.1.2.1 = 0)) else some false)).bind fun b11 =>
  some (b11, ()) else
(if (decide (x.1.1 = 4)) = true then
((if (decide ((List.length x.1.2.2.2.1 : Int) = 0)) = true then
  some (decide ((List.length x.1.2.2.2.2.1 : Int) = 0)) else some false)).bind fun b12 =>
((if b12 = true then
(s_l2Sym N (x.1.2.2.1, ())).bind fun r13 =>
  some r13.1 else some false)).bind fun b14 =>
((if b14 = true then
  some (decide (x.1.2.1 = 0)) else some false)).bind fun b15 =>
  some (b15, ()) else
(if (decide (x.1.1 = 5)) = true then
((if (decide ((List.length x.1.2.2.2.1 : Int) = 0)) = true then
  some (decide ((List.length x.1.2.2.2.2.1 : Int) = 0)) else some false)).bind fun b16 =>
((if b16 = true then
(s_IsName N (x.1.2.2.1, ())).bind fun r17 =>
  some r17.1 else some false)).bind fun b18 =>
((if b18 = true then
  some (decide (x.1.2.1 = 0)) else some false)).bind fun b19 =>
  some (b19, ()) else
(if (decide (x.1.1 = 6)) = true then
((if (decide ((List.length x.1.2.2.2.1 : Int) = 0)) = true then
  some (decide ((List.length x.1.2.2.2.2.1 : Int) = 3)) else some false)).bind fun b20 =>
((if b20 = true then
  some (decide (x.1.2.2.1 = (ByteArray.mk #[]))) else some false)).bind fun b21 =>
((if b21 = true then
  some (decide (x.1.2.1 = 0)) else some false)).bind fun b22 =>
  some (b22, ()) else
(if (decide (x.1.1 = 7)) = true then
(s_l3Names N (x.1.2.2.2.1, 8, ())).bind fun r23 =>
((if r23.1 = true then
  some (decide ((List.length x.1.2.2.2.2.1 : Int) = 1)) else some false)).bind fun b24 =>
((if b24 = true then
  some (decide (x.1.2.2.1 = (ByteArray.mk #[]))) else some false)).bind fun b25 =>
((if b25 = true then
  some (decide (x.1.2.1 = 0)) else some false)).bind fun b26 =>
  some (b26, ()) else
(if (decide (x.1.1 = 8)) = true then
((if (decide ((List.length x.1.2.2.2.1 : Int) = 0)) = true then
(s_l1In N ((List.length x.1.2.2.2.2.1 : Int), 1, 9, ())).bind fun r27 =>
  some r27.1 else some false)).bind fun b28 =>
((if b28 = true then
  some (decide (x.1.2.2.1 = (ByteArray.mk #[]))) else some false)).bind fun b29 =>
((if b29 = true then
  some (decide (x.1.2.1 = 0)) else some false)).bind fun b30 =>
  some (b30, ()) else
(if (decide (x.1.1 = 10)) = true then
((if (decide ((List.length x.1.2.2.2.1 : Int) = 0)) = true then
  some (decide ((List.length x.1.2.2.2.2.1 : Int) = 1)) else some false)).bind fun b31 =>
((if b31 = true then
(s_IsName N (x.1.2.2.1, ())).bind fun r32 =>
  some r32.1 else some false)).bind fun b33 =>
((if b33 = true then
  some (decide (x.1.2.1 = 0)) else some false)).bind fun b34 =>
  some (b34, ()) else
(if (decide (x.1.1 = 11)) = true then
((if (decide ((List.length x.1.2.2.2.1 : Int) = 0)) = true then
  some (decide ((List.length x.1.2.2.2.2.1 : Int) ≥ 2)) else some false)).bind fun b35 =>
((if b35 = true then
  some (decide (x.1.2.2.1 = (ByteArray.mk #[]))) else some false)).bind fun b36 =>
((if b36 = true then
  some (decide (x.1.2.1 = 0)) else some false)).bind fun b37 =>
  some (b37, ()) else
(if (decide (x.1.1 = 9)) = true then
(s_l3Prim N (x.1, ())).bind fun r38 =>
  some (r38.1, ()) else
  some (false, ()))))))))))))
def s_ProgOk (N : Nat) (x : (List (Int × Int × ByteArray × List (ByteArray) × List (Int) × Unit) × Int × Unit) × Unit) : Option (Bool × Unit) :=
(s_l1In N ((List.length x.1.1 : Int), 1, 400, ())).bind fun r1 =>
((if (!r1.1) = true then
  some true else some (!decide (x.1.2.1 = (IntKind.wrap .i64 ((List.length x.1.1 : Int) - 1)))))).bind fun b2 =>
(if b2 = true then
  some (false, ()) else
(if mkB (List.length x.1.1 : Int) (List.length x.1.1 : Int) then
(iter (A := (List (Int × Int × ByteArray × List (ByteArray) × List (Int) × Unit) × Int × Unit) × List (Int) × Int × Unit) (B := List (Int) × Unit) (C := Bool × Unit) (fun s3 =>
(if (decide (s3.2.2.1 < (List.length s3.1.1 : Int))) = true then
(if inB s3.2.2.1 (List.length s3.1.1) then
(s_l3Node N (List.getD s3.1.1 (Int.toNat s3.2.2.1) (0, (0, (ByteArray.empty, ([], ([], ()))))), ())).bind fun r4 =>
(if (!r4.1) = true then
  some (Step.ret (false, ())) else
(iter (A := (List (Int × Int × ByteArray × List (ByteArray) × List (Int) × Unit) × Int × Unit) × List (Int) × Int × Unit) (B := (List (Int × Int × ByteArray × List (ByteArray) × List (Int) × Unit) × Int × Unit) × List (Int) × Unit) (C := Bool × Unit) (fun s5 =>
(if inB s3.2.2.1 (List.length s5.1.1) then
(if (decide (s5.2.2.1 < (List.length ((((((List.getD s5.1.1 (Int.toNat s3.2.2.1) (0, (0, (ByteArray.empty, ([], ([], ())))))).2).2).2).2).1) : Int))) = true then
(if inB s3.2.2.1 (List.length s5.1.1) then
(if inB s5.2.2.1 (List.length ((((((List.getD s5.1.1 (Int.toNat s3.2.2.1) (0, (0, (ByteArray.empty, ([], ([], ())))))).2).2).2).2).1)) then
((if (decide ((List.getD ((((((List.getD s5.1.1 (Int.toNat s3.2.2.1) (0, (0, (ByteArray.empty, ([], ([], ())))))).2).2).2).2).1) (Int.toNat s5.2.2.1) 0) < 0)) = true then
  some true else some (decide ((List.getD ((((((List.getD s5.1.1 (Int.toNat s3.2.2.1) (0, (0, (ByteArray.empty, ([], ([], ())))))).2).2).2).2).1) (Int.toNat s5.2.2.1) 0) ≥ s3.2.2.1)))).bind fun b6 =>
(if b6 = true then
  some (Step.ret (false, ())) else
(if inB (List.getD ((((((List.getD s5.1.1 (Int.toNat s3.2.2.1) (0, (0, (ByteArray.empty, ([], ([], ())))))).2).2).2).2).1) (Int.toNat s5.2.2.1) 0) (List.length s5.2.1) then
(if inB (List.getD ((((((List.getD s5.1.1 (Int.toNat s3.2.2.1) (0, (0, (ByteArray.empty, ([], ([], ())))))).2).2).2).2).1) (Int.toNat s5.2.2.1) 0) (List.length s5.2.1) then
  some (Step.more (s5.1, List.set s5.2.1 (Int.toNat (List.getD ((((((List.getD s5.1.1 (Int.toNat s3.2.2.1) (0, (0, (ByteArray.empty, ([], ([], ())))))).2).2).2).2).1) (Int.toNat s5.2.2.1) 0)) (IntKind.wrap .i64 ((List.getD s5.2.1 (Int.toNat (List.getD ((((((List.getD s5.1.1 (Int.toNat s3.2.2.1) (0, (0, (ByteArray.empty, ([], ([], ())))))).2).2).2).2).1) (Int.toNat s5.2.2.1) 0)) 0) + 1)), IntKind.wrap .i64 (s5.2.2.1 + 1), ())) else none) else none)) else none) else none) else
  some (Step.done (s5.1, s5.2.1, ()))) else none)) N (s3.1, s3.2.1, 0, ())).bind fun r7 => match r7 with
| .inl y8 => some (Step.more (y8.1, y8.2.1, IntKind.wrap .i64 (s3.2.2.1 + 1), ()))
| .inr z9 => some (Step.ret (z9.1, ()))) else none) else
  some (Step.done (s3.2.1, ())))) N (x.1, List.replicate (Int.toNat (List.length x.1.1 : Int)) 0, 0, ())).bind fun r10 => match r10 with
| .inl y11 => ((iter (A := List (Int) × Int × Unit) (B := Unit) (C := Bool × Unit) (fun s13 =>
(if (decide (s13.2.1 < (IntKind.wrap .i64 ((List.length s13.1 : Int) - 1)))) = true then
(if inB s13.2.1 (List.length s13.1) then
(if (!decide ((List.getD s13.1 (Int.toNat s13.2.1) 0) = 1)) = true then
  some (Step.ret (false, ())) else
  some (Step.more (s13.1, IntKind.wrap .i64 (s13.2.1 + 1), ()))) else none) else
  some (Step.done (())))) N (y11.1, 0, ())).bind fun r14 => match r14 with
| .inl y15 => some (true, ())
| .inr z16 => some (z16.1, ()))
| .inr z12 => some (z12.1, ()) else none))
def s_SrcOk (N : Nat) (x : (ByteArray × List (ByteArray) × List (ByteArray) × List (ByteArray × Int × Unit) × List (ByteArray × (List (Int × Int × ByteArray × List (ByteArray) × List (Int) × Unit) × Int × Unit) × Unit) × List (ByteArray × (List (Int × Int × ByteArray × List (ByteArray) × List (Int) × Unit) × Int × Unit) × Unit) × Unit) × Unit) : Option (Bool × Unit) :=
(s_IsName N (x.1.1, ())).bind fun r1 =>
((if (!r1.1) = true then
  some true else (s_l11Many N (x.1, ())).bind fun r2 =>
  some r2.1)).bind fun b3 =>
((if b3 = true then
  some true else (s_l11Dup N (x.1, ())).bind fun r4 =>
  some r4.1)).bind fun b5 =>
((if b5 = true then
  some true else (s_l11Lacks N (x.1, ())).bind fun r6 =>
  some r6.1)).bind fun b7 =>
((if b7 = true then
  some true else (s_l11All N (x.1.2.1, ())).bind fun r8 =>
  some (!r8.1))).bind fun b9 =>
((if b9 = true then
  some true else (s_l11All N (x.1.2.2.1, ())).bind fun r10 =>
  some (!r10.1))).bind fun b11 =>
(if b11 = true then
  some (false, ()) else (s_l11TypeNames N (x.1.2.2.2.1, ())).bind fun r12 =>
(s_l11All N (r12.1, ())).bind fun r13 =>
(if (!r13.1) = true then
  some (false, ()) else (s_l11DefNames N (x.1.2.2.2.2.1, ())).bind fun r14 =>
(s_l11All N (r14.1, ())).bind fun r15 =>
(if (!r15.1) = true then
  some (false, ()) else (s_l11DefNames N (x.1.2.2.2.2.2.1, ())).bind fun r16 =>
(s_l11All N (r16.1, ())).bind fun r17 =>
(if (!r17.1) = true then
  some (false, ()) else
(iter (A := (ByteArray × List (ByteArray) × List (ByteArray) × List (ByteArray × Int × Unit) × List (ByteArray × (List (Int × Int × ByteArray × List (ByteArray) × List (Int) × Unit) × Int × Unit) × Unit) × List (ByteArray × (List (Int × Int × ByteArray × List (ByteArray) × List (Int) × Unit) × Int × Unit) × Unit) × Unit) × Int × Unit) (B := (ByteArray × List (ByteArray) × List (ByteArray) × List (ByteArray × Int × Unit) × List (ByteArray × (List (Int × Int × ByteArray × List (ByteArray) × List (Int) × Unit) × Int × Unit) × Unit) × List (ByteArray × (List (Int × Int × ByteArray × List (ByteArray) × List (Int) × Unit) × Int × Unit) × Unit) × Unit) × Unit) (C := Bool × Unit) (fun s18 =>
(if (decide (s18.2.1 < (List.length s18.1.2.2.2.1 : Int))) = true then
(if inB s18.2.1 (List.length s18.1.2.2.2.1) then
(s_l1In N (((List.getD s18.1.2.2.2.1 (Int.toNat s18.2.1) (ByteArray.empty, (0, ()))).2).1, 0, 8, ())).bind fun r19 =>
(if (!r19.1) = true then
  some (Step.ret (false, ())) else
  some (Step.more (s18.1, IntKind.wrap .i64 (s18.2.1 + 1), ()))) else none) else
  some (Step.done (s18.1, ())))) N (x.1, 0, ())).bind fun r20 => match r20 with
| .inl y21 => ((iter (A := (ByteArray × List (ByteArray) × List (ByteArray) × List (ByteArray × Int × Unit) × List (ByteArray × (List (Int × Int × ByteArray × List (ByteArray) × List (Int) × Unit) × Int × Unit) × Unit) × List (ByteArray × (List (Int × Int × ByteArray × List (ByteArray) × List (Int) × Unit) × Int × Unit) × Unit) × Unit) × Int × Unit) (B := (ByteArray × List (ByteArray) × List (ByteArray) × List (ByteArray × Int × Unit) × List (ByteArray × (List (Int × Int × ByteArray × List (ByteArray) × List (Int) × Unit) × Int × Unit) × Unit) × List (ByteArray × (List (Int × Int × ByteArray × List (ByteArray) × List (Int) × Unit) × Int × Unit) × Unit) × Unit) × Unit) (C := Bool × Unit) (fun s23 =>
(if (decide (s23.2.1 < (List.length s23.1.2.2.2.2.1 : Int))) = true then
(if inB s23.2.1 (List.length s23.1.2.2.2.2.1) then
(s_ProgOk N (((List.getD s23.1.2.2.2.2.1 (Int.toNat s23.2.1) (ByteArray.empty, (([], (0, ())), ()))).2).1, ())).bind fun r24 =>
(if (!r24.1) = true then
  some (Step.ret (false, ())) else
  some (Step.more (s23.1, IntKind.wrap .i64 (s23.2.1 + 1), ()))) else none) else
  some (Step.done (s23.1, ())))) N (y21.1, 0, ())).bind fun r25 => match r25 with
| .inl y26 => ((iter (A := (ByteArray × List (ByteArray) × List (ByteArray) × List (ByteArray × Int × Unit) × List (ByteArray × (List (Int × Int × ByteArray × List (ByteArray) × List (Int) × Unit) × Int × Unit) × Unit) × List (ByteArray × (List (Int × Int × ByteArray × List (ByteArray) × List (Int) × Unit) × Int × Unit) × Unit) × Unit) × Int × Unit) (B := Unit) (C := Bool × Unit) (fun s28 =>
(if (decide (s28.2.1 < (List.length s28.1.2.2.2.2.2.1 : Int))) = true then
(if inB s28.2.1 (List.length s28.1.2.2.2.2.2.1) then
(s_ProgOk N (((List.getD s28.1.2.2.2.2.2.1 (Int.toNat s28.2.1) (ByteArray.empty, (([], (0, ())), ()))).2).1, ())).bind fun r29 =>
(if (!r29.1) = true then
  some (Step.ret (false, ())) else
  some (Step.more (s28.1, IntKind.wrap .i64 (s28.2.1 + 1), ()))) else none) else
  some (Step.done (())))) N (y26.1, 0, ())).bind fun r30 => match r30 with
| .inl y31 => some (true, ())
| .inr z32 => some (z32.1, ()))
| .inr z27 => some (z27.1, ()))
| .inr z22 => some (z22.1, ())))))
def l_toType (N : Nat) (x : (ByteArray × Int × Unit) × Unit) : Option ((ByteArray × Int × Unit) × Unit) :=
  some ((x.1.1, (x.1.2.1, ())), ())
def l_toTypeS (N : Nat) (x : List (ByteArray × Int × Unit) × Unit) : Option (List (ByteArray × Int × Unit) × Unit) :=
(if mkB (List.length x.1 : Int) (List.length x.1 : Int) then
(iter (A := List (ByteArray × Int × Unit) × Int × Unit) (B := List (ByteArray × Int × Unit) × Unit) (C := List (ByteArray × Int × Unit) × Unit) (fun s1 =>
(if (decide (s1.2.1 < (List.length x.1 : Int))) = true then
(if inB s1.2.1 (List.length x.1) then
(l_toType N (List.getD x.1 (Int.toNat s1.2.1) (ByteArray.empty, (0, ())), ())).bind fun r2 =>
(if inB s1.2.1 (List.length s1.1) then
  some (Step.more (List.set s1.1 (Int.toNat s1.2.1) r2.1, IntKind.wrap .i64 (s1.2.1 + 1), ())) else none) else none) else
  some (Step.done (s1.1, ())))) N (List.replicate (Int.toNat (List.length x.1 : Int)) (ByteArray.empty, (0, ())), 0, ())).bind fun r3 => match r3 with
| .inl y4 => some (y4.1, ())
| .inr z5 => some (z5.1, ()) else none)
def l_toIntS (N : Nat) (x : List (Int) × Unit) : Option (List (Int) × Unit) :=
(if mkB (List.length x.1 : Int) (List.length x.1 : Int) then
(iter (A := List (Int) × Int × Unit) (B := List (Int) × Unit) (C := List (Int) × Unit) (fun s1 =>
(if (decide (s1.2.1 < (List.length x.1 : Int))) = true then
(if inB s1.2.1 (List.length x.1) then
(if inB s1.2.1 (List.length s1.1) then
  some (Step.more (List.set s1.1 (Int.toNat s1.2.1) (List.getD x.1 (Int.toNat s1.2.1) 0), IntKind.wrap .i64 (s1.2.1 + 1), ())) else none) else none) else
  some (Step.done (s1.1, ())))) N (List.replicate (Int.toNat (List.length x.1 : Int)) 0, 0, ())).bind fun r2 => match r2 with
| .inl y3 => some (y3.1, ())
| .inr z4 => some (z4.1, ()) else none)
def l_toNode (N : Nat) (x : (Int × Int × ByteArray × List (ByteArray) × List (Int) × Unit) × Unit) : Option ((Int × Int × ByteArray × List (ByteArray) × List (Int) × Unit) × Unit) :=
(l_toStringS N (x.1.2.2.2.1, ())).bind fun r1 =>
(l_toIntS N (x.1.2.2.2.2.1, ())).bind fun r2 =>
  some ((x.1.1, (x.1.2.1, (x.1.2.2.1, (r1.1, (r2.1, ()))))), ())
def l_toNodeS (N : Nat) (x : List (Int × Int × ByteArray × List (ByteArray) × List (Int) × Unit) × Unit) : Option (List (Int × Int × ByteArray × List (ByteArray) × List (Int) × Unit) × Unit) :=
(if mkB (List.length x.1 : Int) (List.length x.1 : Int) then
(iter (A := List (Int × Int × ByteArray × List (ByteArray) × List (Int) × Unit) × Int × Unit) (B := List (Int × Int × ByteArray × List (ByteArray) × List (Int) × Unit) × Unit) (C := List (Int × Int × ByteArray × List (ByteArray) × List (Int) × Unit) × Unit) (fun s1 =>
(if (decide (s1.2.1 < (List.length x.1 : Int))) = true then
(if inB s1.2.1 (List.length x.1) then
(l_toNode N (List.getD x.1 (Int.toNat s1.2.1) (0, (0, (ByteArray.empty, ([], ([], ()))))), ())).bind fun r2 =>
(if inB s1.2.1 (List.length s1.1) then
  some (Step.more (List.set s1.1 (Int.toNat s1.2.1) r2.1, IntKind.wrap .i64 (s1.2.1 + 1), ())) else none) else none) else
  some (Step.done (s1.1, ())))) N (List.replicate (Int.toNat (List.length x.1 : Int)) (0, (0, (ByteArray.empty, ([], ([], ()))))), 0, ())).bind fun r3 => match r3 with
| .inl y4 => some (y4.1, ())
| .inr z5 => some (z5.1, ()) else none)
def l_toProg (N : Nat) (x : (List (Int × Int × ByteArray × List (ByteArray) × List (Int) × Unit) × Int × Unit) × Unit) : Option ((List (Int × Int × ByteArray × List (ByteArray) × List (Int) × Unit) × Int × Unit) × Unit) :=
(l_toNodeS N (x.1.1, ())).bind fun r1 =>
  some ((r1.1, (x.1.2.1, ())), ())
def l_toDef (N : Nat) (x : (ByteArray × (List (Int × Int × ByteArray × List (ByteArray) × List (Int) × Unit) × Int × Unit) × Unit) × Unit) : Option ((ByteArray × (List (Int × Int × ByteArray × List (ByteArray) × List (Int) × Unit) × Int × Unit) × Unit) × Unit) :=
(l_toProg N (x.1.2.1, ())).bind fun r1 =>
  some ((x.1.1, (r1.1, ())), ())
def l_toDefS (N : Nat) (x : List (ByteArray × (List (Int × Int × ByteArray × List (ByteArray) × List (Int) × Unit) × Int × Unit) × Unit) × Unit) : Option (List (ByteArray × (List (Int × Int × ByteArray × List (ByteArray) × List (Int) × Unit) × Int × Unit) × Unit) × Unit) :=
(if mkB (List.length x.1 : Int) (List.length x.1 : Int) then
(iter (A := List (ByteArray × (List (Int × Int × ByteArray × List (ByteArray) × List (Int) × Unit) × Int × Unit) × Unit) × Int × Unit) (B := List (ByteArray × (List (Int × Int × ByteArray × List (ByteArray) × List (Int) × Unit) × Int × Unit) × Unit) × Unit) (C := List (ByteArray × (List (Int × Int × ByteArray × List (ByteArray) × List (Int) × Unit) × Int × Unit) × Unit) × Unit) (fun s1 =>
(if (decide (s1.2.1 < (List.length x.1 : Int))) = true then
(if inB s1.2.1 (List.length x.1) then
(l_toDef N (List.getD x.1 (Int.toNat s1.2.1) (ByteArray.empty, (([], (0, ())), ())), ())).bind fun r2 =>
(if inB s1.2.1 (List.length s1.1) then
  some (Step.more (List.set s1.1 (Int.toNat s1.2.1) r2.1, IntKind.wrap .i64 (s1.2.1 + 1), ())) else none) else none) else
  some (Step.done (s1.1, ())))) N (List.replicate (Int.toNat (List.length x.1 : Int)) (ByteArray.empty, (([], (0, ())), ())), 0, ())).bind fun r3 => match r3 with
| .inl y4 => some (y4.1, ())
| .inr z5 => some (z5.1, ()) else none)
def l_toSrc (N : Nat) (x : (ByteArray × List (ByteArray) × List (ByteArray) × List (ByteArray × Int × Unit) × List (ByteArray × (List (Int × Int × ByteArray × List (ByteArray) × List (Int) × Unit) × Int × Unit) × Unit) × List (ByteArray × (List (Int × Int × ByteArray × List (ByteArray) × List (Int) × Unit) × Int × Unit) × Unit) × Unit) × Unit) : Option ((ByteArray × List (ByteArray) × List (ByteArray) × List (ByteArray × Int × Unit) × List (ByteArray × (List (Int × Int × ByteArray × List (ByteArray) × List (Int) × Unit) × Int × Unit) × Unit) × List (ByteArray × (List (Int × Int × ByteArray × List (ByteArray) × List (Int) × Unit) × Int × Unit) × Unit) × Unit) × Unit) :=
(l_toStringS N (x.1.2.1, ())).bind fun r1 =>
(l_toStringS N (x.1.2.2.1, ())).bind fun r2 =>
(l_toTypeS N (x.1.2.2.2.1, ())).bind fun r3 =>
(l_toDefS N (x.1.2.2.2.2.1, ())).bind fun r4 =>
(l_toDefS N (x.1.2.2.2.2.2.1, ())).bind fun r5 =>
  some ((x.1.1, (r1.1, (r2.1, (r3.1, (r4.1, (r5.1, ())))))), ())
def i_Src_isFew (N : Nat) (x : (ByteArray × List (ByteArray) × List (ByteArray) × List (ByteArray × Int × Unit) × List (ByteArray × (List (Int × Int × ByteArray × List (ByteArray) × List (Int) × Unit) × Int × Unit) × Unit) × List (ByteArray × (List (Int × Int × ByteArray × List (ByteArray) × List (Int) × Unit) × Int × Unit) × Unit) × Unit) × Unit) : Option (Bool × Unit) :=
((if (decide ((List.length x.1.2.1 : Int) ≤ 30)) = true then
  some (decide ((List.length x.1.2.2.1 : Int) ≤ 30)) else some false)).bind fun b1 =>
((if b1 = true then
  some (decide ((List.length x.1.2.2.2.2.1 : Int) ≤ 30)) else some false)).bind fun b2 =>
((if b2 = true then
  some (decide ((List.length x.1.2.2.2.1 : Int) ≤ 8)) else some false)).bind fun b3 =>
((if b3 = true then
  some (decide ((List.length x.1.2.2.2.2.2.1 : Int) ≤ 8)) else some false)).bind fun b4 =>
  some (b4, ())
def g_slices_Index_string_string_ (N : Nat) (x : List (ByteArray) × ByteArray × Unit) : Option (Int × Unit) :=
(iter (A := Int × Unit) (B := Unit) (C := Int × Unit) (fun s1 =>
(if (decide (s1.1 < (List.length x.1 : Int))) = true then
(if inB s1.1 (List.length x.1) then
(if (decide (x.2.1 = (List.getD x.1 (Int.toNat s1.1) ByteArray.empty))) = true then
  some (Step.ret (s1.1, ())) else
  some (Step.more (IntKind.wrap .i64 (s1.1 + 1), ()))) else none) else
  some (Step.done (())))) N (0, ())).bind fun r2 => match r2 with
| .inl y3 => some ((-1), ())
| .inr z4 => some (z4.1, ())
def g_slices_Contains_string_string_ (N : Nat) (x : List (ByteArray) × ByteArray × Unit) : Option (Bool × Unit) :=
(g_slices_Index_string_string_ N (x.1, x.2.1, ())).bind fun r1 =>
  some (decide (r1.1 ≥ 0), ())
def i_namesOfDefs (N : Nat) (x : List (ByteArray × (List (Int × Int × ByteArray × List (ByteArray) × List (Int) × Unit) × Int × Unit) × Unit) × Unit) : Option (List (ByteArray) × Unit) :=
(iter (A := List (ByteArray) × Int × Unit) (B := List (ByteArray) × Unit) (C := List (ByteArray) × Unit) (fun s1 =>
(if (decide (s1.2.1 < (List.length x.1 : Int))) = true then
(if inB s1.2.1 (List.length x.1) then
(if List.length s1.1 + List.length ([(List.getD x.1 (Int.toNat s1.2.1) (ByteArray.empty, (([], (0, ())), ()))).1] : List (ByteArray)) ≤ 4294967296 then
  some (Step.more (s1.1 ++ ([(List.getD x.1 (Int.toNat s1.2.1) (ByteArray.empty, (([], (0, ())), ()))).1] : List (ByteArray)), IntKind.wrap .i64 (s1.2.1 + 1), ())) else none) else none) else
  some (Step.done (s1.1, ())))) N ([], 0, ())).bind fun r2 => match r2 with
| .inl y3 => some (y3.1, ())
| .inr z4 => some (z4.1, ())
def i_isOnce (N : Nat) (x : List (ByteArray) × Unit) : Option (Bool × Unit) :=
(iter (A := Int × Unit) (B := Unit) (C := Bool × Unit) (fun s1 =>
(if (decide (s1.1 < (List.length x.1 : Int))) = true then
(if inB s1.1 (List.length x.1) then
(g_slices_Index_string_string_ N (x.1, List.getD x.1 (Int.toNat s1.1) ByteArray.empty, ())).bind fun r2 =>
(if (!decide (r2.1 = s1.1)) = true then
  some (Step.ret (false, ())) else
  some (Step.more (IntKind.wrap .i64 (s1.1 + 1), ()))) else none) else
  some (Step.done (())))) N (0, ())).bind fun r3 => match r3 with
| .inl y4 => some (true, ())
| .inr z5 => some (z5.1, ())
def i_namesOfTypes (N : Nat) (x : List (ByteArray × Int × Unit) × Unit) : Option (List (ByteArray) × Unit) :=
(iter (A := List (ByteArray) × Int × Unit) (B := List (ByteArray) × Unit) (C := List (ByteArray) × Unit) (fun s1 =>
(if (decide (s1.2.1 < (List.length x.1 : Int))) = true then
(if inB s1.2.1 (List.length x.1) then
(if List.length s1.1 + List.length ([(List.getD x.1 (Int.toNat s1.2.1) (ByteArray.empty, (0, ()))).1] : List (ByteArray)) ≤ 4294967296 then
  some (Step.more (s1.1 ++ ([(List.getD x.1 (Int.toNat s1.2.1) (ByteArray.empty, (0, ()))).1] : List (ByteArray)), IntKind.wrap .i64 (s1.2.1 + 1), ())) else none) else none) else
  some (Step.done (s1.1, ())))) N ([], 0, ())).bind fun r2 => match r2 with
| .inl y3 => some (y3.1, ())
| .inr z4 => some (z4.1, ())
def i_Src_isUnlike (N : Nat) (x : (ByteArray × List (ByteArray) × List (ByteArray) × List (ByteArray × Int × Unit) × List (ByteArray × (List (Int × Int × ByteArray × List (ByteArray) × List (Int) × Unit) × Int × Unit) × Unit) × List (ByteArray × (List (Int × Int × ByteArray × List (ByteArray) × List (Int) × Unit) × Int × Unit) × Unit) × Unit) × Unit) : Option (Bool × Unit) :=
(i_isOnce N (x.1.2.1, ())).bind fun r1 =>
(if r1.1 = true then
(i_isOnce N (x.1.2.2.1, ())).bind fun r2 =>
(if r2.1 = true then
(i_namesOfTypes N (x.1.2.2.2.1, ())).bind fun r3 =>
(i_isOnce N (r3.1, ())).bind fun r4 =>
(if r4.1 = true then
(i_namesOfDefs N (x.1.2.2.2.2.1, ())).bind fun r5 =>
(i_isOnce N (r5.1, ())).bind fun r6 =>
(if r6.1 = true then
(i_namesOfDefs N (x.1.2.2.2.2.2.1, ())).bind fun r7 =>
(i_isOnce N (r7.1, ())).bind fun r8 =>
(if r8.1 = true then
(g_slices_Contains_string_string_ N (x.1.2.1, x.1.1, ())).bind fun r9 =>
  some (!r9.1, ()) else some (false, ())) else some (false, ())) else some (false, ())) else some (false, ())) else some (false, ()))
def i_areIn (N : Nat) (x : List (ByteArray) × List (ByteArray) × Unit) : Option (Bool × Unit) :=
(iter (A := Int × Unit) (B := Unit) (C := Bool × Unit) (fun s1 =>
(if (decide (s1.1 < (List.length x.1 : Int))) = true then
(if inB s1.1 (List.length x.1) then
(g_slices_Contains_string_string_ N (x.2.1, List.getD x.1 (Int.toNat s1.1) ByteArray.empty, ())).bind fun r2 =>
(if (!r2.1) = true then
  some (Step.ret (false, ())) else
  some (Step.more (IntKind.wrap .i64 (s1.1 + 1), ()))) else none) else
  some (Step.done (())))) N (0, ())).bind fun r3 => match r3 with
| .inl y4 => some (true, ())
| .inr z5 => some (z5.1, ())
def i_Src_isFit (N : Nat) (x : (ByteArray × List (ByteArray) × List (ByteArray) × List (ByteArray × Int × Unit) × List (ByteArray × (List (Int × Int × ByteArray × List (ByteArray) × List (Int) × Unit) × Int × Unit) × Unit) × List (ByteArray × (List (Int × Int × ByteArray × List (ByteArray) × List (Int) × Unit) × Int × Unit) × Unit) × Unit) × Unit) : Option (Bool × Unit) :=
(i_namesOfDefs N (x.1.2.2.2.2.1, ())).bind fun r1 =>
(i_areIn N (x.1.2.2.1, r1.1, ())).bind fun r2 =>
(if r2.1 = true then
(i_namesOfDefs N (x.1.2.2.2.2.2.1, ())).bind fun r3 =>
(i_namesOfTypes N (x.1.2.2.2.1, ())).bind fun r4 =>
(i_areIn N (r3.1, r4.1, ())).bind fun r5 =>
  some (r5.1, ()) else some (false, ()))
def i_namesOk (N : Nat) (x : List (ByteArray) × Int × Unit) : Option (Bool × Unit) :=
(iter (A := Int × Unit) (B := Unit) (C := Bool × Unit) (fun s1 =>
(if (decide (s1.1 < (List.length x.1 : Int))) = true then
(if inB s1.1 (List.length x.1) then
(i_IsName N (List.getD x.1 (Int.toNat s1.1) ByteArray.empty, ())).bind fun r2 =>
((if (!r2.1) = true then
  some true else (g_slices_Index_string_string_ N (x.1, List.getD x.1 (Int.toNat s1.1) ByteArray.empty, ())).bind fun r3 =>
  some (!decide (r3.1 = s1.1)))).bind fun b4 =>
(if b4 = true then
  some (Step.ret (false, ())) else
  some (Step.more (IntKind.wrap .i64 (s1.1 + 1), ()))) else none) else
  some (Step.done (())))) N (0, ())).bind fun r5 => match r5 with
| .inl y6 => some (decide ((List.length x.1 : Int) ≤ x.2.1), ())
| .inr z7 => some (z7.1, ())
def i_typesOk (N : Nat) (x : List (ByteArray × Int × Unit) × Unit) : Option (Bool × Unit) :=
(iter (A := List (ByteArray) × Int × Unit) (B := List (ByteArray) × Unit) (C := Bool × Unit) (fun s1 =>
(if (decide (s1.2.1 < (List.length x.1 : Int))) = true then
(if inB s1.2.1 (List.length x.1) then
(if List.length s1.1 + List.length ([(List.getD x.1 (Int.toNat s1.2.1) (ByteArray.empty, (0, ()))).1] : List (ByteArray)) ≤ 4294967296 then
(i_inRange N (((List.getD x.1 (Int.toNat s1.2.1) (ByteArray.empty, (0, ()))).2).1, 0, 8, ())).bind fun r2 =>
(if (!r2.1) = true then
  some (Step.ret (false, ())) else
  some (Step.more (s1.1 ++ ([(List.getD x.1 (Int.toNat s1.2.1) (ByteArray.empty, (0, ()))).1] : List (ByteArray)), IntKind.wrap .i64 (s1.2.1 + 1), ()))) else none) else none) else
  some (Step.done (s1.1, ())))) N ([], 0, ())).bind fun r3 => match r3 with
| .inl y4 => (i_namesOk N (y4.1, 8, ())).bind fun r6 =>
  some (r6.1, ())
| .inr z5 => some (z5.1, ())
def i_isTyped (N : Nat) (x : ByteArray × Unit) : Option (Bool × Unit) :=
((if (decide (x.1 = (ByteArray.mk #[109, 97, 107, 101]))) = true then
  some true else some (decide (x.1 = (ByteArray.mk #[102, 105, 101, 108, 100]))))).bind fun b1 =>
((if b1 = true then
  some true else some (decide (x.1 = (ByteArray.mk #[105, 115]))))).bind fun b2 =>
  some (b2, ())
def i_primOk (N : Nat) (x : (Int × Int × ByteArray × List (ByteArray) × List (Int) × Unit) × Unit) : Option (Bool × Unit) :=
(i_Arity N (x.1.2.2.1, ())).bind fun r1 =>
(if (decide (x.1.2.2.1 = (ByteArray.mk #[109, 97, 107, 101]))) = true then
((if (decide (x.1.2.1 = 0)) = true then
  some (decide ((List.length x.1.2.2.2.2.1 : Int) ≤ 8)) else some false)).bind fun b2 =>
((if b2 = true then
  some (decide ((List.length x.1.2.2.2.1 : Int) = 1)) else some false)).bind fun b3 =>
((if b3 = true then
(if inB 0 (List.length x.1.2.2.2.1) then
(i_IsName N (List.getD x.1.2.2.2.1 (Int.toNat 0) ByteArray.empty, ())).bind fun r4 =>
  some r4.1 else none) else some false)).bind fun b5 =>
  some (b5, ()) else
((if (decide (r1.1 < 0)) = true then
  some true else some (!decide ((List.length x.1.2.2.2.2.1 : Int) = r1.1)))).bind fun b6 =>
(if b6 = true then
  some (false, ()) else
((if (decide (x.1.2.2.1 = (ByteArray.mk #[102, 105, 101, 108, 100]))) = true then
(i_inRange N (x.1.2.1, 0, 7, ())).bind fun r7 =>
  some (!r7.1) else some false)).bind fun b8 =>
((if b8 = true then
  some true else ((if (!decide (x.1.2.2.1 = (ByteArray.mk #[102, 105, 101, 108, 100]))) = true then
  some (!decide (x.1.2.1 = 0)) else some false)).bind fun b9 =>
  some b9)).bind fun b10 =>
(if b10 = true then
  some (false, ()) else
(i_isTyped N (x.1.2.2.1, ())).bind fun r11 =>
(if r11.1 = true then
((if (decide ((List.length x.1.2.2.2.1 : Int) = 1)) = true then
(if inB 0 (List.length x.1.2.2.2.1) then
(i_IsName N (List.getD x.1.2.2.2.1 (Int.toNat 0) ByteArray.empty, ())).bind fun r12 =>
  some r12.1 else none) else some false)).bind fun b13 =>
  some (b13, ()) else
  some (decide ((List.length x.1.2.2.2.1 : Int) = 0), ())))))
def i_nodeOk (N : Nat) (x : (Int × Int × ByteArray × List (ByteArray) × List (Int) × Unit) × Unit) : Option (Bool × Unit) :=
(if (decide (x.1.1 = 1)) = true then
(i_inRange N (x.1.2.1, (-1000000), 1000000, ())).bind fun r1 =>
((if r1.1 = true then
  some (decide (x.1.2.2.1 = (ByteArray.mk #[]))) else some false)).bind fun b2 =>
((if b2 = true then
  some (decide ((List.length x.1.2.2.2.1 : Int) = 0)) else some false)).bind fun b3 =>
((if b3 = true then
  some (decide ((List.length x.1.2.2.2.2.1 : Int) = 0)) else some false)).bind fun b4 =>
  some (b4, ()) else
(if (decide (x.1.1 = 2)) = true then
(i_inRange N (x.1.2.1, 0, 1, ())).bind fun r5 =>
((if r5.1 = true then
  some (decide (x.1.2.2.1 = (ByteArray.mk #[]))) else some false)).bind fun b6 =>
((if b6 = true then
  some (decide ((List.length x.1.2.2.2.1 : Int) = 0)) else some false)).bind fun b7 =>
((if b7 = true then
  some (decide ((List.length x.1.2.2.2.2.1 : Int) = 0)) else some false)).bind fun b8 =>
  some (b8, ()) else
(if (decide (x.1.1 = 3)) = true then
((if (decide (x.1.2.1 = 0)) = true then
  some (decide (x.1.2.2.1 = (ByteArray.mk #[]))) else some false)).bind fun b9 =>
((if b9 = true then
  some (decide ((List.length x.1.2.2.2.1 : Int) = 0)) else some false)).bind fun b10 =>
((if b10 = true then
  some (decide ((List.length x.1.2.2.2.2.1 : Int) = 0)) else some false)).bind fun b11 =>
  some (b11, ()) else
(if (decide (x.1.1 = 4)) = true then
((if (decide (x.1.2.1 = 0)) = true then
(i_symOk N (x.1.2.2.1, ())).bind fun r12 =>
  some r12.1 else some false)).bind fun b13 =>
((if b13 = true then
  some (decide ((List.length x.1.2.2.2.1 : Int) = 0)) else some false)).bind fun b14 =>
((if b14 = true then
  some (decide ((List.length x.1.2.2.2.2.1 : Int) = 0)) else some false)).bind fun b15 =>
  some (b15, ()) else
(if (decide (x.1.1 = 5)) = true then
((if (decide (x.1.2.1 = 0)) = true then
(i_IsName N (x.1.2.2.1, ())).bind fun r16 =>
  some r16.1 else some false)).bind fun b17 =>
((if b17 = true then
  some (decide ((List.length x.1.2.2.2.1 : Int) = 0)) else some false)).bind fun b18 =>
((if b18 = true then
  some (decide ((List.length x.1.2.2.2.2.1 : Int) = 0)) else some false)).bind fun b19 =>
  some (b19, ()) else
(if (decide (x.1.1 = 6)) = true then
((if (decide (x.1.2.1 = 0)) = true then
  some (decide (x.1.2.2.1 = (ByteArray.mk #[]))) else some false)).bind fun b20 =>
((if b20 = true then
  some (decide ((List.length x.1.2.2.2.1 : Int) = 0)) else some false)).bind fun b21 =>
((if b21 = true then
  some (decide ((List.length x.1.2.2.2.2.1 : Int) = 3)) else some false)).bind fun b22 =>
  some (b22, ()) else
(if (decide (x.1.1 = 7)) = true then
((if (decide (x.1.2.1 = 0)) = true then
  some (decide (x.1.2.2.1 = (ByteArray.mk #[]))) else some false)).bind fun b23 =>
((if b23 = true then
(i_namesOk N (x.1.2.2.2.1, 8, ())).bind fun r24 =>
  some r24.1 else some false)).bind fun b25 =>
((if b25 = true then
  some (decide ((List.length x.1.2.2.2.2.1 : Int) = 1)) else some false)).bind fun b26 =>
  some (b26, ()) else
(if (decide (x.1.1 = 8)) = true then
((if (decide (x.1.2.1 = 0)) = true then
  some (decide (x.1.2.2.1 = (ByteArray.mk #[]))) else some false)).bind fun b27 =>
((if b27 = true then
  some (decide ((List.length x.1.2.2.2.1 : Int) = 0)) else some false)).bind fun b28 =>
((if b28 = true then
(i_inRange N ((List.length x.1.2.2.2.2.1 : Int), 1, 9, ())).bind fun r29 =>
  some r29.1 else some false)).bind fun b30 =>
  some (b30, ()) else
(if (decide (x.1.1 = 9)) = true then
(i_primOk N (x.1, ())).bind fun r31 =>
  some (r31.1, ()) else
(if (decide (x.1.1 = 10)) = true then
((if (decide (x.1.2.1 = 0)) = true then
(i_IsName N (x.1.2.2.1, ())).bind fun r32 =>
  some r32.1 else some false)).bind fun b33 =>
((if b33 = true then
  some (decide ((List.length x.1.2.2.2.1 : Int) = 0)) else some false)).bind fun b34 =>
((if b34 = true then
  some (decide ((List.length x.1.2.2.2.2.1 : Int) = 1)) else some false)).bind fun b35 =>
  some (b35, ()) else
(if (decide (x.1.1 = 11)) = true then
((if (decide (x.1.2.1 = 0)) = true then
  some (decide (x.1.2.2.1 = (ByteArray.mk #[]))) else some false)).bind fun b36 =>
((if b36 = true then
  some (decide ((List.length x.1.2.2.2.1 : Int) = 0)) else some false)).bind fun b37 =>
((if b37 = true then
  some (decide ((List.length x.1.2.2.2.2.1 : Int) ≥ 2)) else some false)).bind fun b38 =>
  some (b38, ()) else
  some (false, ()))))))))))))
def i_ProgOk (N : Nat) (x : (List (Int × Int × ByteArray × List (ByteArray) × List (Int) × Unit) × Int × Unit) × Unit) : Option (Bool × Unit) :=
(i_inRange N ((List.length x.1.1 : Int), 1, 400, ())).bind fun r1 =>
((if (!r1.1) = true then
  some true else some (!decide (x.1.2.1 = (IntKind.wrap .i64 ((List.length x.1.1 : Int) - 1)))))).bind fun b2 =>
(if b2 = true then
  some (false, ()) else
(if mkB (List.length x.1.1 : Int) (List.length x.1.1 : Int) then
(iter (A := List (Int) × Int × Unit) (B := List (Int) × Unit) (C := Bool × Unit) (fun s3 =>
(if (decide (s3.2.1 < (List.length x.1.1 : Int))) = true then
(if inB s3.2.1 (List.length x.1.1) then
(i_nodeOk N (List.getD x.1.1 (Int.toNat s3.2.1) (0, (0, (ByteArray.empty, ([], ([], ()))))), ())).bind fun r4 =>
(if (!r4.1) = true then
  some (Step.ret (false, ())) else
(iter (A := List (Int) × Int × Unit) (B := List (Int) × Unit) (C := Bool × Unit) (fun s5 =>
(if (decide (s5.2.1 < (List.length ((((((List.getD x.1.1 (Int.toNat s3.2.1) (0, (0, (ByteArray.empty, ([], ([], ())))))).2).2).2).2).1) : Int))) = true then
(if inB s5.2.1 (List.length ((((((List.getD x.1.1 (Int.toNat s3.2.1) (0, (0, (ByteArray.empty, ([], ([], ())))))).2).2).2).2).1)) then
(i_inRange N (List.getD ((((((List.getD x.1.1 (Int.toNat s3.2.1) (0, (0, (ByteArray.empty, ([], ([], ())))))).2).2).2).2).1) (Int.toNat s5.2.1) 0, 0, IntKind.wrap .i64 (s3.2.1 - 1), ())).bind fun r6 =>
(if (!r6.1) = true then
  some (Step.ret (false, ())) else
(if inB (List.getD ((((((List.getD x.1.1 (Int.toNat s3.2.1) (0, (0, (ByteArray.empty, ([], ([], ())))))).2).2).2).2).1) (Int.toNat s5.2.1) 0) (List.length s5.1) then
(if inB (List.getD ((((((List.getD x.1.1 (Int.toNat s3.2.1) (0, (0, (ByteArray.empty, ([], ([], ())))))).2).2).2).2).1) (Int.toNat s5.2.1) 0) (List.length s5.1) then
  some (Step.more (List.set s5.1 (Int.toNat (List.getD ((((((List.getD x.1.1 (Int.toNat s3.2.1) (0, (0, (ByteArray.empty, ([], ([], ())))))).2).2).2).2).1) (Int.toNat s5.2.1) 0)) (IntKind.wrap .i64 ((List.getD s5.1 (Int.toNat (List.getD ((((((List.getD x.1.1 (Int.toNat s3.2.1) (0, (0, (ByteArray.empty, ([], ([], ())))))).2).2).2).2).1) (Int.toNat s5.2.1) 0)) 0) + 1)), IntKind.wrap .i64 (s5.2.1 + 1), ())) else none) else none)) else none) else
  some (Step.done (s5.1, ())))) N (s3.1, 0, ())).bind fun r7 => match r7 with
| .inl y8 => some (Step.more (y8.1, IntKind.wrap .i64 (s3.2.1 + 1), ()))
| .inr z9 => some (Step.ret (z9.1, ()))) else none) else
  some (Step.done (s3.1, ())))) N (List.replicate (Int.toNat (List.length x.1.1 : Int)) 0, 0, ())).bind fun r10 => match r10 with
| .inl y11 => (if cutB 0 (IntKind.wrap .i64 ((List.length x.1.1 : Int) - 1)) (List.length y11.1) then
(iter (A := Int × Unit) (B := Unit) (C := Bool × Unit) (fun s13 =>
(if (decide (s13.1 < (List.length (List.drop (Int.toNat 0) (List.take (Int.toNat (IntKind.wrap .i64 ((List.length x.1.1 : Int) - 1))) y11.1)) : Int))) = true then
(if inB s13.1 (List.length (List.drop (Int.toNat 0) (List.take (Int.toNat (IntKind.wrap .i64 ((List.length x.1.1 : Int) - 1))) y11.1))) then
(if (!decide ((List.getD (List.drop (Int.toNat 0) (List.take (Int.toNat (IntKind.wrap .i64 ((List.length x.1.1 : Int) - 1))) y11.1)) (Int.toNat s13.1) 0) = 1)) = true then
  some (Step.ret (false, ())) else
  some (Step.more (IntKind.wrap .i64 (s13.1 + 1), ()))) else none) else
  some (Step.done (())))) N (0, ())).bind fun r14 => match r14 with
| .inl y15 => (if inB (IntKind.wrap .i64 ((List.length x.1.1 : Int) - 1)) (List.length y11.1) then
  some (decide ((List.getD y11.1 (Int.toNat (IntKind.wrap .i64 ((List.length x.1.1 : Int) - 1))) 0) = 0), ()) else none)
| .inr z16 => some (z16.1, ()) else none)
| .inr z12 => some (z12.1, ()) else none))
def i_progsOk (N : Nat) (x : List (ByteArray × (List (Int × Int × ByteArray × List (ByteArray) × List (Int) × Unit) × Int × Unit) × Unit) × Unit) : Option (Bool × Unit) :=
(iter (A := Int × Unit) (B := Unit) (C := Bool × Unit) (fun s1 =>
(if (decide (s1.1 < (List.length x.1 : Int))) = true then
(if inB s1.1 (List.length x.1) then
(i_ProgOk N (((List.getD x.1 (Int.toNat s1.1) (ByteArray.empty, (([], (0, ())), ()))).2).1, ())).bind fun r2 =>
(if (!r2.1) = true then
  some (Step.ret (false, ())) else
  some (Step.more (IntKind.wrap .i64 (s1.1 + 1), ()))) else none) else
  some (Step.done (())))) N (0, ())).bind fun r3 => match r3 with
| .inl y4 => some (true, ())
| .inr z5 => some (z5.1, ())
def i_SrcOk (N : Nat) (x : (ByteArray × List (ByteArray) × List (ByteArray) × List (ByteArray × Int × Unit) × List (ByteArray × (List (Int × Int × ByteArray × List (ByteArray) × List (Int) × Unit) × Int × Unit) × Unit) × List (ByteArray × (List (Int × Int × ByteArray × List (ByteArray) × List (Int) × Unit) × Int × Unit) × Unit) × Unit) × Unit) : Option (Bool × Unit) :=
(i_IsName N (x.1.1, ())).bind fun r1 =>
(if (!r1.1) = true then
  some (false, ()) else (i_Src_isFew N (x.1, ())).bind fun r2 =>
(if (!r2.1) = true then
  some (false, ()) else (i_Src_isUnlike N (x.1, ())).bind fun r3 =>
(if (!r3.1) = true then
  some (false, ()) else (i_Src_isFit N (x.1, ())).bind fun r4 =>
(if (!r4.1) = true then
  some (false, ()) else
(i_allNames N (x.1.2.1, ())).bind fun r5 =>
((if (!r5.1) = true then
  some true else (i_allNames N (x.1.2.2.1, ())).bind fun r6 =>
  some (!r6.1))).bind fun b7 =>
(if b7 = true then
  some (false, ()) else (i_namesOfDefs N (x.1.2.2.2.2.1, ())).bind fun r8 =>
(i_allNames N (r8.1, ())).bind fun r9 =>
(if (!r9.1) = true then
  some (false, ()) else (i_namesOfDefs N (x.1.2.2.2.2.2.1, ())).bind fun r10 =>
(i_allNames N (r10.1, ())).bind fun r11 =>
(if (!r11.1) = true then
  some (false, ()) else
(i_typesOk N (x.1.2.2.2.1, ())).bind fun r12 =>
((if r12.1 = true then
(i_progsOk N (x.1.2.2.2.2.1, ())).bind fun r13 =>
  some r13.1 else some false)).bind fun b14 =>
((if b14 = true then
(i_progsOk N (x.1.2.2.2.2.2.1, ())).bind fun r15 =>
  some r15.1 else some false)).bind fun b16 =>
  some (b16, ()))))))))
def l_eqType (N : Nat) (x : (ByteArray × Int × Unit) × (ByteArray × Int × Unit) × Unit) : Option (Bool × Unit) :=
(if (!decide (x.1.1 = x.2.1.1)) = true then
  some (false, ()) else
(if (!decide (x.1.2.1 = x.2.1.2.1)) = true then
  some (false, ()) else
  some (true, ())))
def l_eqTypeS (N : Nat) (x : List (ByteArray × Int × Unit) × List (ByteArray × Int × Unit) × Unit) : Option (Bool × Unit) :=
(if (!decide ((List.length x.1 : Int) = (List.length x.2.1 : Int))) = true then
  some (false, ()) else
(iter (A := Int × Unit) (B := Unit) (C := Bool × Unit) (fun s1 =>
(if (decide (s1.1 < (List.length x.1 : Int))) = true then
(if inB s1.1 (List.length x.1) then
(if inB s1.1 (List.length x.2.1) then
(l_eqType N (List.getD x.1 (Int.toNat s1.1) (ByteArray.empty, (0, ())), List.getD x.2.1 (Int.toNat s1.1) (ByteArray.empty, (0, ())), ())).bind fun r2 =>
(if (!r2.1) = true then
  some (Step.ret (false, ())) else
  some (Step.more (IntKind.wrap .i64 (s1.1 + 1), ()))) else none) else none) else
  some (Step.done (())))) N (0, ())).bind fun r3 => match r3 with
| .inl y4 => some (true, ())
| .inr z5 => some (z5.1, ()))
def l_eqIntS (N : Nat) (x : List (Int) × List (Int) × Unit) : Option (Bool × Unit) :=
(if (!decide ((List.length x.1 : Int) = (List.length x.2.1 : Int))) = true then
  some (false, ()) else
(iter (A := Int × Unit) (B := Unit) (C := Bool × Unit) (fun s1 =>
(if (decide (s1.1 < (List.length x.1 : Int))) = true then
(if inB s1.1 (List.length x.1) then
(if inB s1.1 (List.length x.2.1) then
(if (!decide ((List.getD x.1 (Int.toNat s1.1) 0) = (List.getD x.2.1 (Int.toNat s1.1) 0))) = true then
  some (Step.ret (false, ())) else
  some (Step.more (IntKind.wrap .i64 (s1.1 + 1), ()))) else none) else none) else
  some (Step.done (())))) N (0, ())).bind fun r2 => match r2 with
| .inl y3 => some (true, ())
| .inr z4 => some (z4.1, ()))
def l_eqNode (N : Nat) (x : (Int × Int × ByteArray × List (ByteArray) × List (Int) × Unit) × (Int × Int × ByteArray × List (ByteArray) × List (Int) × Unit) × Unit) : Option (Bool × Unit) :=
(if (!decide (x.1.1 = x.2.1.1)) = true then
  some (false, ()) else
(if (!decide (x.1.2.1 = x.2.1.2.1)) = true then
  some (false, ()) else
(if (!decide (x.1.2.2.1 = x.2.1.2.2.1)) = true then
  some (false, ()) else
(l_eqStringS N (x.1.2.2.2.1, x.2.1.2.2.2.1, ())).bind fun r1 =>
(if (!r1.1) = true then
  some (false, ()) else
(l_eqIntS N (x.1.2.2.2.2.1, x.2.1.2.2.2.2.1, ())).bind fun r2 =>
(if (!r2.1) = true then
  some (false, ()) else
  some (true, ()))))))
def l_eqNodeS (N : Nat) (x : List (Int × Int × ByteArray × List (ByteArray) × List (Int) × Unit) × List (Int × Int × ByteArray × List (ByteArray) × List (Int) × Unit) × Unit) : Option (Bool × Unit) :=
(if (!decide ((List.length x.1 : Int) = (List.length x.2.1 : Int))) = true then
  some (false, ()) else
(iter (A := Int × Unit) (B := Unit) (C := Bool × Unit) (fun s1 =>
(if (decide (s1.1 < (List.length x.1 : Int))) = true then
(if inB s1.1 (List.length x.1) then
(if inB s1.1 (List.length x.2.1) then
(l_eqNode N (List.getD x.1 (Int.toNat s1.1) (0, (0, (ByteArray.empty, ([], ([], ()))))), List.getD x.2.1 (Int.toNat s1.1) (0, (0, (ByteArray.empty, ([], ([], ()))))), ())).bind fun r2 =>
(if (!r2.1) = true then
  some (Step.ret (false, ())) else
  some (Step.more (IntKind.wrap .i64 (s1.1 + 1), ()))) else none) else none) else
  some (Step.done (())))) N (0, ())).bind fun r3 => match r3 with
| .inl y4 => some (true, ())
| .inr z5 => some (z5.1, ()))
def l_eqProg (N : Nat) (x : (List (Int × Int × ByteArray × List (ByteArray) × List (Int) × Unit) × Int × Unit) × (List (Int × Int × ByteArray × List (ByteArray) × List (Int) × Unit) × Int × Unit) × Unit) : Option (Bool × Unit) :=
(l_eqNodeS N (x.1.1, x.2.1.1, ())).bind fun r1 =>
(if (!r1.1) = true then
  some (false, ()) else
(if (!decide (x.1.2.1 = x.2.1.2.1)) = true then
  some (false, ()) else
  some (true, ())))
def l_eqDef (N : Nat) (x : (ByteArray × (List (Int × Int × ByteArray × List (ByteArray) × List (Int) × Unit) × Int × Unit) × Unit) × (ByteArray × (List (Int × Int × ByteArray × List (ByteArray) × List (Int) × Unit) × Int × Unit) × Unit) × Unit) : Option (Bool × Unit) :=
(if (!decide (x.1.1 = x.2.1.1)) = true then
  some (false, ()) else
(l_eqProg N (x.1.2.1, x.2.1.2.1, ())).bind fun r1 =>
(if (!r1.1) = true then
  some (false, ()) else
  some (true, ())))
def l_eqDefS (N : Nat) (x : List (ByteArray × (List (Int × Int × ByteArray × List (ByteArray) × List (Int) × Unit) × Int × Unit) × Unit) × List (ByteArray × (List (Int × Int × ByteArray × List (ByteArray) × List (Int) × Unit) × Int × Unit) × Unit) × Unit) : Option (Bool × Unit) :=
(if (!decide ((List.length x.1 : Int) = (List.length x.2.1 : Int))) = true then
  some (false, ()) else
(iter (A := Int × Unit) (B := Unit) (C := Bool × Unit) (fun s1 =>
(if (decide (s1.1 < (List.length x.1 : Int))) = true then
(if inB s1.1 (List.length x.1) then
(if inB s1.1 (List.length x.2.1) then
(l_eqDef N (List.getD x.1 (Int.toNat s1.1) (ByteArray.empty, (([], (0, ())), ())), List.getD x.2.1 (Int.toNat s1.1) (ByteArray.empty, (([], (0, ())), ())), ())).bind fun r2 =>
(if (!r2.1) = true then
  some (Step.ret (false, ())) else
  some (Step.more (IntKind.wrap .i64 (s1.1 + 1), ()))) else none) else none) else
  some (Step.done (())))) N (0, ())).bind fun r3 => match r3 with
| .inl y4 => some (true, ())
| .inr z5 => some (z5.1, ()))
def l_eqSrc (N : Nat) (x : (ByteArray × List (ByteArray) × List (ByteArray) × List (ByteArray × Int × Unit) × List (ByteArray × (List (Int × Int × ByteArray × List (ByteArray) × List (Int) × Unit) × Int × Unit) × Unit) × List (ByteArray × (List (Int × Int × ByteArray × List (ByteArray) × List (Int) × Unit) × Int × Unit) × Unit) × Unit) × (ByteArray × List (ByteArray) × List (ByteArray) × List (ByteArray × Int × Unit) × List (ByteArray × (List (Int × Int × ByteArray × List (ByteArray) × List (Int) × Unit) × Int × Unit) × Unit) × List (ByteArray × (List (Int × Int × ByteArray × List (ByteArray) × List (Int) × Unit) × Int × Unit) × Unit) × Unit) × Unit) : Option (Bool × Unit) :=
(if (!decide (x.1.1 = x.2.1.1)) = true then
  some (false, ()) else
(l_eqStringS N (x.1.2.1, x.2.1.2.1, ())).bind fun r1 =>
(if (!r1.1) = true then
  some (false, ()) else
(l_eqStringS N (x.1.2.2.1, x.2.1.2.2.1, ())).bind fun r2 =>
(if (!r2.1) = true then
  some (false, ()) else
(l_eqTypeS N (x.1.2.2.2.1, x.2.1.2.2.2.1, ())).bind fun r3 =>
(if (!r3.1) = true then
  some (false, ()) else
(l_eqDefS N (x.1.2.2.2.2.1, x.2.1.2.2.2.2.1, ())).bind fun r4 =>
(if (!r4.1) = true then
  some (false, ()) else
(l_eqDefS N (x.1.2.2.2.2.2.1, x.2.1.2.2.2.2.2.1, ())).bind fun r5 =>
(if (!r5.1) = true then
  some (false, ()) else
  some (true, ())))))))
def l_markText (N : Nat) (x : Int × Unit) : Option (ByteArray × Unit) :=
(if (decide (x.1 ≤ 0)) = true then
  some (ByteArray.mk #[109, 48], ()) else
(iter (A := Int × ByteArray × Unit) (B := ByteArray × Unit) (C := ByteArray × Unit) (fun s1 =>
(if (decide (s1.1 > 0)) = true then
(if ByteArray.size (ofBytes [IntKind.wrap .u8 (IntKind.wrap .i64 (48 + (Int.tmod s1.1 10)))]) + ByteArray.size s1.2.1 < 4611686018427387904 then
  some (Step.more (IntKind.wrap .i64 (Int.tdiv s1.1 10), (ofBytes [IntKind.wrap .u8 (IntKind.wrap .i64 (48 + (Int.tmod s1.1 10)))]) ++ s1.2.1, ())) else none) else
  some (Step.done (s1.2.1, ())))) N (x.1, ByteArray.mk #[], ())).bind fun r2 => match r2 with
| .inl y3 => (if ByteArray.size (ByteArray.mk #[109]) + ByteArray.size y3.1 < 4611686018427387904 then
  some ((ByteArray.mk #[109]) ++ y3.1, ()) else none)
| .inr z4 => some (z4.1, ()))
def l_markStringS (N : Nat) (x : List (ByteArray) × Int × Unit) : Option (Int × List (ByteArray) × Unit) :=
(iter (A := List (ByteArray) × Int × Int × Unit) (B := List (ByteArray) × Int × Unit) (C := Int × List (ByteArray) × Unit) (fun s1 =>
(if (decide (s1.2.2.1 < (List.length s1.1 : Int))) = true then
(l_markText N (s1.2.1, ())).bind fun r2 =>
(if inB s1.2.2.1 (List.length s1.1) then
((some (List.set s1.1 (Int.toNat s1.2.2.1) r2.1) : Option (List (ByteArray)))).bind fun a3 =>
  some (Step.more (a3, IntKind.wrap .i64 (s1.2.1 + 1), IntKind.wrap .i64 (s1.2.2.1 + 1), ())) else none) else
  some (Step.done (s1.1, s1.2.1, ())))) N (x.1, x.2.1, 0, ())).bind fun r4 => match r4 with
| .inl y5 => some (y5.2.1, y5.1, ())
| .inr z6 => some (z6.1, z6.2.1, ())
def l_markTypeS (N : Nat) (x : List (ByteArray × Int × Unit) × Int × Unit) : Option (Int × List (ByteArray × Int × Unit) × Unit) :=
(iter (A := List (ByteArray × Int × Unit) × Int × Int × Unit) (B := List (ByteArray × Int × Unit) × Int × Unit) (C := Int × List (ByteArray × Int × Unit) × Unit) (fun s1 =>
(if (decide (s1.2.2.1 < (List.length s1.1 : Int))) = true then
(l_markText N (s1.2.1, ())).bind fun r2 =>
(if inB s1.2.2.1 (List.length s1.1) then
((some (List.set s1.1 (Int.toNat s1.2.2.1) (r2.1, (List.getD s1.1 (Int.toNat s1.2.2.1) (ByteArray.empty, (0, ()))).2)) : Option (List (ByteArray × Int × Unit)))).bind fun a3 =>
(if inB s1.2.2.1 (List.length a3) then
((some (List.set a3 (Int.toNat s1.2.2.1) ((List.getD a3 (Int.toNat s1.2.2.1) (ByteArray.empty, (0, ()))).1, (IntKind.wrap .i64 (s1.2.1 + 1), ((List.getD a3 (Int.toNat s1.2.2.1) (ByteArray.empty, (0, ()))).2).2))) : Option (List (ByteArray × Int × Unit)))).bind fun a4 =>
  some (Step.more (a4, IntKind.wrap .i64 ((IntKind.wrap .i64 (s1.2.1 + 1)) + 1), IntKind.wrap .i64 (s1.2.2.1 + 1), ())) else none) else none) else
  some (Step.done (s1.1, s1.2.1, ())))) N (x.1, x.2.1, 0, ())).bind fun r5 => match r5 with
| .inl y6 => some (y6.2.1, y6.1, ())
| .inr z7 => some (z7.1, z7.2.1, ())
def l_markIntS (N : Nat) (x : List (Int) × Int × Unit) : Option (Int × List (Int) × Unit) :=
(iter (A := List (Int) × Int × Int × Unit) (B := List (Int) × Int × Unit) (C := Int × List (Int) × Unit) (fun s1 =>
(if (decide (s1.2.2.1 < (List.length s1.1 : Int))) = true then
(if inB s1.2.2.1 (List.length s1.1) then
((some (List.set s1.1 (Int.toNat s1.2.2.1) s1.2.1) : Option (List (Int)))).bind fun a2 =>
  some (Step.more (a2, IntKind.wrap .i64 (s1.2.1 + 1), IntKind.wrap .i64 (s1.2.2.1 + 1), ())) else none) else
  some (Step.done (s1.1, s1.2.1, ())))) N (x.1, x.2.1, 0, ())).bind fun r3 => match r3 with
| .inl y4 => some (y4.2.1, y4.1, ())
| .inr z5 => some (z5.1, z5.2.1, ())
def l_markNodeS (N : Nat) (x : List (Int × Int × ByteArray × List (ByteArray) × List (Int) × Unit) × Int × Unit) : Option (Int × List (Int × Int × ByteArray × List (ByteArray) × List (Int) × Unit) × Unit) :=
(iter (A := List (Int × Int × ByteArray × List (ByteArray) × List (Int) × Unit) × Int × Int × Unit) (B := List (Int × Int × ByteArray × List (ByteArray) × List (Int) × Unit) × Int × Unit) (C := Int × List (Int × Int × ByteArray × List (ByteArray) × List (Int) × Unit) × Unit) (fun s1 =>
(if (decide (s1.2.2.1 < (List.length s1.1 : Int))) = true then
(if inB s1.2.2.1 (List.length s1.1) then
((some (List.set s1.1 (Int.toNat s1.2.2.1) (s1.2.1, (List.getD s1.1 (Int.toNat s1.2.2.1) (0, (0, (ByteArray.empty, ([], ([], ())))))).2)) : Option (List (Int × Int × ByteArray × List (ByteArray) × List (Int) × Unit)))).bind fun a2 =>
(if inB s1.2.2.1 (List.length a2) then
((some (List.set a2 (Int.toNat s1.2.2.1) ((List.getD a2 (Int.toNat s1.2.2.1) (0, (0, (ByteArray.empty, ([], ([], ())))))).1, (IntKind.wrap .i64 (s1.2.1 + 1), ((List.getD a2 (Int.toNat s1.2.2.1) (0, (0, (ByteArray.empty, ([], ([], ())))))).2).2))) : Option (List (Int × Int × ByteArray × List (ByteArray) × List (Int) × Unit)))).bind fun a3 =>
(l_markText N (IntKind.wrap .i64 ((IntKind.wrap .i64 (s1.2.1 + 1)) + 1), ())).bind fun r4 =>
(if inB s1.2.2.1 (List.length a3) then
((some (List.set a3 (Int.toNat s1.2.2.1) ((List.getD a3 (Int.toNat s1.2.2.1) (0, (0, (ByteArray.empty, ([], ([], ())))))).1, (((List.getD a3 (Int.toNat s1.2.2.1) (0, (0, (ByteArray.empty, ([], ([], ())))))).2).1, (r4.1, (((List.getD a3 (Int.toNat s1.2.2.1) (0, (0, (ByteArray.empty, ([], ([], ())))))).2).2).2)))) : Option (List (Int × Int × ByteArray × List (ByteArray) × List (Int) × Unit)))).bind fun a5 =>
(if inB s1.2.2.1 (List.length a5) then
(l_markStringS N (((((List.getD a5 (Int.toNat s1.2.2.1) (0, (0, (ByteArray.empty, ([], ([], ())))))).2).2).2).1, IntKind.wrap .i64 ((IntKind.wrap .i64 ((IntKind.wrap .i64 (s1.2.1 + 1)) + 1)) + 1), ())).bind fun r6 =>
((some (List.set a5 (Int.toNat s1.2.2.1) ((List.getD a5 (Int.toNat s1.2.2.1) (0, (0, (ByteArray.empty, ([], ([], ())))))).1, (((List.getD a5 (Int.toNat s1.2.2.1) (0, (0, (ByteArray.empty, ([], ([], ())))))).2).1, ((((List.getD a5 (Int.toNat s1.2.2.1) (0, (0, (ByteArray.empty, ([], ([], ())))))).2).2).1, (r6.2.1, ((((List.getD a5 (Int.toNat s1.2.2.1) (0, (0, (ByteArray.empty, ([], ([], ())))))).2).2).2).2))))) : Option (List (Int × Int × ByteArray × List (ByteArray) × List (Int) × Unit)))).bind fun a7 =>
(if inB s1.2.2.1 (List.length a7) then
(l_markIntS N ((((((List.getD a7 (Int.toNat s1.2.2.1) (0, (0, (ByteArray.empty, ([], ([], ())))))).2).2).2).2).1, r6.1, ())).bind fun r8 =>
((some (List.set a7 (Int.toNat s1.2.2.1) ((List.getD a7 (Int.toNat s1.2.2.1) (0, (0, (ByteArray.empty, ([], ([], ())))))).1, (((List.getD a7 (Int.toNat s1.2.2.1) (0, (0, (ByteArray.empty, ([], ([], ())))))).2).1, ((((List.getD a7 (Int.toNat s1.2.2.1) (0, (0, (ByteArray.empty, ([], ([], ())))))).2).2).1, (((((List.getD a7 (Int.toNat s1.2.2.1) (0, (0, (ByteArray.empty, ([], ([], ())))))).2).2).2).1, (r8.2.1, (((((List.getD a7 (Int.toNat s1.2.2.1) (0, (0, (ByteArray.empty, ([], ([], ())))))).2).2).2).2).2)))))) : Option (List (Int × Int × ByteArray × List (ByteArray) × List (Int) × Unit)))).bind fun a9 =>
  some (Step.more (a9, r8.1, IntKind.wrap .i64 (s1.2.2.1 + 1), ())) else none) else none) else none) else none) else none) else
  some (Step.done (s1.1, s1.2.1, ())))) N (x.1, x.2.1, 0, ())).bind fun r10 => match r10 with
| .inl y11 => some (y11.2.1, y11.1, ())
| .inr z12 => some (z12.1, z12.2.1, ())
def l_markDefS (N : Nat) (x : List (ByteArray × (List (Int × Int × ByteArray × List (ByteArray) × List (Int) × Unit) × Int × Unit) × Unit) × Int × Unit) : Option (Int × List (ByteArray × (List (Int × Int × ByteArray × List (ByteArray) × List (Int) × Unit) × Int × Unit) × Unit) × Unit) :=
(iter (A := List (ByteArray × (List (Int × Int × ByteArray × List (ByteArray) × List (Int) × Unit) × Int × Unit) × Unit) × Int × Int × Unit) (B := List (ByteArray × (List (Int × Int × ByteArray × List (ByteArray) × List (Int) × Unit) × Int × Unit) × Unit) × Int × Unit) (C := Int × List (ByteArray × (List (Int × Int × ByteArray × List (ByteArray) × List (Int) × Unit) × Int × Unit) × Unit) × Unit) (fun s1 =>
(if (decide (s1.2.2.1 < (List.length s1.1 : Int))) = true then
(l_markText N (s1.2.1, ())).bind fun r2 =>
(if inB s1.2.2.1 (List.length s1.1) then
((some (List.set s1.1 (Int.toNat s1.2.2.1) (r2.1, (List.getD s1.1 (Int.toNat s1.2.2.1) (ByteArray.empty, (([], (0, ())), ()))).2)) : Option (List (ByteArray × (List (Int × Int × ByteArray × List (ByteArray) × List (Int) × Unit) × Int × Unit) × Unit)))).bind fun a3 =>
(if inB s1.2.2.1 (List.length a3) then
(l_markNodeS N ((((List.getD a3 (Int.toNat s1.2.2.1) (ByteArray.empty, (([], (0, ())), ()))).2).1).1, IntKind.wrap .i64 (s1.2.1 + 1), ())).bind fun r4 =>
((some (List.set a3 (Int.toNat s1.2.2.1) ((List.getD a3 (Int.toNat s1.2.2.1) (ByteArray.empty, (([], (0, ())), ()))).1, ((r4.2.1, (((List.getD a3 (Int.toNat s1.2.2.1) (ByteArray.empty, (([], (0, ())), ()))).2).1).2), ((List.getD a3 (Int.toNat s1.2.2.1) (ByteArray.empty, (([], (0, ())), ()))).2).2))) : Option (List (ByteArray × (List (Int × Int × ByteArray × List (ByteArray) × List (Int) × Unit) × Int × Unit) × Unit)))).bind fun a5 =>
(if inB s1.2.2.1 (List.length a5) then
((some (List.set a5 (Int.toNat s1.2.2.1) ((List.getD a5 (Int.toNat s1.2.2.1) (ByteArray.empty, (([], (0, ())), ()))).1, (((((List.getD a5 (Int.toNat s1.2.2.1) (ByteArray.empty, (([], (0, ())), ()))).2).1).1, (r4.1, ((((List.getD a5 (Int.toNat s1.2.2.1) (ByteArray.empty, (([], (0, ())), ()))).2).1).2).2)), ((List.getD a5 (Int.toNat s1.2.2.1) (ByteArray.empty, (([], (0, ())), ()))).2).2))) : Option (List (ByteArray × (List (Int × Int × ByteArray × List (ByteArray) × List (Int) × Unit) × Int × Unit) × Unit)))).bind fun a6 =>
  some (Step.more (a6, IntKind.wrap .i64 (r4.1 + 1), IntKind.wrap .i64 (s1.2.2.1 + 1), ())) else none) else none) else none) else
  some (Step.done (s1.1, s1.2.1, ())))) N (x.1, x.2.1, 0, ())).bind fun r7 => match r7 with
| .inl y8 => some (y8.2.1, y8.1, ())
| .inr z9 => some (z9.1, z9.2.1, ())
def l_heldStringS (N : Nat) (x : List (ByteArray) × Int × Unit) : Option (Int × Unit) :=
(iter (A := Int × Int × Unit) (B := Int × Unit) (C := Int × Unit) (fun s1 =>
(if (decide (s1.2.1 < (List.length x.1 : Int))) = true then
(if inB s1.2.1 (List.length x.1) then
(l_markText N (s1.1, ())).bind fun r2 =>
(if (!decide ((List.getD x.1 (Int.toNat s1.2.1) ByteArray.empty) = r2.1)) = true then
  some (Step.ret ((-1), ())) else
  some (Step.more (IntKind.wrap .i64 (s1.1 + 1), IntKind.wrap .i64 (s1.2.1 + 1), ()))) else none) else
  some (Step.done (s1.1, ())))) N (x.2.1, 0, ())).bind fun r3 => match r3 with
| .inl y4 => some (y4.1, ())
| .inr z5 => some (z5.1, ())
end Go.Rf

namespace Go.Rf
def sortL (xs : List ByteArray) : List ByteArray := ((xs.map fun s => s.data.toList).mergeSort fun x y => decide (x ≤ y)).map fun l => ⟨l.toArray⟩
def g_slices_Sort_string_string_ (N : Nat) (x : List ByteArray × Unit) : Option (List ByteArray × Unit) := if List.length x.1 ≤ 4294967296 then some (sortL x.1, ()) else none
def l_szSrcS (N : Nat) (x : List (ByteArray × List (ByteArray) × List (ByteArray) × List (ByteArray × Int × Unit) × List (ByteArray × (List (Int × Int × ByteArray × List (ByteArray) × List (Int) × Unit) × Int × Unit) × Unit) × List (ByteArray × (List (Int × Int × ByteArray × List (ByteArray) × List (Int) × Unit) × Int × Unit) × Unit) × Unit) × Int × Unit) : Option (Int × Unit) :=
(if (decide ((IntKind.wrap .i64 (x.2.1 - (List.length x.1 : Int))) < 0)) = true then
  some ((-1), ()) else
(iter (A := Int × Int × Unit) (B := Int × Unit) (C := Int × Unit) (fun s1 =>
(if (decide (s1.2.1 < (List.length x.1 : Int))) = true then
(if inB s1.2.1 (List.length x.1) then
(l_szSrc N (List.getD x.1 (Int.toNat s1.2.1) (ByteArray.empty, ([], ([], ([], ([], ([], ())))))), s1.1, ())).bind fun r2 =>
(if (decide (r2.1 < 0)) = true then
  some (Step.ret ((-1), ())) else
  some (Step.more (r2.1, IntKind.wrap .i64 (s1.2.1 + 1), ()))) else none) else
  some (Step.done (s1.1, ())))) N (IntKind.wrap .i64 (x.2.1 - (List.length x.1 : Int)), 0, ())).bind fun r3 => match r3 with
| .inl y4 => some (y4.1, ())
| .inr z5 => some (z5.1, ()))
def s_l12At (N : Nat) (x : List (ByteArray × List (ByteArray) × List (ByteArray) × List (ByteArray × Int × Unit) × List (ByteArray × (List (Int × Int × ByteArray × List (ByteArray) × List (Int) × Unit) × Int × Unit) × Unit) × List (ByteArray × (List (Int × Int × ByteArray × List (ByteArray) × List (Int) × Unit) × Int × Unit) × Unit) × Unit) × ByteArray × Unit) : Option (Int × Unit) :=
(iter (A := Int × Unit) (B := Unit) (C := Int × Unit) (fun s1 =>
(if (decide (s1.1 < (List.length x.1 : Int))) = true then
(if inB s1.1 (List.length x.1) then
(if (decide (((List.getD x.1 (Int.toNat s1.1) (ByteArray.empty, ([], ([], ([], ([], ([], ()))))))).1) = x.2.1)) = true then
  some (Step.ret (s1.1, ())) else
  some (Step.more (IntKind.wrap .i64 (s1.1 + 1), ()))) else none) else
  some (Step.done (())))) N (0, ())).bind fun r2 => match r2 with
| .inl y3 => some ((-1), ())
| .inr z4 => some (z4.1, ())
def s_l12Ok (N : Nat) (x : List (ByteArray × List (ByteArray) × List (ByteArray) × List (ByteArray × Int × Unit) × List (ByteArray × (List (Int × Int × ByteArray × List (ByteArray) × List (Int) × Unit) × Int × Unit) × Unit) × List (ByteArray × (List (Int × Int × ByteArray × List (ByteArray) × List (Int) × Unit) × Int × Unit) × Unit) × Unit) × Unit) : Option (Bool × Unit) :=
(iter (A := Int × Unit) (B := Unit) (C := Bool × Unit) (fun s1 =>
(if (decide (s1.1 < (List.length x.1 : Int))) = true then
(if inB s1.1 (List.length x.1) then
(s_SrcOk N (List.getD x.1 (Int.toNat s1.1) (ByteArray.empty, ([], ([], ([], ([], ([], ())))))), ())).bind fun r2 =>
(if (!r2.1) = true then
  some (Step.ret (false, ())) else (if cutB 0 s1.1 (List.length x.1) then
(if inB s1.1 (List.length x.1) then
(s_l12At N (List.drop (Int.toNat 0) (List.take (Int.toNat s1.1) x.1), (List.getD x.1 (Int.toNat s1.1) (ByteArray.empty, ([], ([], ([], ([], ([], ()))))))).1, ())).bind fun r3 =>
(if (decide (r3.1 ≥ 0)) = true then
  some (Step.ret (false, ())) else
(iter (A := Int × Unit) (B := Unit) (C := Bool × Unit) (fun s4 =>
(if inB s1.1 (List.length x.1) then
(if (decide (s4.1 < (List.length (((List.getD x.1 (Int.toNat s1.1) (ByteArray.empty, ([], ([], ([], ([], ([], ()))))))).2).1) : Int))) = true then
(if inB s1.1 (List.length x.1) then
(if inB s4.1 (List.length (((List.getD x.1 (Int.toNat s1.1) (ByteArray.empty, ([], ([], ([], ([], ([], ()))))))).2).1)) then
(s_l12At N (x.1, List.getD (((List.getD x.1 (Int.toNat s1.1) (ByteArray.empty, ([], ([], ([], ([], ([], ()))))))).2).1) (Int.toNat s4.1) ByteArray.empty, ())).bind fun r5 =>
(if (decide (r5.1 < 0)) = true then
  some (Step.ret (false, ())) else
  some (Step.more (IntKind.wrap .i64 (s4.1 + 1), ()))) else none) else none) else
  some (Step.done (()))) else none)) N (0, ())).bind fun r6 => match r6 with
| .inl y7 => some (Step.more (IntKind.wrap .i64 (s1.1 + 1), ()))
| .inr z8 => some (Step.ret (z8.1, ()))) else none) else none)) else none) else
  some (Step.done (())))) N (0, ())).bind fun r9 => match r9 with
| .inl y10 => some (true, ())
| .inr z11 => some (z11.1, ())
def s_l12All (N : Nat) (x : List (ByteArray) × List (ByteArray) × Unit) : Option (Bool × Unit) :=
(iter (A := Int × Unit) (B := Unit) (C := Bool × Unit) (fun s1 =>
(if (decide (s1.1 < (List.length x.1 : Int))) = true then
(if inB s1.1 (List.length x.1) then
(s_l3In N (x.2.1, List.getD x.1 (Int.toNat s1.1) ByteArray.empty, ())).bind fun r2 =>
(if (!r2.1) = true then
  some (Step.ret (false, ())) else
  some (Step.more (IntKind.wrap .i64 (s1.1 + 1), ()))) else none) else
  some (Step.done (())))) N (0, ())).bind fun r3 => match r3 with
| .inl y4 => some (true, ())
| .inr z5 => some (z5.1, ())
def s_l12Order (N : Nat) (x : List (ByteArray × List (ByteArray) × List (ByteArray) × List (ByteArray × Int × Unit) × List (ByteArray × (List (Int × Int × ByteArray × List (ByteArray) × List (Int) × Unit) × Int × Unit) × Unit) × List (ByteArray × (List (Int × Int × ByteArray × List (ByteArray) × List (Int) × Unit) × Int × Unit) × Unit) × Unit) × Unit) : Option (List (ByteArray) × Bool × Unit) :=
(iter (A := List (ByteArray) × Unit) (B := List (ByteArray) × Unit) (C := List (ByteArray) × Bool × Unit) (fun s1 =>
(if (decide ((List.length s1.1 : Int) < (List.length x.1 : Int))) = true then
(iter (A := List (ByteArray) × ByteArray × Int × Unit) (B := List (ByteArray) × ByteArray × Unit) (C := List (ByteArray) × Bool × Unit) (fun s2 =>
(if (decide (s2.2.2.1 < (List.length x.1 : Int))) = true then
(if inB s2.2.2.1 (List.length x.1) then
(s_l3In N (s2.1, (List.getD x.1 (Int.toNat s2.2.2.1) (ByteArray.empty, ([], ([], ([], ([], ([], ()))))))).1, ())).bind fun r3 =>
((if (!r3.1) = true then
(if inB s2.2.2.1 (List.length x.1) then
(s_l12All N (((List.getD x.1 (Int.toNat s2.2.2.1) (ByteArray.empty, ([], ([], ([], ([], ([], ()))))))).2).1, s2.1, ())).bind fun r4 =>
  some r4.1 else none) else some false)).bind fun b5 =>
((if b5 = true then
((if (decide (s2.2.1 = (ByteArray.mk #[]))) = true then
  some true else some (Op.bytesLess (ByteArray.toList ((List.getD x.1 (Int.toNat s2.2.2.1) (ByteArray.empty, ([], ([], ([], ([], ([], ()))))))).1)) (ByteArray.toList s2.2.1)))).bind fun b6 =>
  some b6 else some false)).bind fun b7 =>
((if b7 = true then
  some (s2.1, (List.getD x.1 (Int.toNat s2.2.2.1) (ByteArray.empty, ([], ([], ([], ([], ([], ()))))))).1, ()) else
  some (s2.1, s2.2.1, ())) : Option (List (ByteArray) × ByteArray × Unit)).bind fun j8 =>
  some (Step.more (j8.1, j8.2.1, IntKind.wrap .i64 (s2.2.2.1 + 1), ())) else none) else
  some (Step.done (s2.1, s2.2.1, ())))) N (s1.1, ByteArray.mk #[], 0, ())).bind fun r9 => match r9 with
| .inl y10 => (if (decide (y10.2.1 = (ByteArray.mk #[]))) = true then
  some (Step.ret ([], false, ())) else
(if List.length y10.1 + List.length ([y10.2.1] : List (ByteArray)) ≤ 4294967296 then
  some (Step.more (y10.1 ++ ([y10.2.1] : List (ByteArray)), ())) else none))
| .inr z11 => some (Step.ret (z11.1, z11.2.1, ())) else
  some (Step.done (s1.1, ())))) N ([], ())).bind fun r12 => match r12 with
| .inl y13 => some (y13.1, true, ())
| .inr z14 => some (z14.1, z14.2.1, ())
def s_Order (N : Nat) (x : List (ByteArray × List (ByteArray) × List (ByteArray) × List (ByteArray × Int × Unit) × List (ByteArray × (List (Int × Int × ByteArray × List (ByteArray) × List (Int) × Unit) × Int × Unit) × Unit) × List (ByteArray × (List (Int × Int × ByteArray × List (ByteArray) × List (Int) × Unit) × Int × Unit) × Unit) × Unit) × Unit) : Option (List (ByteArray) × Bool × Unit) :=
(s_l12Ok N (x.1, ())).bind fun r1 =>
(if (!r1.1) = true then
  some ([], false, ()) else
(s_l12Order N (x.1, ())).bind fun r2 =>
  some (r2.1, r2.2.1, ()))
def s_l12Put (N : Nat) (x : List (ByteArray) × ByteArray × Unit) : Option (List (ByteArray) × Unit) :=
(s_l3In N (x.1, x.2.1, ())).bind fun r1 =>
(if r1.1 = true then
  some (x.1, ()) else
(iter (A := List (ByteArray) × List (ByteArray) × Bool × Int × Unit) (B := List (ByteArray) × Bool × Unit) (C := List (ByteArray) × Unit) (fun s2 =>
(if (decide (s2.2.2.2.1 < (List.length s2.1 : Int))) = true then
((if (!s2.2.2.1) = true then
(if inB s2.2.2.2.1 (List.length s2.1) then
  some (Op.bytesLess (ByteArray.toList x.2.1) (ByteArray.toList (List.getD s2.1 (Int.toNat s2.2.2.2.1) ByteArray.empty))) else none) else some false)).bind fun b3 =>
((if b3 = true then
(if List.length s2.2.1 + List.length ([x.2.1] : List (ByteArray)) ≤ 4294967296 then
  some (s2.1, s2.2.1 ++ ([x.2.1] : List (ByteArray)), true, ()) else none) else
  some (s2.1, s2.2.1, s2.2.2.1, ())) : Option (List (ByteArray) × List (ByteArray) × Bool × Unit)).bind fun j4 =>
(if inB s2.2.2.2.1 (List.length j4.1) then
(if List.length j4.2.1 + List.length ([List.getD j4.1 (Int.toNat s2.2.2.2.1) ByteArray.empty] : List (ByteArray)) ≤ 4294967296 then
  some (Step.more (j4.1, j4.2.1 ++ ([List.getD j4.1 (Int.toNat s2.2.2.2.1) ByteArray.empty] : List (ByteArray)), j4.2.2.1, IntKind.wrap .i64 (s2.2.2.2.1 + 1), ())) else none) else none) else
  some (Step.done (s2.2.1, s2.2.2.1, ())))) N (x.1, [], false, 0, ())).bind fun r5 => match r5 with
| .inl y6 => ((if (!y6.2.1) = true then
(if List.length y6.1 + List.length ([x.2.1] : List (ByteArray)) ≤ 4294967296 then
  some (y6.1 ++ ([x.2.1] : List (ByteArray)), ()) else none) else
  some (y6.1, ())) : Option (List (ByteArray) × Unit)).bind fun j8 =>
  some (j8.1, ())
| .inr z7 => some (z7.1, ()))
def s_Levels (N : Nat) (x : List (ByteArray × List (ByteArray) × List (ByteArray) × List (ByteArray × Int × Unit) × List (ByteArray × (List (Int × Int × ByteArray × List (ByteArray) × List (Int) × Unit) × Int × Unit) × Unit) × List (ByteArray × (List (Int × Int × ByteArray × List (ByteArray) × List (Int) × Unit) × Int × Unit) × Unit) × Unit) × Unit) : Option (List (List (ByteArray)) × Unit) :=
(s_Order N (x.1, ())).bind fun r1 =>
(iter (A := List (List (ByteArray)) × List (ByteArray) × List (ByteArray) × Unit) (B := List (List (ByteArray)) × Unit) (C := List (List (ByteArray)) × Unit) (fun s2 =>
((if r1.2.1 = true then
  some (decide ((List.length s2.2.2.1 : Int) < (List.length s2.2.1 : Int))) else some false)).bind fun b3 =>
(if b3 = true then
(iter (A := List (List (ByteArray)) × List (ByteArray) × List (ByteArray) × List (ByteArray) × Int × Unit) (B := List (List (ByteArray)) × List (ByteArray) × List (ByteArray) × List (ByteArray) × Unit) (C := List (List (ByteArray)) × Unit) (fun s4 =>
(if (decide (s4.2.2.2.2.1 < (List.length s4.2.1 : Int))) = true then
(if inB s4.2.2.2.2.1 (List.length s4.2.1) then
(s_l3In N (s4.2.2.1, List.getD s4.2.1 (Int.toNat s4.2.2.2.2.1) ByteArray.empty, ())).bind fun r5 =>
((if (!r5.1) = true then
(if inB s4.2.2.2.2.1 (List.length s4.2.1) then
(s_l12At N (x.1, List.getD s4.2.1 (Int.toNat s4.2.2.2.2.1) ByteArray.empty, ())).bind fun r6 =>
(if inB r6.1 (List.length x.1) then
(s_l12All N (((List.getD x.1 (Int.toNat r6.1) (ByteArray.empty, ([], ([], ([], ([], ([], ()))))))).2).1, s4.2.2.1, ())).bind fun r7 =>
  some r7.1 else none) else none) else some false)).bind fun b8 =>
((if b8 = true then
(if inB s4.2.2.2.2.1 (List.length s4.2.1) then
(s_l12Put N (s4.2.2.2.1, List.getD s4.2.1 (Int.toNat s4.2.2.2.2.1) ByteArray.empty, ())).bind fun r11 =>
  some (s4.1, s4.2.1, s4.2.2.1, r11.1, ()) else none) else
  some (s4.1, s4.2.1, s4.2.2.1, s4.2.2.2.1, ())) : Option (List (List (ByteArray)) × List (ByteArray) × List (ByteArray) × List (ByteArray) × Unit)).bind fun j10 =>
  some (Step.more (j10.1, j10.2.1, j10.2.2.1, j10.2.2.2.1, IntKind.wrap .i64 (s4.2.2.2.2.1 + 1), ())) else none) else
  some (Step.done (s4.1, s4.2.1, s4.2.2.1, s4.2.2.2.1, ())))) N (s2.1, s2.2.1, s2.2.2.1, [], 0, ())).bind fun r12 => match r12 with
| .inl y13 => (if List.length y13.1 + List.length ([y13.2.2.2.1] : List (List (ByteArray))) ≤ 4294967296 then
(if List.length y13.2.2.1 + List.length (List.getD (y13.1 ++ ([y13.2.2.2.1] : List (List (ByteArray)))) (List.length y13.1) []) ≤ 4294967296 then
  some (Step.more (y13.1 ++ ([y13.2.2.2.1] : List (List (ByteArray))), y13.2.1, y13.2.2.1 ++ (List.getD (y13.1 ++ ([y13.2.2.2.1] : List (List (ByteArray)))) (List.length y13.1) []), ())) else none) else none)
| .inr z14 => some (Step.ret (z14.1, ())) else
  some (Step.done (s2.1, ())))) N ([], r1.1, [], ())).bind fun r15 => match r15 with
| .inl y16 => some (y16.1, ())
| .inr z17 => some (z17.1, ())
def l_toSrcS (N : Nat) (x : List (ByteArray × List (ByteArray) × List (ByteArray) × List (ByteArray × Int × Unit) × List (ByteArray × (List (Int × Int × ByteArray × List (ByteArray) × List (Int) × Unit) × Int × Unit) × Unit) × List (ByteArray × (List (Int × Int × ByteArray × List (ByteArray) × List (Int) × Unit) × Int × Unit) × Unit) × Unit) × Unit) : Option (List (ByteArray × List (ByteArray) × List (ByteArray) × List (ByteArray × Int × Unit) × List (ByteArray × (List (Int × Int × ByteArray × List (ByteArray) × List (Int) × Unit) × Int × Unit) × Unit) × List (ByteArray × (List (Int × Int × ByteArray × List (ByteArray) × List (Int) × Unit) × Int × Unit) × Unit) × Unit) × Unit) :=
(if mkB (List.length x.1 : Int) (List.length x.1 : Int) then
(iter (A := List (ByteArray × List (ByteArray) × List (ByteArray) × List (ByteArray × Int × Unit) × List (ByteArray × (List (Int × Int × ByteArray × List (ByteArray) × List (Int) × Unit) × Int × Unit) × Unit) × List (ByteArray × (List (Int × Int × ByteArray × List (ByteArray) × List (Int) × Unit) × Int × Unit) × Unit) × Unit) × Int × Unit) (B := List (ByteArray × List (ByteArray) × List (ByteArray) × List (ByteArray × Int × Unit) × List (ByteArray × (List (Int × Int × ByteArray × List (ByteArray) × List (Int) × Unit) × Int × Unit) × Unit) × List (ByteArray × (List (Int × Int × ByteArray × List (ByteArray) × List (Int) × Unit) × Int × Unit) × Unit) × Unit) × Unit) (C := List (ByteArray × List (ByteArray) × List (ByteArray) × List (ByteArray × Int × Unit) × List (ByteArray × (List (Int × Int × ByteArray × List (ByteArray) × List (Int) × Unit) × Int × Unit) × Unit) × List (ByteArray × (List (Int × Int × ByteArray × List (ByteArray) × List (Int) × Unit) × Int × Unit) × Unit) × Unit) × Unit) (fun s1 =>
(if (decide (s1.2.1 < (List.length x.1 : Int))) = true then
(if inB s1.2.1 (List.length x.1) then
(l_toSrc N (List.getD x.1 (Int.toNat s1.2.1) (ByteArray.empty, ([], ([], ([], ([], ([], ())))))), ())).bind fun r2 =>
(if inB s1.2.1 (List.length s1.1) then
  some (Step.more (List.set s1.1 (Int.toNat s1.2.1) r2.1, IntKind.wrap .i64 (s1.2.1 + 1), ())) else none) else none) else
  some (Step.done (s1.1, ())))) N (List.replicate (Int.toNat (List.length x.1 : Int)) (ByteArray.empty, ([], ([], ([], ([], ([], ())))))), 0, ())).bind fun r3 => match r3 with
| .inl y4 => some (y4.1, ())
| .inr z5 => some (z5.1, ()) else none)
def i_namesOfSrcs (N : Nat) (x : List (ByteArray × List (ByteArray) × List (ByteArray) × List (ByteArray × Int × Unit) × List (ByteArray × (List (Int × Int × ByteArray × List (ByteArray) × List (Int) × Unit) × Int × Unit) × Unit) × List (ByteArray × (List (Int × Int × ByteArray × List (ByteArray) × List (Int) × Unit) × Int × Unit) × Unit) × Unit) × Unit) : Option (List (ByteArray) × Unit) :=
(iter (A := List (ByteArray) × Int × Unit) (B := List (ByteArray) × Unit) (C := List (ByteArray) × Unit) (fun s1 =>
(if (decide (s1.2.1 < (List.length x.1 : Int))) = true then
(if inB s1.2.1 (List.length x.1) then
(if List.length s1.1 + List.length ([(List.getD x.1 (Int.toNat s1.2.1) (ByteArray.empty, ([], ([], ([], ([], ([], ()))))))).1] : List (ByteArray)) ≤ 4294967296 then
  some (Step.more (s1.1 ++ ([(List.getD x.1 (Int.toNat s1.2.1) (ByteArray.empty, ([], ([], ([], ([], ([], ()))))))).1] : List (ByteArray)), IntKind.wrap .i64 (s1.2.1 + 1), ())) else none) else none) else
  some (Step.done (s1.1, ())))) N ([], 0, ())).bind fun r2 => match r2 with
| .inl y3 => some (y3.1, ())
| .inr z4 => some (z4.1, ())
def i_order (N : Nat) (x : List (ByteArray × List (ByteArray) × List (ByteArray) × List (ByteArray × Int × Unit) × List (ByteArray × (List (Int × Int × ByteArray × List (ByteArray) × List (Int) × Unit) × Int × Unit) × Unit) × List (ByteArray × (List (Int × Int × ByteArray × List (ByteArray) × List (Int) × Unit) × Int × Unit) × Unit) × Unit) × Unit) : Option (List (ByteArray) × Bool × Unit) :=
(iter (A := List (ByteArray) × Unit) (B := List (ByteArray) × Unit) (C := List (ByteArray) × Bool × Unit) (fun s1 =>
(if (decide ((List.length s1.1 : Int) < (List.length x.1 : Int))) = true then
(iter (A := List (ByteArray) × Int × Int × Unit) (B := List (ByteArray) × Int × Unit) (C := List (ByteArray) × Bool × Unit) (fun s2 =>
(if (decide (s2.2.2.1 < (List.length x.1 : Int))) = true then
(if inB s2.2.2.1 (List.length x.1) then
(g_slices_Contains_string_string_ N (s2.1, (List.getD x.1 (Int.toNat s2.2.2.1) (ByteArray.empty, ([], ([], ([], ([], ([], ()))))))).1, ())).bind fun r3 =>
(if (!r3.1) = true then
(i_areIn N (((List.getD x.1 (Int.toNat s2.2.2.1) (ByteArray.empty, ([], ([], ([], ([], ([], ()))))))).2).1, s2.1, ())).bind fun r4 =>
(if r4.1 = true then
(if (decide (s2.2.1 < 0)) = true then
  some (Step.more (s2.1, s2.2.2.1, IntKind.wrap .i64 (s2.2.2.1 + 1), ())) else (if inB s2.2.1 (List.length x.1) then
((if (Op.bytesLess (ByteArray.toList ((List.getD x.1 (Int.toNat s2.2.2.1) (ByteArray.empty, ([], ([], ([], ([], ([], ()))))))).1)) (ByteArray.toList ((List.getD x.1 (Int.toNat s2.2.1) (ByteArray.empty, ([], ([], ([], ([], ([], ()))))))).1))) = true then
  some (s2.1, s2.2.2.1, ()) else
  some (s2.1, s2.2.1, ())) : Option (List (ByteArray) × Int × Unit)).bind fun j5 =>
  some (Step.more (j5.1, j5.2.1, IntKind.wrap .i64 (s2.2.2.1 + 1), ())) else none)) else some (Step.more (s2.1, s2.2.1, IntKind.wrap .i64 (s2.2.2.1 + 1), ()))) else some (Step.more (s2.1, s2.2.1, IntKind.wrap .i64 (s2.2.2.1 + 1), ()))) else none) else
  some (Step.done (s2.1, s2.2.1, ())))) N (s1.1, (-1), 0, ())).bind fun r6 => match r6 with
| .inl y7 => (if (decide (y7.2.1 < 0)) = true then
  some (Step.ret ([], false, ())) else
(if inB y7.2.1 (List.length x.1) then
(if List.length y7.1 + List.length ([(List.getD x.1 (Int.toNat y7.2.1) (ByteArray.empty, ([], ([], ([], ([], ([], ()))))))).1] : List (ByteArray)) ≤ 4294967296 then
  some (Step.more (y7.1 ++ ([(List.getD x.1 (Int.toNat y7.2.1) (ByteArray.empty, ([], ([], ([], ([], ([], ()))))))).1] : List (ByteArray)), ())) else none) else none))
| .inr z8 => some (Step.ret (z8.1, z8.2.1, ())) else
  some (Step.done (s1.1, ())))) N ([], ())).bind fun r9 => match r9 with
| .inl y10 => some (y10.1, true, ())
| .inr z11 => some (z11.1, z11.2.1, ())
def i_Order (N : Nat) (x : List (ByteArray × List (ByteArray) × List (ByteArray) × List (ByteArray × Int × Unit) × List (ByteArray × (List (Int × Int × ByteArray × List (ByteArray) × List (Int) × Unit) × Int × Unit) × Unit) × List (ByteArray × (List (Int × Int × ByteArray × List (ByteArray) × List (Int) × Unit) × Int × Unit) × Unit) × Unit) × Unit) : Option (List (ByteArray) × Bool × Unit) :=
(i_namesOfSrcs N (x.1, ())).bind fun r1 =>
(iter (A := List (ByteArray) × Int × Unit) (B := List (ByteArray) × Unit) (C := List (ByteArray) × Bool × Unit) (fun s2 =>
(if (decide (s2.2.1 < (List.length x.1 : Int))) = true then
(if inB s2.2.1 (List.length x.1) then
(i_SrcOk N (List.getD x.1 (Int.toNat s2.2.1) (ByteArray.empty, ([], ([], ([], ([], ([], ())))))), ())).bind fun r3 =>
((if (!r3.1) = true then
  some true else (i_areIn N (((List.getD x.1 (Int.toNat s2.2.1) (ByteArray.empty, ([], ([], ([], ([], ([], ()))))))).2).1, s2.1, ())).bind fun r4 =>
  some (!r4.1))).bind fun b5 =>
(if b5 = true then
  some (Step.ret ([], false, ())) else
  some (Step.more (s2.1, IntKind.wrap .i64 (s2.2.1 + 1), ()))) else none) else
  some (Step.done (s2.1, ())))) N (r1.1, 0, ())).bind fun r6 => match r6 with
| .inl y7 => (i_isOnce N (y7.1, ())).bind fun r9 =>
(if (!r9.1) = true then
  some ([], false, ()) else
(i_order N (x.1, ())).bind fun r10 =>
  some (r10.1, r10.2.1, ()))
| .inr z8 => some (z8.1, z8.2.1, ())
def i_Levels (N : Nat) (x : List (ByteArray × List (ByteArray) × List (ByteArray) × List (ByteArray × Int × Unit) × List (ByteArray × (List (Int × Int × ByteArray × List (ByteArray) × List (Int) × Unit) × Int × Unit) × Unit) × List (ByteArray × (List (Int × Int × ByteArray × List (ByteArray) × List (Int) × Unit) × Int × Unit) × Unit) × Unit) × Unit) : Option (List (List (ByteArray)) × Unit) :=
(i_Order N (x.1, ())).bind fun r1 =>
(if (!r1.2.1) = true then
  some ([], ()) else
(iter (A := List (List (ByteArray)) × List (ByteArray) × Unit) (B := List (List (ByteArray)) × Unit) (C := List (List (ByteArray)) × Unit) (fun s2 =>
(if (decide ((List.length s2.2.1 : Int) < (List.length x.1 : Int))) = true then
(iter (A := List (List (ByteArray)) × List (ByteArray) × List (ByteArray) × Int × Unit) (B := List (List (ByteArray)) × List (ByteArray) × List (ByteArray) × Unit) (C := List (List (ByteArray)) × Unit) (fun s3 =>
(if (decide (s3.2.2.2.1 < (List.length x.1 : Int))) = true then
(if inB s3.2.2.2.1 (List.length x.1) then
(g_slices_Contains_string_string_ N (s3.2.1, (List.getD x.1 (Int.toNat s3.2.2.2.1) (ByteArray.empty, ([], ([], ([], ([], ([], ()))))))).1, ())).bind fun r4 =>
((if (!r4.1) = true then
(i_areIn N (((List.getD x.1 (Int.toNat s3.2.2.2.1) (ByteArray.empty, ([], ([], ([], ([], ([], ()))))))).2).1, s3.2.1, ())).bind fun r5 =>
  some r5.1 else some false)).bind fun b6 =>
((if b6 = true then
(if List.length s3.2.2.1 + List.length ([(List.getD x.1 (Int.toNat s3.2.2.2.1) (ByteArray.empty, ([], ([], ([], ([], ([], ()))))))).1] : List (ByteArray)) ≤ 4294967296 then
  some (s3.1, s3.2.1, s3.2.2.1 ++ ([(List.getD x.1 (Int.toNat s3.2.2.2.1) (ByteArray.empty, ([], ([], ([], ([], ([], ()))))))).1] : List (ByteArray)), ()) else none) else
  some (s3.1, s3.2.1, s3.2.2.1, ())) : Option (List (List (ByteArray)) × List (ByteArray) × List (ByteArray) × Unit)).bind fun j7 =>
  some (Step.more (j7.1, j7.2.1, j7.2.2.1, IntKind.wrap .i64 (s3.2.2.2.1 + 1), ())) else none) else
  some (Step.done (s3.1, s3.2.1, s3.2.2.1, ())))) N (s2.1, s2.2.1, [], 0, ())).bind fun r8 => match r8 with
| .inl y9 => (g_slices_Sort_string_string_ N (y9.2.2.1, ())).bind fun r11 =>
(if List.length y9.1 + List.length ([r11.1] : List (List (ByteArray))) ≤ 4294967296 then
(if List.length y9.2.1 + List.length (List.getD (y9.1 ++ ([r11.1] : List (List (ByteArray)))) (List.length y9.1) []) ≤ 4294967296 then
  some (Step.more (y9.1 ++ ([r11.1] : List (List (ByteArray))), y9.2.1 ++ (List.getD (y9.1 ++ ([r11.1] : List (List (ByteArray)))) (List.length y9.1) []), ())) else none) else none)
| .inr z10 => some (Step.ret (z10.1, ())) else
  some (Step.done (s2.1, ())))) N ([], [], ())).bind fun r12 => match r12 with
| .inl y13 => some (y13.1, ())
| .inr z14 => some (z14.1, ()))
def l_eqStringSS (N : Nat) (x : List (List (ByteArray)) × List (List (ByteArray)) × Unit) : Option (Bool × Unit) :=
(if (!decide ((List.length x.1 : Int) = (List.length x.2.1 : Int))) = true then
  some (false, ()) else
(iter (A := Int × Unit) (B := Unit) (C := Bool × Unit) (fun s1 =>
(if (decide (s1.1 < (List.length x.1 : Int))) = true then
(if inB s1.1 (List.length x.1) then
(if inB s1.1 (List.length x.2.1) then
(l_eqStringS N (List.getD x.1 (Int.toNat s1.1) [], List.getD x.2.1 (Int.toNat s1.1) [], ())).bind fun r2 =>
(if (!r2.1) = true then
  some (Step.ret (false, ())) else
  some (Step.more (IntKind.wrap .i64 (s1.1 + 1), ()))) else none) else none) else
  some (Step.done (())))) N (0, ())).bind fun r3 => match r3 with
| .inl y4 => some (true, ())
| .inr z5 => some (z5.1, ()))
def l_eqSrcS (N : Nat) (x : List (ByteArray × List (ByteArray) × List (ByteArray) × List (ByteArray × Int × Unit) × List (ByteArray × (List (Int × Int × ByteArray × List (ByteArray) × List (Int) × Unit) × Int × Unit) × Unit) × List (ByteArray × (List (Int × Int × ByteArray × List (ByteArray) × List (Int) × Unit) × Int × Unit) × Unit) × Unit) × List (ByteArray × List (ByteArray) × List (ByteArray) × List (ByteArray × Int × Unit) × List (ByteArray × (List (Int × Int × ByteArray × List (ByteArray) × List (Int) × Unit) × Int × Unit) × Unit) × List (ByteArray × (List (Int × Int × ByteArray × List (ByteArray) × List (Int) × Unit) × Int × Unit) × Unit) × Unit) × Unit) : Option (Bool × Unit) :=
(if (!decide ((List.length x.1 : Int) = (List.length x.2.1 : Int))) = true then
  some (false, ()) else
(iter (A := Int × Unit) (B := Unit) (C := Bool × Unit) (fun s1 =>
(if (decide (s1.1 < (List.length x.1 : Int))) = true then
(if inB s1.1 (List.length x.1) then
(if inB s1.1 (List.length x.2.1) then
(l_eqSrc N (List.getD x.1 (Int.toNat s1.1) (ByteArray.empty, ([], ([], ([], ([], ([], ())))))), List.getD x.2.1 (Int.toNat s1.1) (ByteArray.empty, ([], ([], ([], ([], ([], ())))))), ())).bind fun r2 =>
(if (!r2.1) = true then
  some (Step.ret (false, ())) else
  some (Step.more (IntKind.wrap .i64 (s1.1 + 1), ()))) else none) else none) else
  some (Step.done (())))) N (0, ())).bind fun r3 => match r3 with
| .inl y4 => some (true, ())
| .inr z5 => some (z5.1, ()))
def l_markSrcS (N : Nat) (x : List (ByteArray × List (ByteArray) × List (ByteArray) × List (ByteArray × Int × Unit) × List (ByteArray × (List (Int × Int × ByteArray × List (ByteArray) × List (Int) × Unit) × Int × Unit) × Unit) × List (ByteArray × (List (Int × Int × ByteArray × List (ByteArray) × List (Int) × Unit) × Int × Unit) × Unit) × Unit) × Int × Unit) : Option (Int × List (ByteArray × List (ByteArray) × List (ByteArray) × List (ByteArray × Int × Unit) × List (ByteArray × (List (Int × Int × ByteArray × List (ByteArray) × List (Int) × Unit) × Int × Unit) × Unit) × List (ByteArray × (List (Int × Int × ByteArray × List (ByteArray) × List (Int) × Unit) × Int × Unit) × Unit) × Unit) × Unit) :=
(iter (A := List (ByteArray × List (ByteArray) × List (ByteArray) × List (ByteArray × Int × Unit) × List (ByteArray × (List (Int × Int × ByteArray × List (ByteArray) × List (Int) × Unit) × Int × Unit) × Unit) × List (ByteArray × (List (Int × Int × ByteArray × List (ByteArray) × List (Int) × Unit) × Int × Unit) × Unit) × Unit) × Int × Int × Unit) (B := List (ByteArray × List (ByteArray) × List (ByteArray) × List (ByteArray × Int × Unit) × List (ByteArray × (List (Int × Int × ByteArray × List (ByteArray) × List (Int) × Unit) × Int × Unit) × Unit) × List (ByteArray × (List (Int × Int × ByteArray × List (ByteArray) × List (Int) × Unit) × Int × Unit) × Unit) × Unit) × Int × Unit) (C := Int × List (ByteArray × List (ByteArray) × List (ByteArray) × List (ByteArray × Int × Unit) × List (ByteArray × (List (Int × Int × ByteArray × List (ByteArray) × List (Int) × Unit) × Int × Unit) × Unit) × List (ByteArray × (List (Int × Int × ByteArray × List (ByteArray) × List (Int) × Unit) × Int × Unit) × Unit) × Unit) × Unit) (fun s1 =>
(if (decide (s1.2.2.1 < (List.length s1.1 : Int))) = true then
(l_markText N (s1.2.1, ())).bind fun r2 =>
(if inB s1.2.2.1 (List.length s1.1) then
((some (List.set s1.1 (Int.toNat s1.2.2.1) (r2.1, (List.getD s1.1 (Int.toNat s1.2.2.1) (ByteArray.empty, ([], ([], ([], ([], ([], ()))))))).2)) : Option (List (ByteArray × List (ByteArray) × List (ByteArray) × List (ByteArray × Int × Unit) × List (ByteArray × (List (Int × Int × ByteArray × List (ByteArray) × List (Int) × Unit) × Int × Unit) × Unit) × List (ByteArray × (List (Int × Int × ByteArray × List (ByteArray) × List (Int) × Unit) × Int × Unit) × Unit) × Unit)))).bind fun a3 =>
(if inB s1.2.2.1 (List.length a3) then
(l_markStringS N (((List.getD a3 (Int.toNat s1.2.2.1) (ByteArray.empty, ([], ([], ([], ([], ([], ()))))))).2).1, IntKind.wrap .i64 (s1.2.1 + 1), ())).bind fun r4 =>
((some (List.set a3 (Int.toNat s1.2.2.1) ((List.getD a3 (Int.toNat s1.2.2.1) (ByteArray.empty, ([], ([], ([], ([], ([], ()))))))).1, (r4.2.1, ((List.getD a3 (Int.toNat s1.2.2.1) (ByteArray.empty, ([], ([], ([], ([], ([], ()))))))).2).2))) : Option (List (ByteArray × List (ByteArray) × List (ByteArray) × List (ByteArray × Int × Unit) × List (ByteArray × (List (Int × Int × ByteArray × List (ByteArray) × List (Int) × Unit) × Int × Unit) × Unit) × List (ByteArray × (List (Int × Int × ByteArray × List (ByteArray) × List (Int) × Unit) × Int × Unit) × Unit) × Unit)))).bind fun a5 =>
(if inB s1.2.2.1 (List.length a5) then
(l_markStringS N ((((List.getD a5 (Int.toNat s1.2.2.1) (ByteArray.empty, ([], ([], ([], ([], ([], ()))))))).2).2).1, r4.1, ())).bind fun r6 =>
((some (List.set a5 (Int.toNat s1.2.2.1) ((List.getD a5 (Int.toNat s1.2.2.1) (ByteArray.empty, ([], ([], ([], ([], ([], ()))))))).1, (((List.getD a5 (Int.toNat s1.2.2.1) (ByteArray.empty, ([], ([], ([], ([], ([], ()))))))).2).1, (r6.2.1, (((List.getD a5 (Int.toNat s1.2.2.1) (ByteArray.empty, ([], ([], ([], ([], ([], ()))))))).2).2).2)))) : Option (List (ByteArray × List (ByteArray) × List (ByteArray) × List (ByteArray × Int × Unit) × List (ByteArray × (List (Int × Int × ByteArray × List (ByteArray) × List (Int) × Unit) × Int × Unit) × Unit) × List (ByteArray × (List (Int × Int × ByteArray × List (ByteArray) × List (Int) × Unit) × Int × Unit) × Unit) × Unit)))).bind fun a7 =>
(if inB s1.2.2.1 (List.length a7) then
(l_markTypeS N (((((List.getD a7 (Int.toNat s1.2.2.1) (ByteArray.empty, ([], ([], ([], ([], ([], ()))))))).2).2).2).1, r6.1, ())).bind fun r8 =>
((some (List.set a7 (Int.toNat s1.2.2.1) ((List.getD a7 (Int.toNat s1.2.2.1) (ByteArray.empty, ([], ([], ([], ([], ([], ()))))))).1, (((List.getD a7 (Int.toNat s1.2.2.1) (ByteArray.empty, ([], ([], ([], ([], ([], ()))))))).2).1, ((((List.getD a7 (Int.toNat s1.2.2.1) (ByteArray.empty, ([], ([], ([], ([], ([], ()))))))).2).2).1, (r8.2.1, ((((List.getD a7 (Int.toNat s1.2.2.1) (ByteArray.empty, ([], ([], ([], ([], ([], ()))))))).2).2).2).2))))) : Option (List (ByteArray × List (ByteArray) × List (ByteArray) × List (ByteArray × Int × Unit) × List (ByteArray × (List (Int × Int × ByteArray × List (ByteArray) × List (Int) × Unit) × Int × Unit) × Unit) × List (ByteArray × (List (Int × Int × ByteArray × List (ByteArray) × List (Int) × Unit) × Int × Unit) × Unit) × Unit)))).bind fun a9 =>
(if inB s1.2.2.1 (List.length a9) then
(l_markDefS N ((((((List.getD a9 (Int.toNat s1.2.2.1) (ByteArray.empty, ([], ([], ([], ([], ([], ()))))))).2).2).2).2).1, r8.1, ())).bind fun r10 =>
((some (List.set a9 (Int.toNat s1.2.2.1) ((List.getD a9 (Int.toNat s1.2.2.1) (ByteArray.empty, ([], ([], ([], ([], ([], ()))))))).1, (((List.getD a9 (Int.toNat s1.2.2.1) (ByteArray.empty, ([], ([], ([], ([], ([], ()))))))).2).1, ((((List.getD a9 (Int.toNat s1.2.2.1) (ByteArray.empty, ([], ([], ([], ([], ([], ()))))))).2).2).1, (((((List.getD a9 (Int.toNat s1.2.2.1) (ByteArray.empty, ([], ([], ([], ([], ([], ()))))))).2).2).2).1, (r10.2.1, (((((List.getD a9 (Int.toNat s1.2.2.1) (ByteArray.empty, ([], ([], ([], ([], ([], ()))))))).2).2).2).2).2)))))) : Option (List (ByteArray × List (ByteArray) × List (ByteArray) × List (ByteArray × Int × Unit) × List (ByteArray × (List (Int × Int × ByteArray × List (ByteArray) × List (Int) × Unit) × Int × Unit) × Unit) × List (ByteArray × (List (Int × Int × ByteArray × List (ByteArray) × List (Int) × Unit) × Int × Unit) × Unit) × Unit)))).bind fun a11 =>
(if inB s1.2.2.1 (List.length a11) then
(l_markDefS N (((((((List.getD a11 (Int.toNat s1.2.2.1) (ByteArray.empty, ([], ([], ([], ([], ([], ()))))))).2).2).2).2).2).1, r10.1, ())).bind fun r12 =>
((some (List.set a11 (Int.toNat s1.2.2.1) ((List.getD a11 (Int.toNat s1.2.2.1) (ByteArray.empty, ([], ([], ([], ([], ([], ()))))))).1, (((List.getD a11 (Int.toNat s1.2.2.1) (ByteArray.empty, ([], ([], ([], ([], ([], ()))))))).2).1, ((((List.getD a11 (Int.toNat s1.2.2.1) (ByteArray.empty, ([], ([], ([], ([], ([], ()))))))).2).2).1, (((((List.getD a11 (Int.toNat s1.2.2.1) (ByteArray.empty, ([], ([], ([], ([], ([], ()))))))).2).2).2).1, ((((((List.getD a11 (Int.toNat s1.2.2.1) (ByteArray.empty, ([], ([], ([], ([], ([], ()))))))).2).2).2).2).1, (r12.2.1, ((((((List.getD a11 (Int.toNat s1.2.2.1) (ByteArray.empty, ([], ([], ([], ([], ([], ()))))))).2).2).2).2).2).2))))))) : Option (List (ByteArray × List (ByteArray) × List (ByteArray) × List (ByteArray × Int × Unit) × List (ByteArray × (List (Int × Int × ByteArray × List (ByteArray) × List (Int) × Unit) × Int × Unit) × Unit) × List (ByteArray × (List (Int × Int × ByteArray × List (ByteArray) × List (Int) × Unit) × Int × Unit) × Unit) × Unit)))).bind fun a13 =>
  some (Step.more (a13, r12.1, IntKind.wrap .i64 (s1.2.2.1 + 1), ())) else none) else none) else none) else none) else none) else none) else
  some (Step.done (s1.1, s1.2.1, ())))) N (x.1, x.2.1, 0, ())).bind fun r14 => match r14 with
| .inl y15 => some (y15.2.1, y15.1, ())
| .inr z16 => some (z16.1, z16.2.1, ())
def l_markStringSS (N : Nat) (x : List (List (ByteArray)) × Int × Unit) : Option (Int × List (List (ByteArray)) × Unit) :=
(iter (A := List (List (ByteArray)) × Int × Int × Unit) (B := List (List (ByteArray)) × Int × Unit) (C := Int × List (List (ByteArray)) × Unit) (fun s1 =>
(if (decide (s1.2.2.1 < (List.length s1.1 : Int))) = true then
(if inB s1.2.2.1 (List.length s1.1) then
(l_markStringS N (List.getD s1.1 (Int.toNat s1.2.2.1) [], s1.2.1, ())).bind fun r2 =>
((some (List.set s1.1 (Int.toNat s1.2.2.1) r2.2.1) : Option (List (List (ByteArray))))).bind fun a3 =>
  some (Step.more (a3, r2.1, IntKind.wrap .i64 (s1.2.2.1 + 1), ())) else none) else
  some (Step.done (s1.1, s1.2.1, ())))) N (x.1, x.2.1, 0, ())).bind fun r4 => match r4 with
| .inl y5 => some (y5.2.1, y5.1, ())
| .inr z6 => some (z6.1, z6.2.1, ())
def l_heldStringSS (N : Nat) (x : List (List (ByteArray)) × Int × Unit) : Option (Int × Unit) :=
(iter (A := Int × Int × Unit) (B := Int × Unit) (C := Int × Unit) (fun s1 =>
(if (decide (s1.2.1 < (List.length x.1 : Int))) = true then
(if inB s1.2.1 (List.length x.1) then
(l_heldStringS N (List.getD x.1 (Int.toNat s1.2.1) [], s1.1, ())).bind fun r2 =>
(if (decide (r2.1 < 0)) = true then
  some (Step.ret ((-1), ())) else
  some (Step.more (r2.1, IntKind.wrap .i64 (s1.2.1 + 1), ()))) else none) else
  some (Step.done (s1.1, ())))) N (x.2.1, 0, ())).bind fun r3 => match r3 with
| .inl y4 => some (y4.1, ())
| .inr z5 => some (z5.1, ())
def l_FnExactLevels (N : Nat) (x : List (ByteArray × List (ByteArray) × List (ByteArray) × List (ByteArray × Int × Unit) × List (ByteArray × (List (Int × Int × ByteArray × List (ByteArray) × List (Int) × Unit) × Int × Unit) × Unit) × List (ByteArray × (List (Int × Int × ByteArray × List (ByteArray) × List (Int) × Unit) × Int × Unit) × Unit) × Unit) × Unit) : Option (Bool × Unit) :=
(l_szSrcS N (x.1, 1048576, ())).bind fun r1 =>
(if (decide (r1.1 < 0)) = true then
  some (true, ()) else
(l_toSrcS N (x.1, ())).bind fun r2 =>
(s_Levels N (r2.1, ())).bind fun r3 =>
(l_toSrcS N (x.1, ())).bind fun r4 =>
(i_Levels N (r4.1, ())).bind fun r5 =>
(l_eqStringSS N (r5.1, r3.1, ())).bind fun r6 =>
(if (!r6.1) = true then
  some (false, ()) else
(l_toSrcS N (x.1, ())).bind fun r7 =>
(l_eqSrcS N (r4.1, r7.1, ())).bind fun r8 =>
(if (!r8.1) = true then
  some (false, ()) else
(l_markSrcS N (r4.1, 1, ())).bind fun r9 =>
((if (decide (r9.1 < 0)) = true then
  some true else (l_eqStringSS N (r5.1, r3.1, ())).bind fun r10 =>
  some (!r10.1))).bind fun b11 =>
(if b11 = true then
  some (false, ()) else
(l_markStringSS N (r5.1, 1, ())).bind fun r12 =>
(l_heldStringSS N (r12.2.1, 1, ())).bind fun r13 =>
(if (decide (r13.1 < 0)) = true then
  some (false, ()) else
(if (!decide (r13.1 = r12.1)) = true then
  some (false, ()) else
(l_toSrcS N (x.1, ())).bind fun r14 =>
(i_Levels N (r14.1, ())).bind fun r15 =>
(l_eqStringSS N (r15.1, r3.1, ())).bind fun r16 =>
(if (!r16.1) = true then
  some (false, ()) else
(l_heldStringSS N (r12.2.1, 1, ())).bind fun r17 =>
(if (decide (r17.1 < 0)) = true then
  some (false, ()) else
(if (!decide (r17.1 = r12.1)) = true then
  some (false, ()) else
  some (true, ()))))))))))
end Go.Rf
