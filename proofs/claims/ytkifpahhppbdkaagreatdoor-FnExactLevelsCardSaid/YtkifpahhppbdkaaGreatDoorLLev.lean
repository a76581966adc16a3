/-
  Orders of sources, and their rows: the reference and the program tell the same; the plain function of FnExactLevels returns true, whatever is put in within the form's bounds.
-/
import Derived.Test.YtkifpahhppbdkaaGreatDoorLSrc
import Derived.Test.YtkifpahhppbdkaaGreatDoorLNat
import Derived.Test.YtkifpahhppbdkaaGreatDoorLOk
set_option linter.unusedSimpArgs false
set_option linter.unusedVariables false
set_option autoImplicit false
namespace Go.Rf

theorem p_szSrcS {N : Nat} (l : List ST) (left : Int) (u : Unit) (h0 : 0 ≤ left) (hB : left ≤ 1048576) (hl : l.length ≤ lim) (hs : ∀ s ∈ l, F_Src s) (hN : lim < N) : Sz (l_szSrcS N (l, left, u)) left (wL w_Src l) := by
  have hlim : lim = 9223372036854775807 := rfl
  unfold l_szSrcS
  dsimp only
  rw [wrap_sub h0 hB hl]
  refine Sz.sub h0 (fun k1 => ?_)
  refine Sz.loop l (ByteArray.empty, ([] : List ByteArray), ([] : List ByteArray), ([] : List TT), ([] : List DT), ([] : List DT), ()) w_Src (by omega) (by omega) (by omega) ?h ?hd rfl (fun r => rfl)
  case h =>
    intro i lf hi hl0 hlB
    have hm : l.getD i (ByteArray.empty, ([] : List ByteArray), ([] : List ByteArray), ([] : List TT), ([] : List DT), ([] : List DT), ()) ∈ l := mem_getD hi
    have hsz := hs _ hm
    dsimp only
    rw [Int.toNat_natCast, if_pos (decide_eq_true (lt_cast hi)), if_pos (inB_nat.2 hi), wrap_nat (by omega)]
    rcases p_szSrc (N := N) (l.getD i (ByteArray.empty, ([] : List ByteArray), ([] : List ByteArray), ([] : List TT), ([] : List DT), ([] : List DT), ())) lf () hl0 hlB hsz hN with h1 | ⟨h1, h2⟩
    · left; rw [h1]; rfl
    · right; rw [h1]
      dsimp only [Option.bind_some]
      rw [if_neg (fun hc => by have := of_decide_eq_true hc; omega)]
      exact ⟨rfl, h2⟩
  case hd => intro lf; simp
theorem e_toSrcS (N : Nat) (l : List ST) (u : Unit) (hw : wL w_Src l < big) (hN : big ≤ N) : l_toSrcS N (l, u) = some (l, ()) := by
  have hb : big = 1048577 := rfl
  have hl : l.length < big := by simp only [wL] at hw; omega
  unfold l_toSrcS
  rw [if_pos (show mkB (l.length : Int) (l.length : Int) from ⟨by omega, by omega, by omega⟩)]
  dsimp only [Int.toNat_natCast]
  rw [loop_fill l (ByteArray.empty, ([] : List ByteArray), ([] : List ByteArray), ([] : List TT), ([] : List DT), ([] : List DT), ()) (ByteArray.empty, ([] : List ByteArray), ([] : List ByteArray), ([] : List TT), ([] : List DT), ([] : List DT), ()) ?h ?hd (by omega)]
  case h =>
    intro i w hi hw'
    dsimp only
    have hwi := sumW_getD (w := w_Src) (d := (ByteArray.empty, ([] : List ByteArray), ([] : List ByteArray), ([] : List TT), ([] : List DT), ([] : List DT), ())) hi
    rw [Int.toNat_natCast, if_pos (decide_eq_true (lt_cast hi)), if_pos (inB_nat.2 hi), e_toSrc N _ () (by simp only [wL] at hw; omega) hN]
    try dsimp only [Option.bind_some]
    rw [if_pos (inB_nat.2 (by omega)), wrap_nat (by omega)]
  case hd => intro w; simp
  rfl
theorem e_eqSrcS (N : Nat) (l : List ST) (u : Unit) (hw : wL w_Src l < big) (hN : big ≤ N) : l_eqSrcS N (l, l, u) = some (true, ()) := by
  have hb : big = 1048577 := rfl
  have hl : l.length < big := by simp only [wL] at hw; omega
  unfold l_eqSrcS
  simp only [decide_true, Bool.not_true, Bool.false_eq_true, if_false]
  rw [iter_done (fun i => ((i : Int), ())) (x0 := (0, ())) (b := ()) (k := 0) (n := l.length) ?h (Nat.zero_le _) ?hd (by omega) rfl]
  case h =>
    intro i _ hi
    dsimp only
    have hwi := sumW_getD (w := w_Src) (d := (ByteArray.empty, ([] : List ByteArray), ([] : List ByteArray), ([] : List TT), ([] : List DT), ([] : List DT), ())) hi
    rw [if_pos (decide_eq_true (lt_cast hi)), if_pos (inB_nat.2 hi), if_pos (inB_nat.2 hi), Int.toNat_natCast, e_eqSrc N _ _ (by simp only [wL] at hw; omega) hN, wrap_nat (by omega)]
    rfl
  case hd => simp
  rfl
def c_SrcA (x : ST) : Nat := 1 + (x.2.1.length + (x.2.2.1.length + (sumW c_Type x.2.2.2.1 + (sumW c_Def x.2.2.2.2.1 + (sumW c_Def x.2.2.2.2.2.1 + 0)))))
theorem cle_SrcA (x : ST) : c_SrcA x ≤ 1 + 64 * w_Src x := by
  have h0 : x.2.1.length ≤ wL wStr x.2.1 := Nat.le_add_right _ _
  have h1 : x.2.2.1.length ≤ wL wStr x.2.2.1 := Nat.le_add_right _ _
  have h2 := sumW_le (k := 64) (b := 2) (by omega) cle_Type x.2.2.2.1
  have h3 := sumW_le (k := 64) (b := 2) (by omega) cle_Def x.2.2.2.2.1
  have h4 := sumW_le (k := 64) (b := 2) (by omega) cle_Def x.2.2.2.2.2.1
  simp only [c_SrcA, w_Src]
  omega
theorem p_markSrcS {N : Nat} (hN : lim < N) (l : List ST) (m : Int) (u : Unit) (hm : 0 < m) (hB : m + (sumW c_SrcA l : Int) ≤ capB) (hw : wL w_Src l < big) : ∃ l' m', l_markSrcS N (l, m, u) = some (m', l', ()) ∧ m ≤ m' ∧ m' ≤ m + (sumW c_SrcA l : Int) := by
  have hlim : lim = 9223372036854775807 := rfl
  have hbig : big = 1048577 := rfl
  have hcap : capB = 1152921504606846976 := rfl
  have hl : l.length ≤ wL w_Src l := Nat.le_add_right _ _
  unfold l_markSrcS
  dsimp only
  refine loop_mark_k (c := c_SrcA) (P := fun x => w_Src x < big) (B := capB) ?hstep ?hdone (fun _ _ => rfl) l m (fun x hx => ?hP) (by omega) hm hB (by omega)
  case hP => have := sumW_mem (w := w_Src) hx; have e0 : wL w_Src l = l.length + sumW w_Src l := rfl; omega
  case hdone => intro l m; dsimp only; rw [if_neg (by simp)]
  case hstep =>
    intro pre x post m hx hlen hm hB
    have hc : c_SrcA x = 1 + (x.2.1.length + (x.2.2.1.length + (sumW c_Type x.2.2.2.1 + (sumW c_Def x.2.2.2.2.1 + (sumW c_Def x.2.2.2.2.2.1 + 0))))) := rfl
    have hw : (x.1.size + (wL wStr x.2.1 + (wL wStr x.2.2.1 + (wL w_Type x.2.2.2.1 + (wL w_Def x.2.2.2.2.1 + (wL w_Def x.2.2.2.2.2.1 + 0)))))) < big := hx
    dsimp only
    rw [if_pos lt_mid]
    rw [e_markText (m := m) (by omega) (by omega) hN]
    try dsimp only [Option.bind_some]
    rw [if_pos inB_mid, getD_mid, set_mid]
    try dsimp only [Option.bind_some]
    rw [wrap_cap (m := m + 1) (by omega) (by omega)]
    rw [if_pos inB_mid, getD_mid]
    obtain ⟨l1, m1, e1, a1, b1⟩ := p_markStrS hN x.2.1 (m + 1) () (by omega) (by omega) (by have e0 : wL wStr x.2.1 = x.2.1.length + sumW wStr x.2.1 := rfl; omega)
    try dsimp only
    rw [e1]
    try dsimp only [Option.bind_some]
    rw [set_mid]
    try dsimp only [Option.bind_some]
    rw [if_pos inB_mid, getD_mid]
    obtain ⟨l2, m2, e2, a2, b2⟩ := p_markStrS hN x.2.2.1 (m1) () (by omega) (by omega) (by have e0 : wL wStr x.2.2.1 = x.2.2.1.length + sumW wStr x.2.2.1 := rfl; omega)
    try dsimp only
    rw [e2]
    try dsimp only [Option.bind_some]
    rw [set_mid]
    try dsimp only [Option.bind_some]
    rw [if_pos inB_mid, getD_mid]
    obtain ⟨l3, m3, e3, a3, b3⟩ := p_markTypeS hN x.2.2.2.1 (m2) () (by omega) (by omega) (by omega)
    try dsimp only
    rw [e3]
    try dsimp only [Option.bind_some]
    rw [set_mid]
    try dsimp only [Option.bind_some]
    rw [if_pos inB_mid, getD_mid]
    obtain ⟨l4, m4, e4, a4, b4⟩ := p_markDefS hN x.2.2.2.2.1 (m3) () (by omega) (by omega) (by omega)
    try dsimp only
    rw [e4]
    try dsimp only [Option.bind_some]
    rw [set_mid]
    try dsimp only [Option.bind_some]
    rw [if_pos inB_mid, getD_mid]
    obtain ⟨l5, m5, e5, a5, b5⟩ := p_markDefS hN x.2.2.2.2.2.1 (m4) () (by omega) (by omega) (by omega)
    try dsimp only
    rw [e5]
    try dsimp only [Option.bind_some]
    rw [set_mid]
    try dsimp only [Option.bind_some]
    rw [wrap_mid hlen]
    exact ⟨_, _, rfl, by omega, by omega⟩

/-! ## Lists of lists of strings -/
theorem e_eqStrSS (N : Nat) (l : List (List ByteArray)) (u : Unit) (hl : l.length < big) (hs : ∀ r ∈ l, r.length < big) (hN : big ≤ N) : l_eqStringSS N (l, l, u) = some (true, ()) := by
  have hb : big = 1048577 := rfl
  unfold l_eqStringSS
  simp only [decide_true, Bool.not_true, Bool.false_eq_true, if_false]
  rw [iter_done (fun i => ((i : Int), ())) (x0 := (0, ())) (b := ()) (k := 0) (n := l.length) ?h (Nat.zero_le _) ?hd (by omega) rfl]
  case h =>
    intro i _ hi
    dsimp only
    rw [if_pos (decide_eq_true (lt_cast hi)), if_pos (inB_nat.2 hi), if_pos (inB_nat.2 hi), Int.toNat_natCast, e_eqStrS N _ _ (hs _ (mem_getD hi)) hN, wrap_nat (by omega)]
    rfl
  case hd => simp
  rfl

abbrev mSS (N : Nat) (m : Int) (x : List ByteArray) : List ByteArray := mkL (mS N) (fun _ => 1) m x
abbrev cSS (x : List ByteArray) : Int := sumL (fun _ => 1) x
theorem cSS_nonneg (x : List ByteArray) : 0 ≤ cSS x := by rw [cSS, sumL_one]; omega

theorem loop_marks_k {α C D : Type} {f : List α × Int × Int × Unit → Option (Step (List α × Int × Int × Unit) (List α × Int × Unit) C)} {K : (List α × Int × Unit) ⊕ C → Option D} {mk : Int → α → α} {st : α → Int} (h0 : ∀ x, 0 ≤ st x) {P : α → Prop} {B : Int}
    (hstep : ∀ pre x post m, P x → pre.length + post.length < big → 0 < m → m + st x ≤ B → f (pre ++ x :: post, m, (pre.length : Int), ()) = some (.more (pre ++ mk m x :: post, m + st x, ((pre.length + 1 : Nat) : Int), ())))
    (hdone : ∀ l m, f (l, m, (l.length : Int), ()) = some (.done (l, m, ()))) (l : List α) (m : Int) {N : Nat} (hP : ∀ x ∈ l, P x) (hl : l.length < big) (hm : 0 < m) (hB : m + sumL st l ≤ B) (hN : l.length < N) :
    (iter f N (l, m, 0, ())).bind K = K (.inl (mkL mk st m l, m + sumL st l, ())) := by
  have h := loop_marks h0 hstep hdone l [] m N hP (by simpa using hl) hm hB hN
  simp only [List.nil_append, List.length_nil] at h
  have e0 : ((0 : Nat) : Int) = 0 := rfl
  rw [e0] at h
  rw [h]; rfl
theorem loop_held_k {α C D : Type} {t : List α} {f : Int × Int × Unit → Option (Step (Int × Int × Unit) (Int × Unit) C)} {K : (Int × Unit) ⊕ C → Option D} {mk : Int → α → α} {st : α → Int} (h0 : ∀ x, 0 ≤ st x) {P : α → Prop} {B : Int}
    (hstep : ∀ pre x post m, t = pre ++ mk m x :: post → P x → pre.length + post.length < big → 0 < m → m + st x ≤ B → f (m, (pre.length : Int), ()) = some (.more (m + st x, ((pre.length + 1 : Nat) : Int), ())))
    (hdone : ∀ m, f (m, (t.length : Int), ()) = some (.done (m, ()))) (l : List α) (m : Int) {N : Nat} (ht : t = mkL mk st m l) (hP : ∀ x ∈ l, P x) (hl : l.length < big) (hm : 0 < m) (hB : m + sumL st l ≤ B) (hN : l.length < N) :
    (iter f N (m, 0, ())).bind K = K (.inl (m + sumL st l, ())) := by
  have h := loop_held h0 hstep hdone l [] m N (by simpa using ht) hP (by simpa using hl) hm hB hN
  simp only [List.length_nil] at h
  have e0 : ((0 : Nat) : Int) = 0 := rfl
  rw [e0] at h
  rw [h]; rfl

theorem e_markStringSS {N : Nat} (hN : lim < N) (l : List (List ByteArray)) (m : Int) (hm : 0 < m) (hB : m + sumL cSS l ≤ capB) (hl : l.length < big) (hs : ∀ r ∈ l, r.length < big) : l_markStringSS N (l, m, ()) = some (m + sumL cSS l, mkL (mSS N) cSS m l, ()) := by
  have hlim : lim = 9223372036854775807 := rfl
  have hbig : big = 1048577 := rfl
  have hcap : capB = 1152921504606846976 := rfl
  unfold l_markStringSS
  dsimp only
  rw [loop_marks_k (mk := mSS N) (st := cSS) cSS_nonneg (P := fun r => r.length < big) (B := capB) ?hstep ?hdone l m hs hl hm hB (by omega)]
  case hdone => intro l m; dsimp only; rw [if_neg (by simp)]
  case hstep =>
    intro pre x post m hx hlen hm hB
    dsimp only
    rw [if_pos lt_mid, if_pos inB_mid, getD_mid, e_markStringS hN x m hm hB hx]
    dsimp only [Option.bind_some]
    rw [set_mid, wrap_mid hlen]

theorem e_heldStringSS {N : Nat} (hN : lim < N) (l : List (List ByteArray)) (m : Int) (hm : 0 < m) (hB : m + sumL cSS l ≤ capB) (hl : l.length < big) (hs : ∀ r ∈ l, r.length < big) : l_heldStringSS N (mkL (mSS N) cSS m l, m, ()) = some (m + sumL cSS l, ()) := by
  have hlim : lim = 9223372036854775807 := rfl
  have hbig : big = 1048577 := rfl
  have hcap : capB = 1152921504606846976 := rfl
  unfold l_heldStringSS
  dsimp only
  rw [loop_held_k (t := mkL (mSS N) cSS m l) (mk := mSS N) (st := cSS) cSS_nonneg (P := fun r => r.length < big) (B := capB) ?hstep ?hdone l m rfl hs hl hm hB (by omega)]
  case hdone => intro m; dsimp only; rw [if_neg (by simp)]
  case hstep =>
    intro pre x post m ht hx hlen hm hB
    dsimp only
    have hcs : 0 ≤ sumL (fun _ => (1 : Int)) x := cSS_nonneg x
    rw [ht, if_pos lt_mid, if_pos inB_mid, getD_mid, e_heldStringS hN x m hm hB hx]
    dsimp only [Option.bind_some]
    rw [if_neg (fun hc => by have := of_decide_eq_true hc; omega), wrap_mid hlen]
end Go.Rf

namespace Go.Rf

/-! ## Strings in their order -/
def bS (s : ByteArray) : List UInt8 := s.data.toList
def ltS (a b : ByteArray) : Bool := Op.bytesLess (ByteArray.toList a) (ByteArray.toList b)

theorem less_eq : ∀ (x y : List UInt8), Op.bytesLess x y = decide (x < y)
  | [], [] => by simp [Op.bytesLess]
  | _ :: _, [] => by simp [Op.bytesLess]
  | [], _ :: _ => by simp [Op.bytesLess]
  | a :: x, b :: y => by
    rw [Op.bytesLess, less_eq x y]
    simp only [List.cons_lt_cons_iff]
    by_cases h1 : a < b <;> by_cases h2 : a = b <;> by_cases h3 : x < y <;> simp [h1, h2, h3]

theorem ltS_iff {a b : ByteArray} : ltS a b = true ↔ bS a < bS b := by
  unfold ltS bS
  rw [less_eq, ByteArray.toList_eq, ByteArray.toList_eq, decide_eq_true_eq]
theorem bS_inj {a b : ByteArray} (h : bS a = bS b) : a = b := by
  obtain ⟨⟨a⟩⟩ := a
  obtain ⟨⟨b⟩⟩ := b
  simp only [bS] at h
  rw [h]

/-- one put among those in order -/
def insL (s : ByteArray) : List ByteArray → List ByteArray
  | [] => [s]
  | x :: l => if ltS s x = true then s :: x :: l else x :: insL s l
def putL (l : List ByteArray) (s : ByteArray) : List ByteArray := if sIn l s = true then l else insL s l

theorem insL_length (s : ByteArray) : ∀ l : List ByteArray, (insL s l).length = l.length + 1 := by
  intro l
  induction l with
  | nil => rfl
  | cons x l ih => unfold insL; split <;> simp [ih]
theorem insL_perm (s : ByteArray) : ∀ l : List ByteArray, (insL s l).Perm (s :: l) := by
  intro l
  induction l with
  | nil => exact List.Perm.refl _
  | cons x l ih =>
    unfold insL
    split
    · exact List.Perm.refl _
    · exact (List.Perm.cons x ih).trans (List.Perm.swap s x l)

def Asc (l : List ByteArray) : Prop := l.Pairwise fun a b => bS a < bS b
theorem lt_of_not {a b : ByteArray} (h : ¬ ltS a b = true) (hne : b ≠ a) : bS b < bS a := by
  rw [ltS_iff] at h
  refine Decidable.byContradiction fun hc => hne (bS_inj (List.le_antisymm (List.not_lt.1 h) (List.not_lt.1 hc)))
theorem insL_asc {s : ByteArray} : ∀ {l : List ByteArray}, Asc l → s ∉ l → Asc (insL s l) := by
  intro l
  induction l with
  | nil => intro _ _; simp [insL, Asc]
  | cons x l ih =>
    intro h hs
    have hx := List.pairwise_cons.1 h
    unfold insL
    split
    · rename_i hlt
      have hlt := ltS_iff.1 hlt
      refine List.pairwise_cons.2 ⟨fun y hy => ?_, h⟩
      rcases List.mem_cons.1 hy with rfl | hy
      · exact hlt
      · exact List.lt_trans hlt (hx.1 y hy)
    · rename_i hlt
      have hne : x ≠ s := fun e => hs (by simp [e])
      refine List.pairwise_cons.2 ⟨fun y hy => ?_, ih hx.2 (fun h => hs (by simp [h]))⟩
      rcases List.mem_cons.1 ((insL_perm s l).mem_iff.1 hy) with rfl | hy
      · exact lt_of_not hlt hne
      · exact hx.1 y hy

theorem foldl_insT (s : ByteArray) : ∀ (l out : List ByteArray),
    (l.foldl (fun (q : List ByteArray × Bool) x => if (!q.2 && ltS s x) = true then (q.1 ++ [s] ++ [x], true) else (q.1 ++ [x], q.2)) (out, true)) = (out ++ l, true) := by
  intro l
  induction l with
  | nil => intro out; simp
  | cons x l ih => intro out; simp only [List.foldl_cons]; rw [if_neg (by simp), ih]; simp
def finP (s : ByteArray) (q : List ByteArray × Bool) : List ByteArray := if q.2 = true then q.1 else q.1 ++ [s]
theorem foldl_insF (s : ByteArray) : ∀ (l out : List ByteArray),
    finP s (l.foldl (fun (q : List ByteArray × Bool) x => if (!q.2 && ltS s x) = true then (q.1 ++ [s] ++ [x], true) else (q.1 ++ [x], q.2)) (out, false)) = out ++ insL s l := by
  intro l
  induction l with
  | nil => intro out; simp [insL, finP]
  | cons x l ih =>
    intro out
    simp only [List.foldl_cons, Bool.not_false, Bool.true_and]
    by_cases hlt : ltS s x = true
    · rw [if_pos hlt, foldl_insT]
      simp [insL, hlt, finP]
    · rw [if_neg hlt, ih]
      simp [insL, hlt]

theorem e_put (N : Nat) (l : List ByteArray) (s : ByteArray) (u : Unit) (hl : l.length < big) (hN : big ≤ N) : s_l12Put N (l, s, u) = some (putL l s, ()) := by
  have hb : big = 1048577 := rfl
  unfold s_l12Put putL
  dsimp only
  rw [e_in N l s () hl hN]
  dsimp only [Option.bind_some]
  cases sIn l s with
  | true => rfl
  | false =>
    simp only [Bool.false_eq_true, if_false]
    rw [(loop_foldl (fun (q : List ByteArray × Bool) (i : Nat) => (l, q.1, q.2, (i : Int), ())) (fun i q => q.1.length ≤ 2 * i) (fun (q : List ByteArray × Bool) x => if (!q.2 && ltS s x) = true then (q.1 ++ [s] ++ [x], true) else (q.1 ++ [x], q.2)) (fun q => (q.1, q.2, ())) l eS ?h ?hd ([], false) (l, [], false, 0, ()) rfl (by simp) (by omega)).1]
    case hd => intro q hq; simp
    case h =>
      rintro i ⟨out, put⟩ hi hq
      have hq : out.length ≤ 2 * i := hq
      dsimp only
      rw [if_pos (decide_eq_true (lt_cast hi)), Int.toNat_natCast, if_pos (inB_nat.2 hi)]
      show _ ∧ List.length _ ≤ 2 * (i + 1)
      rw [show Op.bytesLess (ByteArray.toList s) (ByteArray.toList (l.getD i ByteArray.empty)) = ltS s (l.getD i eS) from rfl]
      cases put with
      | true =>
        simp only [Bool.not_true, Bool.false_eq_true, if_false, Option.bind_some, Bool.false_and]
        rw [if_pos (inB_nat.2 hi), if_pos (by simp; omega), wrap_nat (by omega)]
        exact ⟨rfl, by simp; omega⟩
      | false =>
        simp only [Bool.not_false, if_true, Option.bind_some, Bool.true_and]
        by_cases hlt : ltS s (l.getD i eS) = true
        · rw [if_pos hlt, if_pos (by simp; omega), if_pos hlt]
          dsimp only [Option.bind_some]
          rw [if_pos (inB_nat.2 hi), if_pos (by simp; omega), wrap_nat (by omega)]
          exact ⟨rfl, by simp; omega⟩
        · rw [if_neg hlt, if_neg hlt]
          dsimp only [Option.bind_some]
          rw [if_pos (inB_nat.2 hi), if_pos (by simp; omega), wrap_nat (by omega)]
          exact ⟨rfl, by simp; omega⟩
    have hlen := insL_length s l
    have key := foldl_insF s l []
    simp only [List.nil_append] at key
    unfold finP at key
    generalize l.foldl (fun (q : List ByteArray × Bool) x => if (!q.2 && ltS s x) = true then (q.1 ++ [s] ++ [x], true) else (q.1 ++ [x], q.2)) ([], false) = q at key
    obtain ⟨out, put⟩ := q
    dsimp only at key ⊢
    cases put with
    | true => simp only [if_true] at key; subst key; rfl
    | false =>
      simp only [Bool.false_eq_true, if_false] at key
      have hlo : out.length + 1 = l.length + 1 := by rw [← hlen, ← key]; simp
      simp only [Bool.not_false, if_true]
      rw [if_pos (by simp; omega), key]
      rfl

/-- all put, one after the other -/
theorem sIn_iff {l : List ByteArray} {s : ByteArray} : sIn l s = true ↔ s ∈ l := by
  unfold sIn
  rw [List.any_eq_true]
  constructor
  · rintro ⟨a, ha, h⟩; rw [← of_decide_eq_true h]; exact ha
  · intro h; exact ⟨s, h, by simp⟩
theorem foldl_putL : ∀ (xs row : List ByteArray), (row ++ xs).Nodup → Asc row → Asc (xs.foldl putL row) ∧ (xs.foldl putL row).Perm (row ++ xs) := by
  intro xs
  induction xs with
  | nil => intro row _ h; exact ⟨h, by simp⟩
  | cons x xs ih =>
    intro row hn h
    have hx : x ∉ row := fun hm => (List.nodup_append.1 hn).2.2 x hm x (by simp) rfl
    have hp : putL row x = insL x row := by
      unfold putL
      rw [if_neg (fun hs => hx (sIn_iff.1 hs))]
    simp only [List.foldl_cons, hp]
    have hperm : (insL x row ++ xs).Perm (row ++ x :: xs) := ((insL_perm x row).append_right xs).trans (by simpa using (List.perm_middle (l₁ := row) (l₂ := xs) (a := x)).symm)
    obtain ⟨h1, h2⟩ := ih (insL x row) (hperm.nodup_iff.2 hn) (insL_asc h hx)
    exact ⟨h1, h2.trans hperm⟩

theorem sortL_perm (xs : List ByteArray) : (sortL xs).Perm xs := by
  unfold sortL
  have h := (List.mergeSort_perm (xs.map fun s => s.data.toList) (fun x y => decide (x ≤ y))).map (fun l => (⟨l.toArray⟩ : ByteArray))
  refine h.trans ?_
  rw [List.map_map]
  have e : ((fun l => (⟨l.toArray⟩ : ByteArray)) ∘ fun s : ByteArray => s.data.toList) = id := by funext s; simp
  rw [e, List.map_id]
theorem sortL_asc (xs : List ByteArray) : (sortL xs).Pairwise fun a b => bS a ≤ bS b := by
  unfold sortL
  rw [List.pairwise_map]
  have h := List.pairwise_mergeSort (le := fun (x y : List UInt8) => decide (x ≤ y)) (fun a b c h1 h2 => decide_eq_true (List.le_trans (of_decide_eq_true h1) (of_decide_eq_true h2)))
    (fun a b => by rcases List.le_total a b with h | h <;> simp [h]) (xs.map fun s => s.data.toList)
  refine h.imp ?_
  intro a b hab
  simpa [bS] using hab
theorem asc_sort {a b : List ByteArray} (ha : Asc a) (hp : a.Perm b) : a = sortL b := by
  refine List.Perm.eq_of_pairwise (le := fun a b => bS a ≤ bS b) (fun x y _ _ h1 h2 => bS_inj (List.le_antisymm h1 h2)) (ha.imp fun h => List.le_of_lt h) (sortL_asc b) (hp.trans (sortL_perm b).symm)
end Go.Rf

namespace Go.Rf

/-! ## Right sources, and their order -/
def namA (l : List ST) : List ByteArray := l.map (·.1)
theorem namA_len (l : List ST) : (namA l).length = l.length := by simp [namA]
theorem namA_getD {l : List ST} {i : Nat} (hi : i < l.length) : (namA l).getD i eS = (l.getD i (ByteArray.empty, ([] : List ByteArray), ([] : List ByteArray), ([] : List TT), ([] : List DT), ([] : List DT), ())).1 := by
  rw [getD_lt (by rw [namA_len]; exact hi), getD_lt hi]; simp [namA]

def idxA (l : List ST) (n : ByteArray) : Int := match l.findIdx? (fun s => decide (s.1 = n)) with
  | some i => (i : Int)
  | none => -1

theorem e_at (N : Nat) (l : List ST) (n : ByteArray) (u : Unit) (hl : l.length < big) (hN : big ≤ N) : s_l12At N (l, n, u) = some (idxA l n, ()) := by
  have hb : big = 1048577 := rfl
  unfold s_l12At idxA
  dsimp only
  rw [loop_find l (ByteArray.empty, ([] : List ByteArray), ([] : List ByteArray), ([] : List TT), ([] : List DT), ([] : List DT), ()) (fun s => decide (s.1 = n)) (b := ()) ?h ?hd (by omega)]
  case hd => simp
  case h =>
    intro i hi
    simp only [lt_cast hi, decide_true, if_true, inB_nat, hi, Int.toNat_natCast, decide_eq_true_eq]
    rw [wrap_nat (by omega)]
    split <;> rfl
  cases l.findIdx? (fun s => decide (s.1 = n)) <;> rfl

theorem idxA_nonneg (l : List ST) (n : ByteArray) : decide (idxA l n ≥ 0) = sIn (namA l) n := by
  unfold idxA sIn namA
  rw [List.any_map]
  cases e : l.findIdx? (fun s => decide (s.1 = n)) with
  | none =>
    rw [List.findIdx?_eq_none_iff] at e
    have : l.any ((fun a => decide (a = n)) ∘ (·.1)) = false := by
      rw [List.any_eq_false]; intro a ha; simp only [Function.comp]; rw [e a ha]; simp
    rw [this]; rfl
  | some i =>
    rw [List.findIdx?_eq_some_iff_getElem] at e
    obtain ⟨hi, h1, _⟩ := e
    have : l.any ((fun a => decide (a = n)) ∘ (·.1)) = true := List.any_eq_true.2 ⟨_, List.getElem_mem hi, h1⟩
    rw [this]; simp
theorem idxA_neg (l : List ST) (n : ByteArray) : decide (idxA l n < 0) = !sIn (namA l) n := by
  rw [← idxA_nonneg, ← decide_not]
  exact decide_eq_decide.2 (by omega)

theorem e_all12 (N : Nat) (l m : List ByteArray) (u : Unit) (hl : l.length < big) (hm : m.length < big) (hN : big ≤ N) : s_l12All N (l, m, u) = some (l.all (sIn m), ()) := by
  have hb : big = 1048577 := rfl
  unfold s_l12All
  dsimp only
  rw [loop_all l eS (sIn m) (b := ()) (c := (false, ())) (by omega) ?h ?hd (by omega)]
  case hd => simp
  case h =>
    intro i hi
    dsimp only
    rw [if_pos (decide_eq_true (lt_cast hi)), if_pos (inB_nat.2 hi), Int.toNat_natCast, e_in N m _ () hm hN]
    dsimp only [Option.bind_some]
    cases sIn m (l.getD i eS) <;> rfl
  cases l.all (sIn m) <;> rfl

theorem e_namA (N : Nat) (l : List ST) (u : Unit) (hl : l.length < big) (hN : big ≤ N) : i_namesOfSrcs N (l, u) = some (namA l, ()) := by
  have hb : big = 1048577 := rfl
  unfold i_namesOfSrcs
  dsimp only
  rw [loop_names l (ByteArray.empty, ([] : List ByteArray), ([] : List ByteArray), ([] : List TT), ([] : List DT), ([] : List DT), ()) (·.1) ?h ?hd (by omega)]
  case hd => intro s; simp
  case h =>
    intro i s hi hs
    dsimp only
    rw [if_pos (decide_eq_true (lt_cast hi)), if_pos (inB_nat.2 hi), Int.toNat_natCast, if_pos (by simp; omega), wrap_nat (by omega)]
  rfl

/-- all is right, but that some may import one another in a ring -/
def okS (l : List ST) (s : ST) : Bool := srcB s && s.2.1.all (sIn (namA l))
def okL (l : List ST) : Bool := l.all (okS l) && onceB (namA l)

/-- lists of sources that are not too large -/
structure SmL (l : List ST) : Prop where
  len : l.length < big
  all : ∀ s ∈ l, SmS s
theorem smL {l : List ST} (h : wL w_Src l < big) : SmL l := by
  have h0 : wL w_Src l = l.length + sumW w_Src l := rfl
  refine ⟨by omega, fun s hs => smS ?_⟩
  have := sumW_mem (w := w_Src) hs
  omega

theorem e_s_ok (N : Nat) (l : List ST) (u : Unit) (h : SmL l) (hN : big ≤ N) : s_l12Ok N (l, u) = some (okL l, ()) := by
  have hb : big = 1048577 := rfl
  have hl := h.len
  unfold s_l12Ok okL
  dsimp only
  rw [iter_all (fun i => ((i : Int), ())) (fun i => srcB (l.getD i (ByteArray.empty, ([] : List ByteArray), ([] : List ByteArray), ([] : List TT), ([] : List DT), ([] : List DT), ())) && (newAt (namA l) i && (l.getD i (ByteArray.empty, ([] : List ByteArray), ([] : List ByteArray), ([] : List TT), ([] : List DT), ([] : List DT), ())).2.1.all (sIn (namA l)))) (n := l.length) (b := ()) (c := (false, ())) ?h ?hd (by omega) (x0 := (0, ())) rfl]
  case hd => simp
  case h =>
    intro i hi
    have hs := h.all _ (mem_getD (d := (ByteArray.empty, ([] : List ByteArray), ([] : List ByteArray), ([] : List TT), ([] : List DT), ([] : List DT), ())) hi)
    have him := hs.im
    simp only [lt_cast hi, decide_true, if_true, inB_nat, hi, Int.toNat_natCast]
    rw [e_s_src N _ () hs hN]
    simp only [Option.bind_some]
    cases srcB (l.getD i (ByteArray.empty, ([] : List ByteArray), ([] : List ByteArray), ([] : List TT), ([] : List DT), ([] : List DT), ())) with
    | false => rfl
    | true =>
      simp only [Bool.not_true, Bool.false_eq_true, if_false, Bool.true_and]
      rw [if_pos (show cutB 0 (i : Int) l.length from ⟨by omega, by omega, by omega⟩)]
      have e0 : List.drop (Int.toNat 0) (l.take i) = l.take i := rfl
      rw [e0, e_at N (l.take i) _ () (by simp; omega) hN]
      simp only [Option.bind_some]
      have e1 : decide (idxA (l.take i) (l.getD i (ByteArray.empty, ([] : List ByteArray), ([] : List ByteArray), ([] : List TT), ([] : List DT), ([] : List DT), ())).1 ≥ 0) = !newAt (namA l) i := by
        rw [idxA_nonneg, newAt, Bool.not_not, namA_getD hi]
        simp [namA]
      rw [e1]
      cases newAt (namA l) i with
      | false => rfl
      | true =>
        simp only [Bool.not_true, Bool.false_eq_true, if_false, Bool.true_and]
        rw [loop_all (l.getD i (ByteArray.empty, ([] : List ByteArray), ([] : List ByteArray), ([] : List TT), ([] : List DT), ([] : List DT), ())).2.1 eS (sIn (namA l)) (b := ()) (c := (false, ())) (by omega) ?h2 ?hd2 (by omega)]
        case hd2 => simp
        case h2 =>
          intro k hk
          dsimp only
          rw [if_pos (decide_eq_true (lt_cast hk)), if_pos (inB_nat.2 hk), Int.toNat_natCast, e_at N l _ () hl hN]
          dsimp only [Option.bind_some]
          rw [idxA_neg]
          cases sIn (namA l) ((l.getD i (ByteArray.empty, ([] : List ByteArray), ([] : List ByteArray), ([] : List TT), ([] : List DT), ([] : List DT), ())).2.1.getD k eS) <;> rfl
        rw [wrap_nat (by omega)]
        cases (l.getD i (ByteArray.empty, ([] : List ByteArray), ([] : List ByteArray), ([] : List TT), ([] : List DT), ([] : List DT), ())).2.1.all (sIn (namA l)) <;> rfl
  have e : (List.range l.length).all (fun i => srcB (l.getD i (ByteArray.empty, ([] : List ByteArray), ([] : List ByteArray), ([] : List TT), ([] : List DT), ([] : List DT), ())) && (newAt (namA l) i && (l.getD i (ByteArray.empty, ([] : List ByteArray), ([] : List ByteArray), ([] : List TT), ([] : List DT), ([] : List DT), ())).2.1.all (sIn (namA l)))) = (l.all (okS l) && onceB (namA l)) := by
    unfold onceB
    rw [← range_all_getD l (ByteArray.empty, ([] : List ByteArray), ([] : List ByteArray), ([] : List TT), ([] : List DT), ([] : List DT), ()) (okS l), namA_len, ← all_and']
    congr 1
    funext i
    unfold okS
    cases srcB (l.getD i (ByteArray.empty, ([] : List ByteArray), ([] : List ByteArray), ([] : List TT), ([] : List DT), ([] : List DT), ())) <;> cases newAt (namA l) i <;> simp
  rw [e]
  cases l.all (okS l) && onceB (namA l) <;> rfl

/-! ### which comes next -/
def rdy (out : List ByteArray) (s : ST) : Bool := !sIn out s.1 && s.2.1.all (sIn out)
def bestF (out : List ByteArray) (b : ByteArray) (s : ST) : ByteArray := if (rdy out s && (decide (b = eS) || ltS s.1 b)) = true then s.1 else b
def bestN (out : List ByteArray) (l : List ST) : ByteArray := l.foldl (bestF out) eS
def ordF (l : List ST) : Nat → List ByteArray → Option (List ByteArray)
  | 0, out => some out
  | n + 1, out => if bestN out l = eS then none else ordF l n (out ++ [bestN out l])

theorem loop_ord {B D : Type} {f : List ByteArray × Unit → Option (Step (List ByteArray × Unit) (List ByteArray × Unit) (List ByteArray × Bool × Unit))} {K : (List ByteArray × Unit) ⊕ (List ByteArray × Bool × Unit) → Option D} (l : List ST)
    (h : ∀ out, out.length < l.length → f (out, ()) = some (if bestN out l = eS then .ret ([], false, ()) else .more (out ++ [bestN out l], ()))) (hd : ∀ out, out.length = l.length → f (out, ()) = some (.done (out, ()))) :
    ∀ (n : Nat) (out : List ByteArray) (N : Nat), out.length + n = l.length → n < N → (iter f N (out, ())).bind K = match ordF l n out with
      | some o => K (.inl (o, ()))
      | none => K (.inr ([], false, ())) := by
  intro n
  induction n with
  | zero =>
    intro out N hlen hN
    obtain ⟨N, rfl⟩ : ∃ k, N = k + 1 := ⟨N - 1, by omega⟩
    simp only [iter, hd out (by omega), ordF, Option.bind_some]
  | succ n ih =>
    intro out N hlen hN
    obtain ⟨N, rfl⟩ : ∃ k, N = k + 1 := ⟨N - 1, by omega⟩
    simp only [iter, h out (by omega), ordF]
    by_cases hbe : bestN out l = eS
    · rw [if_pos hbe, if_pos hbe]; rfl
    · rw [if_neg hbe, if_neg hbe]
      exact ih _ N (by simp; omega) (by omega)

theorem e_s_order (N : Nat) (l : List ST) (u : Unit) (h : SmL l) (hN : big ≤ N) : s_l12Order N (l, u) = some (match ordF l l.length [] with
    | some o => (o, true, ())
    | none => ([], false, ())) := by
  have hb : big = 1048577 := rfl
  have hl := h.len
  have he : (ByteArray.mk #[]) = eS := rfl
  unfold s_l12Order
  dsimp only
  rw [loop_ord (B := Unit) l ?h ?hd l.length [] N (by simp) (by omega)]
  case hd => intro out ho; simp [ho]
  case h =>
    intro out ho
    dsimp only
    rw [if_pos (decide_eq_true (lt_cast ho))]
    rw [(loop_foldl (fun (b : ByteArray) (i : Nat) => (out, b, (i : Int), ())) (fun _ _ => True) (bestF out) (fun b => (out, b, ())) l (ByteArray.empty, ([] : List ByteArray), ([] : List ByteArray), ([] : List TT), ([] : List DT), ([] : List DT), ()) ?h2 ?hd2 eS (out, ByteArray.mk #[], 0, ()) rfl trivial (by omega)).1]
    case hd2 => intro b _; simp
    case h2 =>
      intro i b hi _
      refine ⟨?_, trivial⟩
      have hs := h.all _ (mem_getD (d := (ByteArray.empty, ([] : List ByteArray), ([] : List ByteArray), ([] : List TT), ([] : List DT), ([] : List DT), ())) hi)
      have him := hs.im
      dsimp only
      rw [if_pos (decide_eq_true (lt_cast hi)), if_pos (inB_nat.2 hi), Int.toNat_natCast, e_in N out _ () (by omega) hN]
      dsimp only [Option.bind_some]
      rw [e_all12 N _ out () him (by omega) hN, wrap_nat (by omega), he, if_pos (inB_nat.2 hi)]
      rw [show Op.bytesLess (ByteArray.toList (l.getD i (ByteArray.empty, ([] : List ByteArray), ([] : List ByteArray), ([] : List TT), ([] : List DT), ([] : List DT), ())).1) (ByteArray.toList b) = ltS (l.getD i (ByteArray.empty, ([] : List ByteArray), ([] : List ByteArray), ([] : List TT), ([] : List DT), ([] : List DT), ())).1 b from rfl]
      unfold bestF rdy
      cases sIn out (l.getD i (ByteArray.empty, ([] : List ByteArray), ([] : List ByteArray), ([] : List TT), ([] : List DT), ([] : List DT), ())).1 with
      | true => simp
      | false =>
        simp only [Bool.not_false, if_true, Option.bind_some, Bool.true_and]
        cases (l.getD i (ByteArray.empty, ([] : List ByteArray), ([] : List ByteArray), ([] : List TT), ([] : List DT), ([] : List DT), ())).2.1.all (sIn out) with
        | false => simp
        | true =>
          by_cases hbe : b = eS
          · simp [hbe]
          · cases ltS (l.getD i (ByteArray.empty, ([] : List ByteArray), ([] : List ByteArray), ([] : List TT), ([] : List DT), ([] : List DT), ())).1 b <;> simp [hbe]
    rw [show List.foldl (bestF out) eS l = bestN out l from rfl, he]
    dsimp only
    by_cases hbe : bestN out l = eS
    · rw [if_pos (decide_eq_true hbe), if_pos hbe]
    · rw [if_neg (fun hc => hbe (of_decide_eq_true hc)), if_neg hbe, if_pos (by simp; omega)]
  cases ordF l l.length [] <;> rfl

/-- what the program keeps: the place of the best one so far -/
def bestG (l : List ST) (out : List ByteArray) (q : Int × ByteArray × Nat) (s : ST) : Int × ByteArray × Nat :=
  (if (rdy out s && (decide (q.1 < 0) || ltS s.1 (l.getD q.1.toNat (ByteArray.empty, ([] : List ByteArray), ([] : List ByteArray), ([] : List TT), ([] : List DT), ([] : List DT), ())).1)) = true then (q.2.2 : Int) else q.1, bestF out q.2.1 s, q.2.2 + 1)
theorem bestG_snd (l : List ST) (out : List ByteArray) : ∀ (m : List ST) (q : Int × ByteArray × Nat), (m.foldl (bestG l out) q).2.1 = m.foldl (bestF out) q.2.1 := by
  intro m
  induction m with
  | nil => intro q; rfl
  | cons s m ih => intro q; simp only [List.foldl_cons]; rw [ih]; rfl

theorem e_i_order (N : Nat) (l : List ST) (u : Unit) (h : SmL l) (hne : ∀ s ∈ l, s.1 ≠ eS) (hN : big ≤ N) : i_order N (l, u) = some (match ordF l l.length [] with
    | some o => (o, true, ())
    | none => ([], false, ())) := by
  have hb : big = 1048577 := rfl
  have hl := h.len
  unfold i_order
  dsimp only
  rw [loop_ord (B := Unit) l ?h ?hd l.length [] N (by simp) (by omega)]
  case hd => intro out ho; simp [ho]
  case h =>
    intro out ho
    dsimp only
    rw [if_pos (decide_eq_true (lt_cast ho))]
    have key := loop_foldl (K := fun r => match r with
        | .inl y7 => (if (decide (y7.2.1 < 0)) = true then some (Step.ret (([] : List ByteArray), false, ())) else
            (if inB y7.2.1 (List.length l) then
            (if List.length y7.1 + List.length ([(List.getD l (Int.toNat y7.2.1) (ByteArray.empty, ([] : List ByteArray), ([] : List ByteArray), ([] : List TT), ([] : List DT), ([] : List DT), ())).1] : List (ByteArray)) ≤ 4294967296 then
            some (Step.more (A := List ByteArray × Unit) (B := List ByteArray × Unit) (y7.1 ++ ([(List.getD l (Int.toNat y7.2.1) (ByteArray.empty, ([] : List ByteArray), ([] : List ByteArray), ([] : List TT), ([] : List DT), ([] : List DT), ())).1] : List (ByteArray)), ())) else none) else none))
        | .inr z8 => some (Step.ret (z8.1, z8.2.1, ()))) (f := fun s2 : List ByteArray × Int × Int × Unit =>
(if (decide (s2.2.2.1 < (List.length l : Int))) = true then
(if inB s2.2.2.1 (List.length l) then
(g_slices_Contains_string_string_ N (s2.1, (List.getD l (Int.toNat s2.2.2.1) (ByteArray.empty, ([] : List ByteArray), ([] : List ByteArray), ([] : List TT), ([] : List DT), ([] : List DT), ())).1, ())).bind fun r3 =>
(if (!r3.1) = true then
(i_areIn N (((List.getD l (Int.toNat s2.2.2.1) (ByteArray.empty, ([] : List ByteArray), ([] : List ByteArray), ([] : List TT), ([] : List DT), ([] : List DT), ())).2).1, s2.1, ())).bind fun r4 =>
(if r4.1 = true then
(if (decide (s2.2.1 < 0)) = true then
  some (Step.more (s2.1, s2.2.2.1, IntKind.wrap .i64 (s2.2.2.1 + 1), ())) else (if inB s2.2.1 (List.length l) then
((if (Op.bytesLess (ByteArray.toList ((List.getD l (Int.toNat s2.2.2.1) (ByteArray.empty, ([] : List ByteArray), ([] : List ByteArray), ([] : List TT), ([] : List DT), ([] : List DT), ())).1)) (ByteArray.toList ((List.getD l (Int.toNat s2.2.1) (ByteArray.empty, ([] : List ByteArray), ([] : List ByteArray), ([] : List TT), ([] : List DT), ([] : List DT), ())).1))) = true then
  some (s2.1, s2.2.2.1, ()) else
  some (s2.1, s2.2.1, ())) : Option (List (ByteArray) × Int × Unit)).bind fun j5 =>
  some (Step.more (j5.1, j5.2.1, IntKind.wrap .i64 (s2.2.2.1 + 1), ())) else none)) else some (Step.more (s2.1, s2.2.1, IntKind.wrap .i64 (s2.2.2.1 + 1), ()))) else some (Step.more (s2.1, s2.2.1, IntKind.wrap .i64 (s2.2.2.1 + 1), ()))) else none) else
  some (Step.done (s2.1, s2.2.1, ()))))
      (C := List ByteArray × Bool × Unit) (fun (q : Int × ByteArray × Nat) (i : Nat) => (out, q.1, (i : Int), ()))
      (fun i q => q.2.2 = i ∧ i ≤ l.length ∧ ((q.1 = -1 ∧ q.2.1 = eS) ∨ ∃ m : Nat, m < i ∧ q.1 = (m : Int) ∧ (l.getD m (ByteArray.empty, ([] : List ByteArray), ([] : List ByteArray), ([] : List TT), ([] : List DT), ([] : List DT), ())).1 = q.2.1 ∧ q.2.1 ≠ eS)) (bestG l out) (fun q => (out, q.1, ())) l (ByteArray.empty, ([] : List ByteArray), ([] : List ByteArray), ([] : List TT), ([] : List DT), ([] : List DT), ()) ?h2 ?hd2 (N := N) (-1, eS, 0) (out, -1, 0, ()) rfl ⟨rfl, by omega, .inl ⟨rfl, rfl⟩⟩ (by omega)
    case hd2 => intro b _; simp
    case h2 =>
      rintro i ⟨k, b, j⟩ hi ⟨hj, _, hk⟩
      simp only at hj hk
      subst hj
      have hmem := mem_getD (d := (ByteArray.empty, ([] : List ByteArray), ([] : List ByteArray), ([] : List TT), ([] : List DT), ([] : List DT), ())) hi
      have hs := h.all _ hmem
      have him := hs.im
      have hn := hne _ hmem
      have hnext : ∀ g : Int × ByteArray × Nat, g = bestG l out (k, b, j) (l.getD j (ByteArray.empty, ([] : List ByteArray), ([] : List ByteArray), ([] : List TT), ([] : List DT), ([] : List DT), ())) → (g.2.2 = j + 1 ∧ j + 1 ≤ l.length ∧ ((g.1 = -1 ∧ g.2.1 = eS) ∨ ∃ m : Nat, m < j + 1 ∧ g.1 = (m : Int) ∧ (l.getD m (ByteArray.empty, ([] : List ByteArray), ([] : List ByteArray), ([] : List TT), ([] : List DT), ([] : List DT), ())).1 = g.2.1 ∧ g.2.1 ≠ eS)) := by
        rintro g rfl
        refine ⟨rfl, hi, ?_⟩
        unfold bestG bestF
        dsimp only
        rcases hk with ⟨rfl, rfl⟩ | ⟨m, hm, rfl, hm2, hm3⟩
        · have e1 : ∀ c : Bool, (rdy out (l.getD j (ByteArray.empty, ([] : List ByteArray), ([] : List ByteArray), ([] : List TT), ([] : List DT), ([] : List DT), ())) && (decide ((-1 : Int) < 0) || c)) = rdy out (l.getD j (ByteArray.empty, ([] : List ByteArray), ([] : List ByteArray), ([] : List TT), ([] : List DT), ([] : List DT), ())) := fun c => by rw [show decide ((-1 : Int) < 0) = true from rfl, Bool.true_or, Bool.and_true]
          have e2 : ∀ c : Bool, (rdy out (l.getD j (ByteArray.empty, ([] : List ByteArray), ([] : List ByteArray), ([] : List TT), ([] : List DT), ([] : List DT), ())) && (decide (eS = eS) || c)) = rdy out (l.getD j (ByteArray.empty, ([] : List ByteArray), ([] : List ByteArray), ([] : List TT), ([] : List DT), ([] : List DT), ())) := fun c => by rw [show decide (eS = eS) = true from decide_eq_true rfl, Bool.true_or, Bool.and_true]
          rw [e1, e2]
          by_cases hr : rdy out (l.getD j (ByteArray.empty, ([] : List ByteArray), ([] : List ByteArray), ([] : List TT), ([] : List DT), ([] : List DT), ())) = true
          · right
            rw [if_pos hr, if_pos hr]
            exact ⟨j, by omega, rfl, rfl, hn⟩
          · left
            rw [if_neg hr, if_neg hr]
            exact ⟨rfl, rfl⟩
        · right
          by_cases hr : (rdy out (l.getD j (ByteArray.empty, ([] : List ByteArray), ([] : List ByteArray), ([] : List TT), ([] : List DT), ([] : List DT), ())) && ltS (l.getD j (ByteArray.empty, ([] : List ByteArray), ([] : List ByteArray), ([] : List TT), ([] : List DT), ([] : List DT), ())).1 b) = true
          · have e1 : (rdy out (l.getD j (ByteArray.empty, ([] : List ByteArray), ([] : List ByteArray), ([] : List TT), ([] : List DT), ([] : List DT), ())) && (decide ((m : Int) < 0) || ltS (l.getD j (ByteArray.empty, ([] : List ByteArray), ([] : List ByteArray), ([] : List TT), ([] : List DT), ([] : List DT), ())).1 (l.getD (Int.toNat (m : Int)) (ByteArray.empty, ([] : List ByteArray), ([] : List ByteArray), ([] : List TT), ([] : List DT), ([] : List DT), ())).1)) = true := by
              rw [Int.toNat_natCast, hm2, show decide ((m : Int) < 0) = false from decide_eq_false (by omega), Bool.false_or]; exact hr
            have e2 : (rdy out (l.getD j (ByteArray.empty, ([] : List ByteArray), ([] : List ByteArray), ([] : List TT), ([] : List DT), ([] : List DT), ())) && (decide (b = eS) || ltS (l.getD j (ByteArray.empty, ([] : List ByteArray), ([] : List ByteArray), ([] : List TT), ([] : List DT), ([] : List DT), ())).1 b)) = true := by
              rw [show decide (b = eS) = false by simpa using hm3, Bool.false_or]; exact hr
            rw [if_pos e1, if_pos e2]
            exact ⟨j, by omega, rfl, rfl, hn⟩
          · have e1 : ¬ (rdy out (l.getD j (ByteArray.empty, ([] : List ByteArray), ([] : List ByteArray), ([] : List TT), ([] : List DT), ([] : List DT), ())) && (decide ((m : Int) < 0) || ltS (l.getD j (ByteArray.empty, ([] : List ByteArray), ([] : List ByteArray), ([] : List TT), ([] : List DT), ([] : List DT), ())).1 (l.getD (Int.toNat (m : Int)) (ByteArray.empty, ([] : List ByteArray), ([] : List ByteArray), ([] : List TT), ([] : List DT), ([] : List DT), ())).1)) = true := by
              rw [Int.toNat_natCast, hm2, show decide ((m : Int) < 0) = false from decide_eq_false (by omega), Bool.false_or]; exact hr
            have e2 : ¬ (rdy out (l.getD j (ByteArray.empty, ([] : List ByteArray), ([] : List ByteArray), ([] : List TT), ([] : List DT), ([] : List DT), ())) && (decide (b = eS) || ltS (l.getD j (ByteArray.empty, ([] : List ByteArray), ([] : List ByteArray), ([] : List TT), ([] : List DT), ([] : List DT), ())).1 b)) = true := by
              rw [show decide (b = eS) = false by simpa using hm3, Bool.false_or]; exact hr
            rw [if_neg e1, if_neg e2]
            exact ⟨m, by omega, rfl, hm2, hm3⟩
      refine ⟨?_, hnext _ rfl⟩
      dsimp only
      rw [if_pos (decide_eq_true (lt_cast hi)), if_pos (inB_nat.2 hi), Int.toNat_natCast, e_contains N out _ () (by omega) hN]
      dsimp only [Option.bind_some]
      rw [e_areIn N _ out () him (by omega) hN, wrap_nat (by omega)]
      rw [show Op.bytesLess (ByteArray.toList (l.getD j (ByteArray.empty, ([] : List ByteArray), ([] : List ByteArray), ([] : List TT), ([] : List DT), ([] : List DT), ())).1) (ByteArray.toList (l.getD (Int.toNat k) (ByteArray.empty, ([] : List ByteArray), ([] : List ByteArray), ([] : List TT), ([] : List DT), ([] : List DT), ())).1) = ltS (l.getD j (ByteArray.empty, ([] : List ByteArray), ([] : List ByteArray), ([] : List TT), ([] : List DT), ([] : List DT), ())).1 (l.getD (Int.toNat k) (ByteArray.empty, ([] : List ByteArray), ([] : List ByteArray), ([] : List TT), ([] : List DT), ([] : List DT), ())).1 from rfl]
      unfold bestG rdy
      dsimp only
      cases sIn out (l.getD j (ByteArray.empty, ([] : List ByteArray), ([] : List ByteArray), ([] : List TT), ([] : List DT), ([] : List DT), ())).1 with
      | true => simp
      | false =>
        simp only [Bool.not_false, if_true, Option.bind_some, Bool.true_and]
        cases (l.getD j (ByteArray.empty, ([] : List ByteArray), ([] : List ByteArray), ([] : List TT), ([] : List DT), ([] : List DT), ())).2.1.all (sIn out) with
        | false => simp
        | true =>
          simp only [if_true, Bool.true_and]
          rcases hk with ⟨rfl, rfl⟩ | ⟨m, hm, rfl, hm2, hm3⟩
          · simp
          · have e1 : ¬ (decide ((m : Int) < 0) = true) := fun hc => by have := of_decide_eq_true hc; omega
            have e2 : decide ((m : Int) < 0) = false := decide_eq_false (by omega)
            rw [if_neg e1, if_pos (inB_nat.2 (by omega)), e2, Bool.false_or]
            cases ltS (l.getD j (ByteArray.empty, ([] : List ByteArray), ([] : List ByteArray), ([] : List TT), ([] : List DT), ([] : List DT), ())).1 (l.getD (Int.toNat (m : Int)) (ByteArray.empty, ([] : List ByteArray), ([] : List ByteArray), ([] : List TT), ([] : List DT), ([] : List DT), ())).1 <;> rfl
    obtain ⟨key1, key2⟩ := key
    refine key1.trans ?_
    have hsnd := bestG_snd l out l (-1, eS, 0)
    rw [show List.foldl (bestF out) eS l = bestN out l from rfl] at hsnd
    generalize l.foldl (bestG l out) (-1, eS, 0) = q at hsnd key2
    obtain ⟨k, b, j⟩ := q
    simp only at hsnd key2
    subst hsnd
    obtain ⟨_, _, hk⟩ := key2
    dsimp only
    rcases hk with ⟨rfl, hbe⟩ | ⟨m, hm, rfl, hm2, hm3⟩
    · rw [if_pos (show decide ((-1 : Int) < 0) = true from rfl), if_pos hbe]
    · rw [if_neg (fun hc => by have := of_decide_eq_true hc; omega), if_neg hm3, if_pos (inB_nat.2 hm), Int.toNat_natCast, if_pos (by simp; omega), hm2]
  cases ordF l l.length [] <;> rfl
end Go.Rf

namespace Go.Rf

/-! ## Orders that are found are right -/
theorem nodup_len {α : Type} [DecidableEq α] : ∀ {a b : List α}, a.Nodup → (∀ x ∈ a, x ∈ b) → a.length ≤ b.length := by
  intro a
  induction a with
  | nil => intro b _ _; simp
  | cons x a ih =>
    intro b hn hs
    have hx := hs x (by simp)
    have hn' := List.nodup_cons.1 hn
    have h1 := ih (b := b.erase x) hn'.2 (fun y hy => (List.mem_erase_of_ne (fun e : y = x => hn'.1 (by rw [← e]; exact hy))).2 (hs y (by simp [hy])))
    have h2 := (List.perm_cons_erase hx).length_eq
    simp only [List.length_cons] at h2 ⊢
    omega
theorem nodup_perm {α : Type} [DecidableEq α] : ∀ {a b : List α}, a.Nodup → (∀ x ∈ a, x ∈ b) → b.length ≤ a.length → a.Perm b := by
  intro a
  induction a with
  | nil =>
    intro b _ _ h
    have : b = [] := List.eq_nil_of_length_eq_zero (by simpa using h)
    rw [this]
  | cons x a ih =>
    intro b hn hs hl
    have hx := hs x (by simp)
    have hn' := List.nodup_cons.1 hn
    have h2 := List.perm_cons_erase hx
    have h3 := h2.length_eq
    simp only [List.length_cons] at h3 hl
    have h1 := ih (b := b.erase x) hn'.2 (fun y hy => (List.mem_erase_of_ne (fun e : y = x => hn'.1 (by rw [← e]; exact hy))).2 (hs y (by simp [hy]))) (by omega)
    exact (List.Perm.cons x h1).trans h2.symm

structure GoodO (l : List ST) (out : List ByteArray) : Prop where
  nd : out.Nodup
  src : ∀ i, i < out.length → ∃ s ∈ l, s.1 = out.getD i eS ∧ s.2.1.all (sIn (out.take i)) = true

theorem bestF_fold (out : List ByteArray) : ∀ (m : List ST) (b : ByteArray), m.foldl (bestF out) b = b ∨ ∃ s ∈ m, rdy out s = true ∧ s.1 = m.foldl (bestF out) b := by
  intro m
  induction m with
  | nil => intro b; exact .inl rfl
  | cons s m ih =>
    intro b
    simp only [List.foldl_cons]
    rcases ih (bestF out b s) with h | ⟨t, h1, h2, h3⟩
    · rw [h]
      unfold bestF
      split
      · rename_i hc
        rw [Bool.and_eq_true] at hc
        exact .inr ⟨s, by simp, hc.1, rfl⟩
      · exact .inl rfl
    · exact .inr ⟨t, by simp [h1], h2, h3⟩

theorem rdy_iff {out : List ByteArray} {s : ST} : rdy out s = true ↔ s.1 ∉ out ∧ s.2.1.all (sIn out) = true := by
  unfold rdy
  rw [Bool.and_eq_true, Bool.not_eq_true', ← Bool.not_eq_true, sIn_iff]

theorem getD_snoc {α : Type} {l : List α} {x d : α} : (l ++ [x]).getD l.length d = x := by
  rw [List.getD_eq_getElem?_getD, List.getElem?_append_right (Nat.le_refl _)]; simp

theorem ordF_good (l : List ST) : ∀ (n : Nat) (out o : List ByteArray), GoodO l out → ordF l n out = some o → GoodO l o ∧ o.length = out.length + n := by
  intro n
  induction n with
  | zero => intro out o h e; cases e; exact ⟨h, rfl⟩
  | succ n ih =>
    intro out o h e
    unfold ordF at e
    split at e
    · cases e
    · rename_i hbe
      rcases bestF_fold out l eS with h1 | ⟨s, h1, h2, h3⟩
      · exact absurd h1 hbe
      · rw [show List.foldl (bestF out) eS l = bestN out l from rfl] at h3
        rw [rdy_iff] at h2
        have hg : GoodO l (out ++ [bestN out l]) := by
          refine ⟨List.nodup_append.2 ⟨h.nd, by simp, fun x hx y hy e => ?_⟩, fun i hi => ?_⟩
          · simp only [List.mem_singleton] at hy
            subst hy; subst e
            exact h2.1 (h3 ▸ hx)
          · simp only [List.length_append, List.length_singleton] at hi
            by_cases hlt : i < out.length
            · obtain ⟨t, t1, t2, t3⟩ := h.src i hlt
              refine ⟨t, t1, ?_, ?_⟩
              · rw [t2, getD_lt hlt, getD_lt (by simp; omega), List.getElem_append_left hlt]
              · rw [List.take_append_of_le_length (by omega)]; exact t3
            · have : i = out.length := by omega
              subst this
              refine ⟨s, h1, by rw [getD_snoc, h3], ?_⟩
              rw [List.take_append_of_le_length (Nat.le_refl _), List.take_length]; exact h2.2
        obtain ⟨k1, k2⟩ := ih _ _ hg e
        exact ⟨k1, by rw [k2]; simp; omega⟩

theorem isName_ne : isName eS = false := by decide +kernel

def ordR (l : List ST) : List ByteArray × Bool × Unit := if okL l = true then (match ordF l l.length [] with
  | some o => (o, true, ())
  | none => ([], false, ())) else ([], false, ())

theorem e_s_Order (N : Nat) (l : List ST) (u : Unit) (h : SmL l) (hN : big ≤ N) : s_Order N (l, u) = some (ordR l) := by
  unfold s_Order ordR
  dsimp only
  rw [e_s_ok N l () h hN, e_s_order N l () h hN]
  dsimp only [Option.bind_some]
  cases okL l with
  | false => rfl
  | true => cases ordF l l.length [] <;> rfl

theorem okL_ne {l : List ST} (h : l.all (okS l) = true) : ∀ s ∈ l, s.1 ≠ eS := by
  intro s hs e
  have h1 := List.all_eq_true.1 h s hs
  unfold okS srcB at h1
  rw [e, isName_ne] at h1
  simp at h1

theorem e_i_Order (N : Nat) (l : List ST) (u : Unit) (h : SmL l) (hN : big ≤ N) : i_Order N (l, u) = some (ordR l) := by
  have hb : big = 1048577 := rfl
  have hl := h.len
  unfold i_Order ordR okL
  dsimp only
  rw [e_namA N l () hl hN]
  dsimp only [Option.bind_some]
  rw [loop_allS (namA l) l (ByteArray.empty, ([] : List ByteArray), ([] : List ByteArray), ([] : List TT), ([] : List DT), ([] : List DT), ()) (okS l) (b := (namA l, ())) (c := ([], false, ())) (by omega) ?h ?hd (by omega)]
  case hd => simp
  case h =>
    intro i hi
    have hs := h.all _ (mem_getD (d := (ByteArray.empty, ([] : List ByteArray), ([] : List ByteArray), ([] : List TT), ([] : List DT), ([] : List DT), ())) hi)
    dsimp only
    rw [if_pos (decide_eq_true (lt_cast hi)), if_pos (inB_nat.2 hi), Int.toNat_natCast, e_i_src N _ () hs hN]
    dsimp only [Option.bind_some]
    rw [e_areIn N _ (namA l) () hs.im (by rw [namA_len]; exact hl) hN]
    unfold okS
    cases srcB (l.getD i (ByteArray.empty, ([] : List ByteArray), ([] : List ByteArray), ([] : List TT), ([] : List DT), ([] : List DT), ())) with
    | false => rfl
    | true => cases (l.getD i (ByteArray.empty, ([] : List ByteArray), ([] : List ByteArray), ([] : List TT), ([] : List DT), ([] : List DT), ())).2.1.all (sIn (namA l)) <;> rfl
  cases ha : l.all (okS l) with
  | false => rfl
  | true =>
    simp only [if_true, Option.bind_some, Bool.true_and]
    rw [e_isOnce N (namA l) () (by rw [namA_len]; exact hl) hN, e_i_order N l () h (okL_ne ha) hN]
    dsimp only [Option.bind_some]
    cases onceB (namA l) with
    | false => rfl
    | true => cases ordF l l.length [] <;> rfl

/-! ## What an order that was found tells -/
structure Ord (l : List ST) (o : List ByteArray) : Prop where
  good : GoodO l o
  len : o.length = l.length
  once : onceB (namA l) = true

theorem ordR_cases {l : List ST} : (∃ o, ordR l = (o, true, ()) ∧ Ord l o) ∨ ordR l = ([], false, ()) := by
  unfold ordR
  split
  · rename_i hok
    unfold okL at hok
    rw [Bool.and_eq_true] at hok
    cases e : ordF l l.length [] with
    | none => exact .inr rfl
    | some o =>
      obtain ⟨h1, h2⟩ := ordF_good l l.length [] o ⟨by simp, fun i hi => by simp at hi⟩ e
      exact .inl ⟨o, rfl, h1, by simpa using h2, hok.2⟩
  · exact .inr rfl

theorem Ord.mem {l : List ST} {o : List ByteArray} (h : Ord l o) : ∀ x ∈ o, x ∈ namA l := by
  intro x hx
  obtain ⟨i, hi, rfl⟩ := List.mem_iff_getElem.1 hx
  obtain ⟨s, h1, h2, _⟩ := h.good.src i hi
  rw [getD_lt hi] at h2
  exact List.mem_map.2 ⟨s, h1, h2⟩
theorem Ord.perm {l : List ST} {o : List ByteArray} (h : Ord l o) : o.Perm (namA l) :=
  nodup_perm h.good.nd h.mem (by rw [namA_len, h.len]; exact Nat.le_refl _)
theorem Ord.names {l : List ST} {o : List ByteArray} (h : Ord l o) : (namA l).Nodup := h.perm.nodup_iff.1 h.good.nd

/-- the place of a name -/
theorem idxA_of {l : List ST} (hn : (namA l).Nodup) {s : ST} (hs : s ∈ l) : ∃ j : Nat, j < l.length ∧ idxA l s.1 = (j : Int) ∧ l.getD j (ByteArray.empty, ([] : List ByteArray), ([] : List ByteArray), ([] : List TT), ([] : List DT), ([] : List DT), ()) = s := by
  obtain ⟨j, hj, rfl⟩ := List.mem_iff_getElem.1 hs
  refine ⟨j, hj, ?_, getD_lt hj⟩
  unfold idxA
  cases e : l.findIdx? (fun s => decide (s.1 = l[j].1)) with
  | none =>
    rw [List.findIdx?_eq_none_iff] at e
    have := e _ (List.getElem_mem hj)
    simp at this
  | some i =>
    rw [List.findIdx?_eq_some_iff_getElem] at e
    obtain ⟨hi, h1, _⟩ := e
    have h1 := of_decide_eq_true h1
    have e2 : (namA l)[i]'(by rw [namA_len]; exact hi) = (namA l)[j]'(by rw [namA_len]; exact hj) := by simpa [namA] using h1
    have : i = j := (List.getElem_inj hn).1 e2
    subst this; rfl

/-! ## Rows -/
def preL (l : List ST) (done : List ByteArray) : List ByteArray := (l.filter (rdy done)).map (·.1)
def rowL (l : List ST) (done : List ByteArray) : List ByteArray := sortL (preL l done)
def cnd (l : List ST) (done : List ByteArray) (x : ByteArray) : Bool := !sIn done x && (l.getD (idxA l x).toNat (ByteArray.empty, ([] : List ByteArray), ([] : List ByteArray), ([] : List TT), ([] : List DT), ([] : List DT), ())).2.1.all (sIn done)

theorem row_eq {l : List ST} {o : List ByteArray} (h : Ord l o) (done : List ByteArray) : (o.filter (cnd l done)).foldl putL [] = rowL l done := by
  have hn : ([] ++ o.filter (cnd l done)).Nodup := by
    rw [List.nil_append]; exact List.filter_sublist.nodup h.good.nd
  obtain ⟨h1, h2⟩ := foldl_putL (o.filter (cnd l done)) [] hn (by simp [Asc])
  rw [List.nil_append] at h2
  refine asc_sort h1 (h2.trans ?_)
  refine (h.perm.filter _).trans ?_
  unfold preL namA
  rw [List.filter_map]
  have e : l.filter (cnd l done ∘ fun x => x.1) = l.filter (rdy done) := by
    refine List.filter_congr fun s hs => ?_
    obtain ⟨j, hj, k1, k2⟩ := idxA_of h.names hs
    simp only [Function.comp, cnd, rdy]
    rw [k1, Int.toNat_natCast, k2]
  rw [e]

structure DoneOK (l : List ST) (done : List ByteArray) : Prop where
  nd : done.Nodup
  mem : ∀ x ∈ done, x ∈ namA l
theorem DoneOK.len {l : List ST} {done : List ByteArray} (h : DoneOK l done) : done.length ≤ l.length := by
  have := nodup_len h.nd h.mem
  rwa [namA_len] at this

theorem preL_mem {l : List ST} {done : List ByteArray} {x : ByteArray} (h : x ∈ preL l done) : x ∈ namA l ∧ x ∉ done := by
  obtain ⟨s, h1, rfl⟩ := List.mem_map.1 h
  obtain ⟨h1, h2⟩ := List.mem_filter.1 h1
  exact ⟨List.mem_map.2 ⟨s, h1, rfl⟩, (rdy_iff.1 h2).1⟩
theorem rowL_mem {l : List ST} {done : List ByteArray} {x : ByteArray} : x ∈ rowL l done ↔ x ∈ preL l done := (sortL_perm _).mem_iff
theorem preL_len (l : List ST) (done : List ByteArray) : (preL l done).length ≤ l.length := by
  unfold preL; rw [List.length_map]; exact List.length_filter_le _ _
theorem rowL_len (l : List ST) (done : List ByteArray) : (rowL l done).length ≤ l.length := by
  unfold rowL; rw [(sortL_perm _).length_eq]; exact preL_len l done

theorem row_step {l : List ST} {o : List ByteArray} (h : Ord l o) {done : List ByteArray} (hd : DoneOK l done) (hlt : done.length < l.length) : DoneOK l (done ++ rowL l done) ∧ 0 < (rowL l done).length := by
  constructor
  · refine ⟨List.nodup_append.2 ⟨hd.nd, ?_, fun x hx y hy e => ?_⟩, fun x hx => ?_⟩
    · refine (sortL_perm _).nodup_iff.2 ?_
      exact (List.filter_sublist.map _).nodup h.names
    · subst e
      exact (preL_mem (rowL_mem.1 hy)).2 hx
    · rcases List.mem_append.1 hx with hx | hx
      · exact hd.mem x hx
      · exact (preL_mem (rowL_mem.1 hx)).1
  · -- the first that is not done
    have key : ∀ k, k ≤ o.length → (∃ i, i < k ∧ o.getD i eS ∉ done ∧ ∀ j, j < i → o.getD j eS ∈ done) ∨ ∀ j, j < k → o.getD j eS ∈ done := by
      intro k
      induction k with
      | zero => intro _; exact .inr fun j hj => by omega
      | succ k ih =>
        intro hk
        rcases ih (by omega) with ⟨i, h1, h2⟩ | h1
        · exact .inl ⟨i, by omega, h2⟩
        · by_cases hm : o.getD k eS ∈ done
          · refine .inr fun j hj => ?_
            by_cases e : j = k
            · rw [e]; exact hm
            · exact h1 j (by omega)
          · exact .inl ⟨k, by omega, hm, h1⟩
    rcases key o.length (Nat.le_refl _) with ⟨i, h1, h2, h3⟩ | h1
    · obtain ⟨s, s1, s2, s3⟩ := h.good.src i h1
      have hr : rdy done s = true := by
        rw [rdy_iff]
        refine ⟨by rw [s2]; exact h2, List.all_eq_true.2 fun x hx => ?_⟩
        have hx := sIn_iff.1 (List.all_eq_true.1 s3 x hx)
        obtain ⟨j, hj, rfl⟩ := List.mem_iff_getElem.1 hx
        simp only [List.length_take] at hj
        have := h3 j (by omega)
        rw [getD_lt (by omega)] at this
        rw [sIn_iff, List.getElem_take]; exact this
      exact List.length_pos_of_mem (rowL_mem.2 (List.mem_map.2 ⟨s, List.mem_filter.2 ⟨s1, hr⟩, rfl⟩))
    · have := nodup_len h.good.nd (b := done) (fun x hx => by
        obtain ⟨i, hi, rfl⟩ := List.mem_iff_getElem.1 hx
        have := h1 i hi
        rwa [getD_lt hi] at this)
      rw [h.len] at this
      omega

def levF (l : List ST) : Nat → List (List ByteArray) → List ByteArray → List (List ByteArray)
  | 0, out, _ => out
  | n + 1, out, done => if done.length < l.length then levF l n (out ++ [rowL l done]) (done ++ rowL l done) else out

theorem loop_lev {A B C D : Type} {f : A → Option (Step A B C)} {K : B ⊕ C → Option D} {l : List ST} {o : List ByteArray} (ho : Ord l o) (enc : List (List ByteArray) → List ByteArray → A) (b : List (List ByteArray) → B)
    (h : ∀ out done, DoneOK l done → out.length ≤ done.length → done.length < l.length → f (enc out done) = some (.more (enc (out ++ [rowL l done]) (done ++ rowL l done))))
    (hd : ∀ out done, DoneOK l done → ¬ done.length < l.length → f (enc out done) = some (.done (b out))) : ∀ (n : Nat) (out : List (List ByteArray)) (done : List ByteArray) (N : Nat), DoneOK l done → out.length ≤ done.length → l.length ≤ done.length + n → n < N →
      (iter f N (enc out done)).bind K = K (.inl (b (levF l n out done))) := by
  intro n
  induction n with
  | zero =>
    intro out done N h1 h2 h3 hN
    obtain ⟨N, rfl⟩ : ∃ k, N = k + 1 := ⟨N - 1, by omega⟩
    simp only [iter, hd out done h1 (by omega), levF, Option.bind_some]
  | succ n ih =>
    intro out done N h1 h2 h3 hN
    obtain ⟨N, rfl⟩ : ∃ k, N = k + 1 := ⟨N - 1, by omega⟩
    unfold levF
    by_cases hlt : done.length < l.length
    · rw [if_pos hlt]
      simp only [iter, h out done h1 h2 hlt]
      obtain ⟨k1, k2⟩ := row_step ho h1 hlt
      exact ih _ _ N k1 (by simp; omega) (by simp; omega) (by omega)
    · rw [if_neg hlt]
      simp only [iter, hd out done h1 hlt, Option.bind_some]

theorem levF_small {l : List ST} {o : List ByteArray} (ho : Ord l o) : ∀ (n : Nat) (out : List (List ByteArray)) (done : List ByteArray), DoneOK l done → out.length ≤ done.length → (∀ r ∈ out, r.length ≤ l.length) →
    (levF l n out done).length ≤ l.length ∧ ∀ r ∈ levF l n out done, r.length ≤ l.length := by
  intro n
  induction n with
  | zero => intro out done h1 h2 h3; exact ⟨Nat.le_trans h2 h1.len, h3⟩
  | succ n ih =>
    intro out done h1 h2 h3
    unfold levF
    split
    · rename_i hlt
      obtain ⟨k1, k2⟩ := row_step ho h1 hlt
      refine ih _ _ k1 (by simp; omega) (fun r hr => ?_)
      rcases List.mem_append.1 hr with hr | hr
      · exact h3 r hr
      · rw [List.mem_singleton.1 hr]; exact rowL_len l done
    · exact ⟨Nat.le_trans h2 h1.len, h3⟩

def levR (l : List ST) : List (List ByteArray) := if (ordR l).2.1 = true then levF l l.length [] [] else []

theorem levR_small (l : List ST) : (levR l).length ≤ l.length ∧ ∀ r ∈ levR l, r.length ≤ l.length := by
  unfold levR
  rcases ordR_cases (l := l) with ⟨o, e, ho⟩ | e
  · rw [e, if_pos rfl]
    exact levF_small ho _ _ _ ⟨by simp, by simp⟩ (by simp) (by simp)
  · rw [e]; simp
end Go.Rf

namespace Go.Rf

theorem putL_len (l : List ByteArray) (s : ByteArray) : (putL l s).length ≤ l.length + 1 := by
  unfold putL
  split
  · omega
  · rw [insL_length]; omega

theorem foldl_rows {α β : Type} (p : α → Bool) (nm : α → β) : ∀ (m : List α) (r : List β), m.foldl (fun r s => if p s = true then r ++ [nm s] else r) r = r ++ (m.filter p).map nm := by
  intro m
  induction m with
  | nil => intro r; simp
  | cons s m ih =>
    intro r
    simp only [List.foldl_cons]
    rw [ih]
    by_cases hp : p s = true
    · rw [if_pos hp, List.filter_cons_of_pos hp]; simp
    · rw [if_neg hp, List.filter_cons_of_neg hp]

theorem e_s_Levels (N : Nat) (l : List ST) (u : Unit) (h : SmL l) (hN : big ≤ N) : s_Levels N (l, u) = some (levR l, ()) := by
  have hb : big = 1048577 := rfl
  have hl := h.len
  unfold s_Levels levR
  dsimp only
  rw [e_s_Order N l () h hN]
  dsimp only [Option.bind_some]
  rcases ordR_cases (l := l) with ⟨o, e, ho⟩ | e
  rotate_left
  · rw [e]
    obtain ⟨N, rfl⟩ : ∃ k, N = k + 1 := ⟨N - 1, by omega⟩
    simp [iter]
  · rw [e]
    have hol := ho.len
    have hmem := ho.mem
    simp only [if_true, Option.bind_some]
    rw [loop_lev ho (fun out done => (out, o, done, ())) (fun out => (out, ())) ?h ?hd l.length [] [] N ⟨by simp, by simp⟩ (by simp) (by simp) (by omega)]
    case hd =>
      intro out done hd hge
      dsimp only
      rw [if_neg (fun hc => by have := of_decide_eq_true hc; omega)]
    case h =>
      intro out done hd hle hlt
      have hdl := hd.len
      dsimp only
      rw [if_pos (decide_eq_true (by omega))]
      rw [(loop_foldl (fun (row : List ByteArray) (i : Nat) => (out, o, done, row, (i : Int), ())) (fun i row => row.length ≤ i) (fun row x => if cnd l done x = true then putL row x else row) (fun row => (out, o, done, row, ())) o eS ?h2 ?hd2 [] (out, o, done, [], 0, ()) rfl (by simp) (by omega)).1]
      case hd2 => intro row _; simp
      case h2 =>
        intro i row hi hr
        have hr : row.length ≤ i := hr
        have hm := hmem _ (mem_getD (d := eS) hi)
        obtain ⟨s, hs, hs1⟩ := List.mem_map.1 hm
        obtain ⟨j, hj, k1, k2⟩ := idxA_of ho.names hs
        have hs1 : s.1 = o.getD i eS := hs1
        rw [hs1] at k1
        have him := (h.all s hs).im
        have hpl := putL_len row (o.getD i eS)
        dsimp only
        rw [if_pos (decide_eq_true (lt_cast hi)), if_pos (inB_nat.2 hi), Int.toNat_natCast, e_in N done _ () (by omega) hN]
        dsimp only [Option.bind_some]
        rw [e_at N l _ () hl hN]
        dsimp only [Option.bind_some]
        unfold cnd
        rw [k1, if_pos (inB_nat.2 hj), Int.toNat_natCast, k2, e_all12 N _ done () him (by omega) hN, if_pos (inB_nat.2 hi), e_put N row _ () (by omega) hN, wrap_nat (by omega)]
        dsimp only [Option.bind_some]
        cases sIn done (o.getD i eS) with
        | true =>
          simp only [Bool.not_true, Bool.false_eq_true, if_false, Option.bind_some, Bool.false_and]
          exact ⟨by first | rfl | trivial, by omega⟩
        | false =>
          simp only [Bool.not_false, if_true, Option.bind_some, Bool.true_and]
          cases s.2.1.all (sIn done) with
          | false =>
            simp only [Bool.false_eq_true, if_false, Option.bind_some]
            exact ⟨by first | rfl | trivial, by omega⟩
          | true =>
            simp only [if_true, Option.bind_some, inB_nat, hi]
            exact ⟨by first | rfl | trivial, by omega⟩
      have hrow : o.foldl (fun row x => if cnd l done x = true then putL row x else row) [] = rowL l done := by
        rw [← row_eq ho done, List.foldl_filter]
      have hrl := rowL_len l done
      rw [hrow]
      dsimp only
      rw [getD_snoc, if_pos (by simp; omega), if_pos (by omega)]

theorem e_i_Levels (N : Nat) (l : List ST) (u : Unit) (h : SmL l) (hN : big ≤ N) : i_Levels N (l, u) = some (levR l, ()) := by
  have hb : big = 1048577 := rfl
  have hl := h.len
  unfold i_Levels levR
  dsimp only
  rw [e_i_Order N l () h hN]
  dsimp only [Option.bind_some]
  rcases ordR_cases (l := l) with ⟨o, e, ho⟩ | e
  rotate_left
  · rw [e]; rfl
  · rw [e]
    simp only [Bool.not_true, Bool.false_eq_true, if_false, if_true]
    rw [loop_lev ho (fun out done => (out, done, ())) (fun out => (out, ())) ?h ?hd l.length [] [] N ⟨by simp, by simp⟩ (by simp) (by simp) (by omega)]
    case hd =>
      intro out done hd hge
      dsimp only
      rw [if_neg (fun hc => by have := of_decide_eq_true hc; omega)]
    case h =>
      intro out done hd hle hlt
      have hdl := hd.len
      dsimp only
      rw [if_pos (decide_eq_true (by omega))]
      rw [(loop_foldl (fun (row : List ByteArray) (i : Nat) => (out, done, row, (i : Int), ())) (fun i row => row.length ≤ i) (fun row s => if rdy done s = true then row ++ [s.1] else row) (fun row => (out, done, row, ())) l (ByteArray.empty, ([] : List ByteArray), ([] : List ByteArray), ([] : List TT), ([] : List DT), ([] : List DT), ()) ?h2 ?hd2 [] (out, done, [], 0, ()) rfl (by simp) (by omega)).1]
      case hd2 => intro row _; simp
      case h2 =>
        intro i row hi hr
        have hr : row.length ≤ i := hr
        have hs := h.all _ (mem_getD (d := (ByteArray.empty, ([] : List ByteArray), ([] : List ByteArray), ([] : List TT), ([] : List DT), ([] : List DT), ())) hi)
        dsimp only
        rw [if_pos (decide_eq_true (lt_cast hi)), if_pos (inB_nat.2 hi), Int.toNat_natCast, e_contains N done _ () (by omega) hN]
        dsimp only [Option.bind_some]
        rw [e_areIn N _ done () hs.im (by omega) hN, wrap_nat (by omega)]
        unfold rdy
        dsimp only [Option.bind_some]
        cases sIn done (l.getD i (ByteArray.empty, ([] : List ByteArray), ([] : List ByteArray), ([] : List TT), ([] : List DT), ([] : List DT), ())).1 with
        | true =>
          simp only [Bool.not_true, Bool.false_eq_true, if_false, Option.bind_some, Bool.false_and]
          exact ⟨by first | rfl | trivial, by omega⟩
        | false =>
          simp only [Bool.not_false, if_true, Option.bind_some, Bool.true_and]
          cases (l.getD i (ByteArray.empty, ([] : List ByteArray), ([] : List ByteArray), ([] : List TT), ([] : List DT), ([] : List DT), ())).2.1.all (sIn done) with
          | false =>
            simp only [Bool.false_eq_true, if_false, Option.bind_some]
            exact ⟨by first | rfl | trivial, by omega⟩
          | true =>
            simp only [if_true]
            rw [if_pos (by simp; omega)]
            exact ⟨by first | rfl | trivial, by simp; omega⟩
      have hrow : l.foldl (fun row s => if rdy done s = true then row ++ [s.1] else row) [] = preL l done := by
        rw [foldl_rows (rdy done) (fun s : ST => s.1)]; rfl
      have hpl := preL_len l done
      have hrl := rowL_len l done
      rw [hrow]
      unfold g_slices_Sort_string_string_
      dsimp only
      rw [if_pos (show List.length (preL l done) ≤ 4294967296 by omega)]
      dsimp only [Option.bind_some]
      rw [show sortL (preL l done) = rowL l done from rfl, getD_snoc, if_pos (by simp; omega), if_pos (by omega)]

/-- THE LAW, WITH NO PROGRAM IN SIGHT -/
theorem l_FnExactLevels_true (N : Nat) (x : List ST × Unit) (hx : x.1.length ≤ lim ∧ ∀ s ∈ x.1, F_Src s) (hN : lim < N) : l_FnExactLevels N x = some (true, ()) := by
  obtain ⟨x, u⟩ := x
  simp only at hx
  have hbig : big = 1048577 := rfl
  have hlim : lim = 9223372036854775807 := rfl
  have hcap : capB = 1152921504606846976 := rfl
  unfold l_FnExactLevels
  dsimp only
  rcases p_szSrcS (N := N) x 1048576 () (by omega) (by omega) hx.1 hx.2 hN with h1 | ⟨h1, h2⟩
  · rw [h1]; rfl
  rw [h1]
  dsimp only [Option.bind_some]
  rw [if_neg (fun hc => by have := of_decide_eq_true hc; omega)]
  have hw : wL w_Src x < big := by omega
  have hS := smL hw
  have hxl := hS.len
  rw [e_toSrcS N x () hw (by omega)]
  dsimp only [Option.bind_some]
  rw [e_s_Levels N x () hS (by omega)]
  dsimp only [Option.bind_some]
  rw [e_i_Levels N x () hS (by omega)]
  dsimp only [Option.bind_some]
  obtain ⟨hg1, hg2⟩ := levR_small x
  generalize levR x = g at hg1 hg2
  have hc := sumW_le (k := 64) (b := 1) (by omega) cle_SrcA x
  obtain ⟨l', m, e1, a1, b1⟩ := p_markSrcS hN x 1 () (by omega) (by omega) hw
  have hgs : ∀ r ∈ g, r.length < big := fun r hr => by have := hg2 r hr; omega
  rw [e_eqStrSS N g () (by omega) hgs (by omega)]
  dsimp only [Option.bind_some]
  rw [e_eqSrcS N x () hw (by omega)]
  dsimp only [Option.bind_some]
  rw [e1]
  dsimp only [Option.bind_some]
  have hsum : sumL cSS g ≤ 1048577 * (g.length : Int) := sumL_le (P := fun r => r.length < big) (fun r hr => by rw [cSS, sumL_one]; omega) g hgs
  have hsn := sumL_nonneg cSS_nonneg g
  rw [e_markStringSS hN g 1 (by omega) (by omega) (by omega) hgs]
  dsimp only [Option.bind_some]
  rw [e_heldStringSS hN g 1 (by omega) (by omega) (by omega) hgs]
  dsimp only [Option.bind_some]
  have hm : ¬ (m < 0) := by omega
  have hk : ¬ ((1 : Int) + sumL cSS g < 0) := by omega
  simp [hm, hk]
end Go.Rf
