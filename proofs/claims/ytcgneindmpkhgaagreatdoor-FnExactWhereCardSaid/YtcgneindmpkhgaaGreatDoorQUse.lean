/-
  The plain function of FnExactWhere returns true, whatever is put in within the form's bounds: where a name is exported; marks stay where they are put.
-/
import Derived.Test.YtcgneindmpkhgaaGreatDoorQWld
set_option linter.unusedSimpArgs false
set_option linter.unusedVariables false
set_option autoImplicit false
namespace Go.Rf
attribute [local irreducible] IntKind.wrap
def Okm {α:Type} (o:Option α) (P:α→Prop):Prop:=∃ y,o = some y ∧ P y
theorem Okm.bind {α β:Type} {o:Option α} {k:α→Option β} {P:α→Prop} {Q:β→Prop} (h:Okm o P) (hk:∀ y,P y→Okm (k y) Q):Okm (o.bind k) Q:=by
 obtain ⟨y,e,p⟩:=h
 rw [e]
 exact hk y p
theorem Okm.ifB {α β:Type} {pre post:List α} {y:α} {e:Option β} {Q:β→Prop} (h:Okm e Q):Okm (if inB (pre.length:Int) (pre ++ y :: post).length then e else none) Q:=by
 rw [if_pos inB_mid]
 exact h
theorem Okm.set {α β:Type} {pre post:List α} {y v:α} {k:List α→Option β} {Q:β→Prop} (K:α→Prop) (hK:K v) (h:∀ z,K z→Okm (k (pre ++ z :: post)) Q):Okm ((some (List.set (pre ++ y :: post) (Int.toNat (pre.length:Int)) v):Option (List α)).bind k) Q:=by
 rw [set_mid]
 exact h v hK
theorem Okm.mark {α:Type} {F:List α×Int×Unit→Option (Int×List α×Unit)} {l0 l:List α} {m0 m:Int} {c:Nat} (hl:l0 = l) (hm:m0 = m) (h:∃ l' m',F (l,m,()) = some (m',l',()) ∧ m ≤ m' ∧ m' ≤ m + (c:Int)):Okm (F (l0,m0,())) (fun r=>m ≤ r.1 ∧ r.1 ≤ m + (c:Int)):=by
 subst hl;subst hm
 obtain ⟨l',m',e,a,b⟩:=h
 exact ⟨_,e,a,b⟩
theorem Okm.step {α C:Type} {f:List α×Int×Int×Unit→Option (Step (List α×Int×Int×Unit) (List α×Int×Unit) C)} {pre post:List α} {x:α} {m:Int} {c:Nat}
  (h:Okm (f (pre ++ x :: post,m,(pre.length:Int),())) (fun s=>∃ x' m',s = .more (pre ++ x' :: post,m',((pre.length + 1:Nat):Int),()) ∧ m ≤ m' ∧ m' ≤ m + (c:Int))) :
  ∃ x' m',f (pre ++ x :: post,m,(pre.length:Int),()) = some (.more (pre ++ x' :: post,m',((pre.length + 1:Nat):Int),())) ∧ m ≤ m' ∧ m' ≤ m + (c:Int):=by
 obtain ⟨s,e,x',m',rfl,a,b⟩:=h
 exact ⟨x',m',e,a,b⟩
def c_Value (x:VT):Nat:=3 + 0
theorem cle_Value (x:VT):c_Value x ≤ 3 + 64 * w_Value x:=by
 simp only [c_Value,w_Value]
 omega
theorem p_markValueS {N:Nat} (hN:lim < N) (l:List VT) (m:Int) (u:Unit) (hm:0 < m) (hB:m + (sumW c_Value l:Int) ≤ capB) (hw:wL w_Value l < big):∃ l' m',l_markValueS N (l,m,u) = some (m',l',()) ∧ m ≤ m' ∧ m' ≤ m + (sumW c_Value l:Int):=by
 have hlim:lim = 9223372036854775807:=rfl
 have hbig:big = 1048577:=rfl
 have hcap:capB = 1152921504606846976:=rfl
 have hl:l.length ≤ wL w_Value l:=Nat.le_add_right _ _
 unfold l_markValueS
 dsimp only
 refine loop_mark_k (c:=c_Value) (P:=fun x=>w_Value x < big) (B:=capB) ?hstep ?hdone (fun _ _=>rfl) l m (fun x hx=>?hP) (by omega) hm hB (by omega)
 case hP=>have:=sumW_mem (w:=w_Value) hx;have e0:wL w_Value l = l.length + sumW w_Value l:=rfl;omega
 case hdone=>intro l m;dsimp only;rw [if_neg (by simp)]
 case hstep =>
  intro pre x post m hx hlen hm hB
  have hc:c_Value x = 3 + 0:=rfl
  have hw:(x.2.2.1.size + 0) < big:=hx
  dsimp only
  rw [if_pos lt_mid]
  rw [if_pos inB_mid,getD_mid,set_mid]
  try dsimp only [Option.bind_some]
  rw [wrap_cap (m:=m + 1) (by omega) (by omega)]
  rw [if_pos inB_mid,getD_mid,set_mid]
  try dsimp only [Option.bind_some]
  rw [wrap_cap (m:=m + 1 + 1) (by omega) (by omega)]
  rw [e_markText (m:=m + 1 + 1) (by omega) (by omega) hN]
  try dsimp only [Option.bind_some]
  rw [if_pos inB_mid,getD_mid,set_mid]
  try dsimp only [Option.bind_some]
  rw [wrap_cap (m:=m + 1 + 1 + 1) (by omega) (by omega)]
  rw [wrap_mid hlen]
  exact ⟨_,_,rfl,by omega,by omega⟩
def c_Cell (x:CT):Nat:=4 + (x.2.2.2.2.1.length + (sumW c_Value x.2.2.2.2.2.1 + 0))
theorem cle_Cell (x:CT):c_Cell x ≤ 4 + 64 * w_Cell x:=by
 have h0:x.2.2.2.2.1.length ≤ wL wStr x.2.2.2.2.1:=Nat.le_add_right _ _
 have h1:=sumW_le (k:=64) (b:=3) (by omega) cle_Value x.2.2.2.2.2.1
 simp only [c_Cell,w_Cell]
 omega
theorem p_markCellS {N:Nat} (hN:lim < N) (l:List CT) (m:Int) (u:Unit) (hm:0 < m) (hB:m + (sumW c_Cell l:Int) ≤ capB) (hw:wL w_Cell l < big):∃ l' m',l_markCellS N (l,m,u) = some (m',l',()) ∧ m ≤ m' ∧ m' ≤ m + (sumW c_Cell l:Int):=by
 have hlim:lim = 9223372036854775807:=rfl
 have hbig:big = 1048577:=rfl
 have hcap:capB = 1152921504606846976:=rfl
 have hl:l.length ≤ wL w_Cell l:=Nat.le_add_right _ _
 unfold l_markCellS
 dsimp only
 refine loop_mark_k (c:=c_Cell) (P:=fun x=>w_Cell x < big) (B:=capB) ?hstep ?hdone (fun _ _=>rfl) l m (fun x hx=>?hP) (by omega) hm hB (by omega)
 case hP=>have:=sumW_mem (w:=w_Cell) hx;have e0:wL w_Cell l = l.length + sumW w_Cell l:=rfl;omega
 case hdone=>intro l m;dsimp only;rw [if_neg (by simp)]
 case hstep =>
  intro pre x post m hx hlen hm hB
  have hc:c_Cell x = 4 + (x.2.2.2.2.1.length + (sumW c_Value x.2.2.2.2.2.1 + 0)):=rfl
  have hw:(x.2.1.size + (wL wStr x.2.2.2.2.1 + (wL w_Value x.2.2.2.2.2.1 + 0))) < big:=hx
  dsimp only
  rw [if_pos lt_mid]
  rw [if_pos inB_mid,getD_mid,set_mid]
  try dsimp only [Option.bind_some]
  rw [wrap_cap (m:=m + 1) (by omega) (by omega)]
  rw [e_markText (m:=m + 1) (by omega) (by omega) hN]
  try dsimp only [Option.bind_some]
  rw [if_pos inB_mid,getD_mid,set_mid]
  try dsimp only [Option.bind_some]
  rw [wrap_cap (m:=m + 1 + 1) (by omega) (by omega)]
  rw [if_pos inB_mid,getD_mid,set_mid]
  try dsimp only [Option.bind_some]
  rw [wrap_cap (m:=m + 1 + 1 + 1) (by omega) (by omega)]
  rw [if_pos inB_mid,getD_mid,set_mid]
  try dsimp only [Option.bind_some]
  rw [wrap_cap (m:=m + 1 + 1 + 1 + 1) (by omega) (by omega)]
  rw [if_pos inB_mid,getD_mid]
  obtain ⟨l4,m4,e4,a4,b4⟩:=p_markStrS hN x.2.2.2.2.1 (m + 1 + 1 + 1 + 1) () (by omega) (by omega) (by have e0:wL wStr x.2.2.2.2.1 = x.2.2.2.2.1.length + sumW wStr x.2.2.2.2.1:=rfl;omega)
  try dsimp only
  rw [e4]
  try dsimp only [Option.bind_some]
  rw [set_mid]
  try dsimp only [Option.bind_some]
  rw [if_pos inB_mid,getD_mid]
  obtain ⟨l5,m5,e5,a5,b5⟩:=p_markValueS hN x.2.2.2.2.2.1 (m4) () (by omega) (by omega) (by omega)
  try dsimp only
  rw [e5]
  try dsimp only [Option.bind_some]
  rw [set_mid]
  try dsimp only [Option.bind_some]
  rw [wrap_mid hlen]
  exact ⟨_,_,rfl,by omega,by omega⟩
def c_Link (x:LT):Nat:=3 + 0
theorem cle_Link (x:LT):c_Link x ≤ 3 + 64 * w_Link x:=by
 simp only [c_Link,w_Link]
 omega
theorem p_markLinkS {N:Nat} (hN:lim < N) (l:List LT) (m:Int) (u:Unit) (hm:0 < m) (hB:m + (sumW c_Link l:Int) ≤ capB) (hw:wL w_Link l < big):∃ l' m',l_markLinkS N (l,m,u) = some (m',l',()) ∧ m ≤ m' ∧ m' ≤ m + (sumW c_Link l:Int):=by
 have hlim:lim = 9223372036854775807:=rfl
 have hbig:big = 1048577:=rfl
 have hcap:capB = 1152921504606846976:=rfl
 have hl:l.length ≤ wL w_Link l:=Nat.le_add_right _ _
 unfold l_markLinkS
 dsimp only
 refine loop_mark_k (c:=c_Link) (P:=fun x=>w_Link x < big) (B:=capB) ?hstep ?hdone (fun _ _=>rfl) l m (fun x hx=>?hP) (by omega) hm hB (by omega)
 case hP=>have:=sumW_mem (w:=w_Link) hx;have e0:wL w_Link l = l.length + sumW w_Link l:=rfl;omega
 case hdone=>intro l m;dsimp only;rw [if_neg (by simp)]
 case hstep =>
  intro pre x post m hx hlen hm hB
  have hc:c_Link x = 3 + 0:=rfl
  have hw:(x.1.size + (x.2.2.1.size + 0)) < big:=hx
  dsimp only
  rw [if_pos lt_mid]
  rw [e_markText (m:=m) (by omega) (by omega) hN]
  try dsimp only [Option.bind_some]
  rw [if_pos inB_mid,getD_mid,set_mid]
  try dsimp only [Option.bind_some]
  rw [wrap_cap (m:=m + 1) (by omega) (by omega)]
  rw [if_pos inB_mid,getD_mid,set_mid]
  try dsimp only [Option.bind_some]
  rw [wrap_cap (m:=m + 1 + 1) (by omega) (by omega)]
  rw [e_markText (m:=m + 1 + 1) (by omega) (by omega) hN]
  try dsimp only [Option.bind_some]
  rw [if_pos inB_mid,getD_mid,set_mid]
  try dsimp only [Option.bind_some]
  rw [wrap_cap (m:=m + 1 + 1 + 1) (by omega) (by omega)]
  rw [wrap_mid hlen]
  exact ⟨_,_,rfl,by omega,by omega⟩
def c_Inst (x:IT):Nat:=2 + (x.2.2.1.length + (sumW c_Value x.2.2.2.1 + (sumW c_Link x.2.2.2.2.1 + (sumW c_Type x.2.2.2.2.2.1 + 0))))
theorem cle_Inst (x:IT):c_Inst x ≤ 2 + 64 * w_Inst x:=by
 have h0:x.2.2.1.length ≤ wL wStr x.2.2.1:=Nat.le_add_right _ _
 have h1:=sumW_le (k:=64) (b:=3) (by omega) cle_Value x.2.2.2.1
 have h2:=sumW_le (k:=64) (b:=3) (by omega) cle_Link x.2.2.2.2.1
 have h3:=sumW_le (k:=64) (b:=2) (by omega) cle_Type x.2.2.2.2.2.1
 simp only [c_Inst,w_Inst]
 omega
theorem p_markInstS {N:Nat} (hN:lim < N) (l:List IT) (m:Int) (u:Unit) (hm:0 < m) (hB:m + (sumW c_Inst l:Int) ≤ capB) (hw:wL w_Inst l < big):∃ l' m',l_markInstS N (l,m,u) = some (m',l',()) ∧ m ≤ m' ∧ m' ≤ m + (sumW c_Inst l:Int):=by
 have hlim:lim = 9223372036854775807:=rfl
 have hbig:big = 1048577:=rfl
 have hcap:capB = 1152921504606846976:=rfl
 have hl:l.length ≤ wL w_Inst l:=Nat.le_add_right _ _
 unfold l_markInstS
 dsimp only
 refine loop_mark_k (c:=c_Inst) (P:=fun x=>w_Inst x < big) (B:=capB) ?hstep ?hdone (fun _ _=>rfl) l m (fun x hx=>?hP) (by omega) hm hB (by omega)
 case hP=>have:=sumW_mem (w:=w_Inst) hx;have e0:wL w_Inst l = l.length + sumW w_Inst l:=rfl;omega
 case hdone=>intro l m;dsimp only;rw [if_neg (by simp)]
 case hstep =>
  intro pre x post m hx hlen hm hB
  have hc:c_Inst x = 2 + (x.2.2.1.length + (sumW c_Value x.2.2.2.1 + (sumW c_Link x.2.2.2.2.1 + (sumW c_Type x.2.2.2.2.2.1 + 0)))):=rfl
  have hw:(x.1.size + (wL wStr x.2.2.1 + (wL w_Value x.2.2.2.1 + (wL w_Link x.2.2.2.2.1 + (wL w_Type x.2.2.2.2.2.1 + 0))))) < big:=hx
  dsimp only
  rw [if_pos lt_mid]
  rw [e_markText (m:=m) (by omega) (by omega) hN]
  try dsimp only [Option.bind_some]
  rw [if_pos inB_mid,getD_mid,set_mid]
  try dsimp only [Option.bind_some]
  rw [wrap_cap (m:=m + 1) (by omega) (by omega)]
  rw [if_pos inB_mid,getD_mid,set_mid]
  try dsimp only [Option.bind_some]
  rw [wrap_cap (m:=m + 1 + 1) (by omega) (by omega)]
  rw [if_pos inB_mid,getD_mid]
  obtain ⟨l2,m2,e2,a2,b2⟩:=p_markStrS hN x.2.2.1 (m + 1 + 1) () (by omega) (by omega) (by have e0:wL wStr x.2.2.1 = x.2.2.1.length + sumW wStr x.2.2.1:=rfl;omega)
  try dsimp only
  rw [e2]
  try dsimp only [Option.bind_some]
  rw [set_mid]
  try dsimp only [Option.bind_some]
  rw [if_pos inB_mid,getD_mid]
  obtain ⟨l3,m3,e3,a3,b3⟩:=p_markValueS hN x.2.2.2.1 (m2) () (by omega) (by omega) (by omega)
  try dsimp only
  rw [e3]
  try dsimp only [Option.bind_some]
  rw [set_mid]
  try dsimp only [Option.bind_some]
  rw [if_pos inB_mid,getD_mid]
  obtain ⟨l4,m4,e4,a4,b4⟩:=p_markLinkS hN x.2.2.2.2.1 (m3) () (by omega) (by omega) (by omega)
  try dsimp only
  rw [e4]
  try dsimp only [Option.bind_some]
  rw [set_mid]
  try dsimp only [Option.bind_some]
  rw [if_pos inB_mid,getD_mid]
  obtain ⟨l5,m5,e5,a5,b5⟩:=p_markTypeS hN x.2.2.2.2.2.1 (m4) () (by omega) (by omega) (by omega)
  try dsimp only
  rw [e5]
  try dsimp only [Option.bind_some]
  rw [set_mid]
  try dsimp only [Option.bind_some]
  rw [wrap_mid hlen]
  exact ⟨_,_,rfl,by omega,by omega⟩
def c_Unit (x:UT):Nat:=2 + (sumW c_Node x.2.1.1 + 0)
theorem cle_Unit (x:UT):c_Unit x ≤ 2 + 64 * w_Unit x:=by
 have h0:=sumW_le (k:=64) (b:=3) (by omega) cle_Node x.2.1.1
 simp only [c_Unit,w_Unit,w_Prog]
 omega
theorem p_markUnitS {N:Nat} (hN:lim < N) (l:List UT) (m:Int) (u:Unit) (hm:0 < m) (hB:m + (sumW c_Unit l:Int) ≤ capB) (hw:wL w_Unit l < big):∃ l' m',l_markUnitS N (l,m,u) = some (m',l',()) ∧ m ≤ m' ∧ m' ≤ m + (sumW c_Unit l:Int):=by
 have hlim:lim = 9223372036854775807:=rfl
 have hbig:big = 1048577:=rfl
 have hcap:capB = 1152921504606846976:=rfl
 have hl:l.length ≤ wL w_Unit l:=Nat.le_add_right _ _
 unfold l_markUnitS
 dsimp only
 refine loop_mark_k (c:=c_Unit) (P:=fun x=>w_Unit x < big) (B:=capB) ?hstep ?hdone (fun _ _=>rfl) l m (fun x hx=>?hP) (by omega) hm hB (by omega)
 case hP=>have:=sumW_mem (w:=w_Unit) hx;have e0:wL w_Unit l = l.length + sumW w_Unit l:=rfl;omega
 case hdone=>intro l m;dsimp only;rw [if_neg (by simp)]
 case hstep =>
  intro pre x post m hx hlen hm hB
  have hc:c_Unit x = 2 + (sumW c_Node x.2.1.1 + 0):=rfl
  have hw:(w_Prog x.2.1 + 0) < big:=hx
  have hs1:w_Prog x.2.1 = (wL w_Node x.2.1.1 + 0):=rfl
  dsimp only
  rw [if_pos lt_mid]
  rw [if_pos inB_mid,getD_mid,set_mid]
  try dsimp only [Option.bind_some]
  rw [wrap_cap (m:=m + 1) (by omega) (by omega)]
  rw [if_pos inB_mid,getD_mid]
  obtain ⟨l1,m1,e1,a1,b1⟩:=p_markNodeS hN x.2.1.1 (m + 1) () (by omega) (by omega) (by omega)
  try dsimp only
  rw [e1]
  try dsimp only [Option.bind_some]
  rw [set_mid]
  try dsimp only [Option.bind_some]
  rw [if_pos inB_mid,getD_mid,set_mid]
  try dsimp only [Option.bind_some]
  rw [wrap_cap (m:=m1 + 1) (by omega) (by omega)]
  rw [wrap_mid hlen]
  exact ⟨_,_,rfl,by omega,by omega⟩
def c_Bind (x:BT):Nat:=4 + 0
theorem cle_Bind (x:BT):c_Bind x ≤ 4 + 64 * w_Bind x:=by
 simp only [c_Bind,w_Bind,w_Value]
 omega
theorem p_markBindS {N:Nat} (hN:lim < N) (l:List BT) (m:Int) (u:Unit) (hm:0 < m) (hB:m + (sumW c_Bind l:Int) ≤ capB) (hw:wL w_Bind l < big):∃ l' m',l_markBindS N (l,m,u) = some (m',l',()) ∧ m ≤ m' ∧ m' ≤ m + (sumW c_Bind l:Int):=by
 have hlim:lim = 9223372036854775807:=rfl
 have hbig:big = 1048577:=rfl
 have hcap:capB = 1152921504606846976:=rfl
 have hl:l.length ≤ wL w_Bind l:=Nat.le_add_right _ _
 unfold l_markBindS
 dsimp only
 refine loop_mark_k (c:=c_Bind) (P:=fun x=>w_Bind x < big) (B:=capB) ?hstep ?hdone (fun _ _=>rfl) l m (fun x hx=>?hP) (by omega) hm hB (by omega)
 case hP=>have:=sumW_mem (w:=w_Bind) hx;have e0:wL w_Bind l = l.length + sumW w_Bind l:=rfl;omega
 case hdone=>intro l m;dsimp only;rw [if_neg (by simp)]
 case hstep =>
  intro pre x post m hx hlen hm hB
  have hc:c_Bind x = 4 + 0:=rfl
  have hw:(x.1.size + (w_Value x.2.1 + 0)) < big:=hx
  have hs1:w_Value x.2.1 = (x.2.1.2.2.1.size + 0):=rfl
  dsimp only
  rw [if_pos lt_mid]
  rw [e_markText (m:=m) (by omega) (by omega) hN]
  try dsimp only [Option.bind_some]
  rw [if_pos inB_mid,getD_mid,set_mid]
  try dsimp only [Option.bind_some]
  rw [wrap_cap (m:=m + 1) (by omega) (by omega)]
  rw [if_pos inB_mid,getD_mid,set_mid]
  try dsimp only [Option.bind_some]
  rw [wrap_cap (m:=m + 1 + 1) (by omega) (by omega)]
  rw [if_pos inB_mid,getD_mid,set_mid]
  try dsimp only [Option.bind_some]
  rw [wrap_cap (m:=m + 1 + 1 + 1) (by omega) (by omega)]
  rw [e_markText (m:=m + 1 + 1 + 1) (by omega) (by omega) hN]
  try dsimp only [Option.bind_some]
  rw [if_pos inB_mid,getD_mid,set_mid]
  try dsimp only [Option.bind_some]
  rw [wrap_cap (m:=m + 1 + 1 + 1 + 1) (by omega) (by omega)]
  rw [wrap_mid hlen]
  exact ⟨_,_,rfl,by omega,by omega⟩
def c_Frame (x:FT):Nat:=2 + (sumW c_Value x.2.2.1 + (sumW c_Bind x.2.2.2.1 + 0))
theorem cle_Frame (x:FT):c_Frame x ≤ 2 + 64 * w_Frame x:=by
 have h0:=sumW_le (k:=64) (b:=3) (by omega) cle_Value x.2.2.1
 have h1:=sumW_le (k:=64) (b:=4) (by omega) cle_Bind x.2.2.2.1
 simp only [c_Frame,w_Frame]
 omega
theorem p_markFrameS {N:Nat} (hN:lim < N) (l:List FT) (m:Int) (u:Unit) (hm:0 < m) (hB:m + (sumW c_Frame l:Int) ≤ capB) (hw:wL w_Frame l < big):∃ l' m',l_markFrameS N (l,m,u) = some (m',l',()) ∧ m ≤ m' ∧ m' ≤ m + (sumW c_Frame l:Int):=by
 have hlim:lim = 9223372036854775807:=rfl
 have hbig:big = 1048577:=rfl
 have hcap:capB = 1152921504606846976:=rfl
 have hl:l.length ≤ wL w_Frame l:=Nat.le_add_right _ _
 unfold l_markFrameS
 dsimp only
 refine loop_mark_k (c:=c_Frame) (P:=fun x=>w_Frame x < big) (B:=capB) ?hstep ?hdone (fun _ _=>rfl) l m (fun x hx=>?hP) (by omega) hm hB (by omega)
 case hP=>have:=sumW_mem (w:=w_Frame) hx;have e0:wL w_Frame l = l.length + sumW w_Frame l:=rfl;omega
 case hdone=>intro l m;dsimp only;rw [if_neg (by simp)]
 case hstep =>
  intro pre x post m hx hlen hm hB
  have hc:c_Frame x = 2 + (sumW c_Value x.2.2.1 + (sumW c_Bind x.2.2.2.1 + 0)):=rfl
  have hw:(wL w_Value x.2.2.1 + (wL w_Bind x.2.2.2.1 + 0)) < big:=hx
  dsimp only
  rw [if_pos lt_mid]
  rw [if_pos inB_mid,getD_mid,set_mid]
  try dsimp only [Option.bind_some]
  rw [wrap_cap (m:=m + 1) (by omega) (by omega)]
  rw [if_pos inB_mid,getD_mid,set_mid]
  try dsimp only [Option.bind_some]
  rw [wrap_cap (m:=m + 1 + 1) (by omega) (by omega)]
  rw [if_pos inB_mid,getD_mid]
  obtain ⟨l2,m2,e2,a2,b2⟩:=p_markValueS hN x.2.2.1 (m + 1 + 1) () (by omega) (by omega) (by omega)
  try dsimp only
  rw [e2]
  try dsimp only [Option.bind_some]
  rw [set_mid]
  try dsimp only [Option.bind_some]
  rw [if_pos inB_mid,getD_mid]
  obtain ⟨l3,m3,e3,a3,b3⟩:=p_markBindS hN x.2.2.2.1 (m2) () (by omega) (by omega) (by omega)
  try dsimp only
  rw [e3]
  try dsimp only [Option.bind_some]
  rw [set_mid]
  try dsimp only [Option.bind_some]
  rw [wrap_mid hlen]
  exact ⟨_,_,rfl,by omega,by omega⟩
def c_Ent (x:ET):Nat:=3 + (x.1.2.1.length + (x.1.2.2.1.length + (sumW c_Type x.1.2.2.2.1 + (sumW c_Def x.1.2.2.2.2.1 + (sumW c_Def x.1.2.2.2.2.2.1 + 0)))))
theorem cle_Ent (x:ET):c_Ent x ≤ 3 + 64 * w_Ent x:=by
 have h0:x.1.2.1.length ≤ wL wStr x.1.2.1:=Nat.le_add_right _ _
 have h1:x.1.2.2.1.length ≤ wL wStr x.1.2.2.1:=Nat.le_add_right _ _
 have h2:=sumW_le (k:=64) (b:=2) (by omega) cle_Type x.1.2.2.2.1
 have h3:=sumW_le (k:=64) (b:=2) (by omega) cle_Def x.1.2.2.2.2.1
 have h4:=sumW_le (k:=64) (b:=2) (by omega) cle_Def x.1.2.2.2.2.2.1
 simp only [c_Ent,w_Ent,w_Src]
 omega
set_option maxHeartbeats 4000000 in
theorem p_markEntS {N:Nat} (hN:lim < N) (l:List ET) (m:Int) (u:Unit) (hm:0 < m) (hB:m + (sumW c_Ent l:Int) ≤ capB) (hw:wL w_Ent l < big):∃ l' m',l_markEntS N (l,m,u) = some (m',l',()) ∧ m ≤ m' ∧ m' ≤ m + (sumW c_Ent l:Int):=by
 have hlim:lim = 9223372036854775807:=rfl
 have hbig:big = 1048577:=rfl
 have hcap:capB = 1152921504606846976:=rfl
 have hl:l.length ≤ wL w_Ent l:=Nat.le_add_right _ _
 unfold l_markEntS
 dsimp only
 refine loop_mark_k (c:=c_Ent) (P:=fun x=>w_Ent x < big) (B:=capB) (fun pre x post m hx hlen hm hB=>Okm.step ?hstep) ?hdone (fun _ _=>rfl) l m (fun x hx=>?hP) (by omega) hm hB (by omega)
 case hP=>have:=sumW_mem (w:=w_Ent) hx;have e0:wL w_Ent l = l.length + sumW w_Ent l:=rfl;omega
 case hdone=>intro l m;dsimp only;rw [if_neg (by simp)]
 case hstep =>
  have hc:c_Ent x = 3 + (x.1.2.1.length + (x.1.2.2.1.length + (sumW c_Type x.1.2.2.2.1 + (sumW c_Def x.1.2.2.2.2.1 + (sumW c_Def x.1.2.2.2.2.2.1 + 0))))):=rfl
  have hw:(w_Src x.1 + 0) < big:=hx
  have hs0:w_Src x.1 = (x.1.1.size + (wL wStr x.1.2.1 + (wL wStr x.1.2.2.1 + (wL w_Type x.1.2.2.2.1 + (wL w_Def x.1.2.2.2.2.1 + (wL w_Def x.1.2.2.2.2.2.1 + 0)))))):=rfl
  dsimp only
  rw [if_pos lt_mid]
  refine Okm.bind (P:=fun _=>True) ⟨_,(e_markText (m:=m) (by omega) (by omega) hN),trivial⟩ fun r1 _=>?_
  refine Okm.ifB (Okm.set (fun z=>z.1.2.1 = x.1.2.1 ∧ z.1.2.2.1 = x.1.2.2.1 ∧ z.1.2.2.2.1 = x.1.2.2.2.1 ∧ z.1.2.2.2.2.1 = x.1.2.2.2.2.1 ∧ z.1.2.2.2.2.2.1 = x.1.2.2.2.2.2.1) (by rw [getD_mid];exact ⟨rfl,rfl,rfl,rfl,rfl⟩) fun z1 h1=>?_)
  have w1:=wrap_cap (m:=m + 1) (by omega) (by omega)
  refine Okm.ifB (Okm.bind (Okm.mark (l:=x.1.2.1) (m:=m + 1) (c:=x.1.2.1.length) (by rw [getD_mid];exact h1.1) (by simp only [w1]) (p_markStrS hN x.1.2.1 (m + 1) () (by omega) (by omega) (by have e0:wL wStr x.1.2.1 = x.1.2.1.length + sumW wStr x.1.2.1:=rfl;omega))) fun r2 g2=>?_)
  refine Okm.set (fun z=>z.1.2.2.1 = x.1.2.2.1 ∧ z.1.2.2.2.1 = x.1.2.2.2.1 ∧ z.1.2.2.2.2.1 = x.1.2.2.2.2.1 ∧ z.1.2.2.2.2.2.1 = x.1.2.2.2.2.2.1) (by rw [getD_mid];exact ⟨h1.2.1,h1.2.2.1,h1.2.2.2.1,h1.2.2.2.2⟩) fun z2 h2=>?_
  refine Okm.ifB (Okm.bind (Okm.mark (l:=x.1.2.2.1) (m:=r2.1) (c:=x.1.2.2.1.length) (by rw [getD_mid];exact h2.1) (rfl) (p_markStrS hN x.1.2.2.1 (r2.1) () (by omega) (by omega) (by have e0:wL wStr x.1.2.2.1 = x.1.2.2.1.length + sumW wStr x.1.2.2.1:=rfl;omega))) fun r3 g3=>?_)
  refine Okm.set (fun z=>z.1.2.2.2.1 = x.1.2.2.2.1 ∧ z.1.2.2.2.2.1 = x.1.2.2.2.2.1 ∧ z.1.2.2.2.2.2.1 = x.1.2.2.2.2.2.1) (by rw [getD_mid];exact ⟨h2.2.1,h2.2.2.1,h2.2.2.2⟩) fun z3 h3=>?_
  refine Okm.ifB (Okm.bind (Okm.mark (l:=x.1.2.2.2.1) (m:=r3.1) (c:=sumW c_Type x.1.2.2.2.1) (by rw [getD_mid];exact h3.1) (rfl) (p_markTypeS hN x.1.2.2.2.1 (r3.1) () (by omega) (by omega) (by omega))) fun r4 g4=>?_)
  refine Okm.set (fun z=>z.1.2.2.2.2.1 = x.1.2.2.2.2.1 ∧ z.1.2.2.2.2.2.1 = x.1.2.2.2.2.2.1) (by rw [getD_mid];exact ⟨h3.2.1,h3.2.2⟩) fun z4 h4=>?_
  refine Okm.ifB (Okm.bind (Okm.mark (l:=x.1.2.2.2.2.1) (m:=r4.1) (c:=sumW c_Def x.1.2.2.2.2.1) (by rw [getD_mid];exact h4.1) (rfl) (p_markDefS hN x.1.2.2.2.2.1 (r4.1) () (by omega) (by omega) (by omega))) fun r5 g5=>?_)
  refine Okm.set (fun z=>z.1.2.2.2.2.2.1 = x.1.2.2.2.2.2.1) (by rw [getD_mid];exact h4.2) fun z5 h5=>?_
  refine Okm.ifB (Okm.bind (Okm.mark (l:=x.1.2.2.2.2.2.1) (m:=r5.1) (c:=sumW c_Def x.1.2.2.2.2.2.1) (by rw [getD_mid];exact h5) (rfl) (p_markDefS hN x.1.2.2.2.2.2.1 (r5.1) () (by omega) (by omega) (by omega))) fun r6 g6=>?_)
  refine Okm.set (fun z=>True) (trivial) fun z6 h6=>?_
  refine Okm.ifB (Okm.set (fun z=>True) (trivial) fun z7 h7=>?_)
  have w2:=wrap_cap (m:=r6.1 + 1) (by omega) (by omega)
  refine Okm.ifB (Okm.set (fun z=>True) (trivial) fun z8 h8=>?_)
  have w3:=wrap_cap (m:=r6.1 + 1 + 1) (by omega) (by omega)
  refine ⟨_,rfl,z8,r6.1 + 1 + 1,?_,by omega,by omega⟩
  rw [w2,w3,wrap_mid hlen]
def c_Task (x:KT):Nat:=8 + (sumW c_Bind x.2.1.2.2.2.1 + (sumW c_Frame x.2.1.2.2.2.2.2.1 + 0))
theorem cle_Task (x:KT):c_Task x ≤ 8 + 64 * w_Task x:=by
 have h0:=sumW_le (k:=64) (b:=4) (by omega) cle_Bind x.2.1.2.2.2.1
 have h1:=sumW_le (k:=64) (b:=2) (by omega) cle_Frame x.2.1.2.2.2.2.2.1
 simp only [c_Task,w_Task,w_Machine,w_Value]
 omega
set_option maxHeartbeats 4000000 in
theorem p_markTaskS {N:Nat} (hN:lim < N) (l:List KT) (m:Int) (u:Unit) (hm:0 < m) (hB:m + (sumW c_Task l:Int) ≤ capB) (hw:wL w_Task l < big):∃ l' m',l_markTaskS N (l,m,u) = some (m',l',()) ∧ m ≤ m' ∧ m' ≤ m + (sumW c_Task l:Int):=by
 have hlim:lim = 9223372036854775807:=rfl
 have hbig:big = 1048577:=rfl
 have hcap:capB = 1152921504606846976:=rfl
 have hl:l.length ≤ wL w_Task l:=Nat.le_add_right _ _
 unfold l_markTaskS
 dsimp only
 refine loop_mark_k (c:=c_Task) (P:=fun x=>w_Task x < big) (B:=capB) (fun pre x post m hx hlen hm hB=>Okm.step ?hstep) ?hdone (fun _ _=>rfl) l m (fun x hx=>?hP) (by omega) hm hB (by omega)
 case hP=>have:=sumW_mem (w:=w_Task) hx;have e0:wL w_Task l = l.length + sumW w_Task l:=rfl;omega
 case hdone=>intro l m;dsimp only;rw [if_neg (by simp)]
 case hstep =>
  have hc:c_Task x = 8 + (sumW c_Bind x.2.1.2.2.2.1 + (sumW c_Frame x.2.1.2.2.2.2.2.1 + 0)):=rfl
  have hw:(w_Machine x.2.1 + 0) < big:=hx
  have hs1:w_Machine x.2.1 = (wL w_Bind x.2.1.2.2.2.1 + (w_Value x.2.1.2.2.2.2.1 + (wL w_Frame x.2.1.2.2.2.2.2.1 + 0))):=rfl
  have hs4:w_Value x.2.1.2.2.2.2.1 = (x.2.1.2.2.2.2.1.2.2.1.size + 0):=rfl
  dsimp only
  rw [if_pos lt_mid]
  refine Okm.ifB (Okm.set (fun z=>z.2.1.2.2.2.1 = x.2.1.2.2.2.1 ∧ z.2.1.2.2.2.2.2.1 = x.2.1.2.2.2.2.2.1) (by rw [getD_mid];exact ⟨rfl,rfl⟩) fun z1 h1=>?_)
  have w1:=wrap_cap (m:=m + 1) (by omega) (by omega)
  refine Okm.ifB (Okm.set (fun z=>z.2.1.2.2.2.1 = x.2.1.2.2.2.1 ∧ z.2.1.2.2.2.2.2.1 = x.2.1.2.2.2.2.2.1) (by rw [getD_mid];exact ⟨h1.1,h1.2⟩) fun z2 h2=>?_)
  have w2:=wrap_cap (m:=m + 1 + 1) (by omega) (by omega)
  refine Okm.ifB (Okm.set (fun z=>z.2.1.2.2.2.1 = x.2.1.2.2.2.1 ∧ z.2.1.2.2.2.2.2.1 = x.2.1.2.2.2.2.2.1) (by rw [getD_mid];exact ⟨h2.1,h2.2⟩) fun z3 h3=>?_)
  have w3:=wrap_cap (m:=m + 1 + 1 + 1) (by omega) (by omega)
  refine Okm.ifB (Okm.set (fun z=>z.2.1.2.2.2.1 = x.2.1.2.2.2.1 ∧ z.2.1.2.2.2.2.2.1 = x.2.1.2.2.2.2.2.1) (by rw [getD_mid];exact ⟨h3.1,h3.2⟩) fun z4 h4=>?_)
  have w4:=wrap_cap (m:=m + 1 + 1 + 1 + 1) (by omega) (by omega)
  refine Okm.ifB (Okm.bind (Okm.mark (l:=x.2.1.2.2.2.1) (m:=m + 1 + 1 + 1 + 1) (c:=sumW c_Bind x.2.1.2.2.2.1) (by rw [getD_mid];exact h4.1) (by simp only [w1,w2,w3,w4]) (p_markBindS hN x.2.1.2.2.2.1 (m + 1 + 1 + 1 + 1) () (by omega) (by omega) (by omega))) fun r1 g1=>?_)
  refine Okm.set (fun z=>z.2.1.2.2.2.2.2.1 = x.2.1.2.2.2.2.2.1) (by rw [getD_mid];exact h4.2) fun z5 h5=>?_
  refine Okm.ifB (Okm.set (fun z=>z.2.1.2.2.2.2.2.1 = x.2.1.2.2.2.2.2.1) (by rw [getD_mid];exact h5) fun z6 h6=>?_)
  have w5:=wrap_cap (m:=r1.1 + 1) (by omega) (by omega)
  refine Okm.ifB (Okm.set (fun z=>z.2.1.2.2.2.2.2.1 = x.2.1.2.2.2.2.2.1) (by rw [getD_mid];exact h6) fun z7 h7=>?_)
  have w6:=wrap_cap (m:=r1.1 + 1 + 1) (by omega) (by omega)
  refine Okm.bind (P:=fun _=>True) ⟨_,(by rw [w5,w6];exact e_markText (m:=r1.1 + 1 + 1) (by omega) (by omega) hN),trivial⟩ fun r2 _=>?_
  refine Okm.ifB (Okm.set (fun z=>z.2.1.2.2.2.2.2.1 = x.2.1.2.2.2.2.2.1) (by rw [getD_mid];exact h7) fun z8 h8=>?_)
  have w7:=wrap_cap (m:=r1.1 + 1 + 1 + 1) (by omega) (by omega)
  refine Okm.ifB (Okm.bind (Okm.mark (l:=x.2.1.2.2.2.2.2.1) (m:=r1.1 + 1 + 1 + 1) (c:=sumW c_Frame x.2.1.2.2.2.2.2.1) (by rw [getD_mid];exact h8) (by simp only [w5,w6,w7]) (p_markFrameS hN x.2.1.2.2.2.2.2.1 (r1.1 + 1 + 1 + 1) () (by omega) (by omega) (by omega))) fun r3 g3=>?_)
  refine Okm.set (fun z=>True) (trivial) fun z9 h9=>?_
  refine Okm.ifB (Okm.set (fun z=>True) (trivial) fun z10 h10=>?_)
  have w8:=wrap_cap (m:=r3.1 + 1) (by omega) (by omega)
  refine ⟨_,rfl,z10,r3.1 + 1,?_,by omega,by omega⟩
  rw [w8,wrap_mid hlen]
def c_Sys (x:YT):Nat:=0 + (sumW c_Cell x.1 + (sumW c_Inst x.2.1 + (sumW c_Unit x.2.2.1 + (x.2.2.2.1.length + 0))))
theorem cle_Sys (x:YT):c_Sys x ≤ 0 + 64 * w_Sys x:=by
 have h0:=sumW_le (k:=64) (b:=4) (by omega) cle_Cell x.1
 have h1:=sumW_le (k:=64) (b:=2) (by omega) cle_Inst x.2.1
 have h2:=sumW_le (k:=64) (b:=2) (by omega) cle_Unit x.2.2.1
 have h3:x.2.2.2.1.length ≤ wL wStr x.2.2.2.1:=Nat.le_add_right _ _
 simp only [c_Sys,w_Sys]
 omega
theorem p_markSys {N:Nat} (hN:lim < N) (x:YT) (m:Int) (u:Unit) (hm:0 < m) (hB:m + (c_Sys x:Int) ≤ capB) (hw:w_Sys x < big):∃ m',l_markSys N (x,m,u) = some (m',()) ∧ m ≤ m' ∧ m' ≤ m + (c_Sys x:Int):=by
 have hlim:lim = 9223372036854775807:=rfl
 have hbig:big = 1048577:=rfl
 have hcap:capB = 1152921504606846976:=rfl
 have hc:c_Sys x = 0 + (sumW c_Cell x.1 + (sumW c_Inst x.2.1 + (sumW c_Unit x.2.2.1 + (x.2.2.2.1.length + 0)))):=rfl
 have hw:(wL w_Cell x.1 + (wL w_Inst x.2.1 + (wL w_Unit x.2.2.1 + (wL wStr x.2.2.2.1 + 0)))) < big:=hw
 unfold l_markSys
 obtain ⟨l0,m0,e0,a0,b0⟩:=p_markCellS hN x.1 (m) () (by omega) (by omega) (by omega)
 try dsimp only
 rw [e0]
 dsimp only [Option.bind_some]
 obtain ⟨l1,m1,e1,a1,b1⟩:=p_markInstS hN x.2.1 (m0) () (by omega) (by omega) (by omega)
 try dsimp only
 rw [e1]
 dsimp only [Option.bind_some]
 obtain ⟨l2,m2,e2,a2,b2⟩:=p_markUnitS hN x.2.2.1 (m1) () (by omega) (by omega) (by omega)
 try dsimp only
 rw [e2]
 dsimp only [Option.bind_some]
 obtain ⟨l3,m3,e3,a3,b3⟩:=p_markStrS hN x.2.2.2.1 (m2) () (by omega) (by omega) (by have e0:wL wStr x.2.2.2.1 = x.2.2.2.1.length + sumW wStr x.2.2.2.1:=rfl;omega)
 try dsimp only
 rw [e3]
 dsimp only [Option.bind_some]
 exact ⟨_,rfl,by omega,by omega⟩
def c_World (x:WT):Nat:=0 + (c_Sys x.1 + (sumW c_Ent x.2.1 + (sumW c_Task x.2.2.1 + 0)))
theorem cle_World (x:WT):c_World x ≤ 0 + 64 * w_World x:=by
 have h0:=cle_Sys x.1
 have h1:=sumW_le (k:=64) (b:=3) (by omega) cle_Ent x.2.1
 have h2:=sumW_le (k:=64) (b:=8) (by omega) cle_Task x.2.2.1
 have e0:wL w_Ent x.2.1 = x.2.1.length + sumW w_Ent x.2.1:=rfl
 have e1:wL w_Task x.2.2.1 = x.2.2.1.length + sumW w_Task x.2.2.1:=rfl
 simp only [c_World,w_World]
 omega
theorem p_markWorld {N:Nat} (hN:lim < N) (x:WT) (m:Int) (u:Unit) (hm:0 < m) (hB:m + (c_World x:Int) ≤ capB) (hw:w_World x < big):∃ m',l_markWorld N (x,m,u) = some (m',()) ∧ m ≤ m' ∧ m' ≤ m + (c_World x:Int):=by
 have hc:c_World x = 0 + (c_Sys x.1 + (sumW c_Ent x.2.1 + (sumW c_Task x.2.2.1 + 0))):=rfl
 have hw':(w_Sys x.1 + (wL w_Ent x.2.1 + (wL w_Task x.2.2.1 + 0))) < big:=hw
 unfold l_markWorld
 obtain ⟨m1,e1,a1,b1⟩:=p_markSys hN x.1 m () hm (by omega) (by omega)
 obtain ⟨l2,m2,e2,a2,b2⟩:=p_markEntS hN x.2.1 m1 () (by omega) (by omega) (by omega)
 obtain ⟨l3,m3,e3,a3,b3⟩:=p_markTaskS hN x.2.2.1 m2 () (by omega) (by omega) (by omega)
 refine ⟨m3,?_,by omega,by omega⟩
 dsimp only
 rw [e1]
 dsimp only [Option.bind_some]
 rw [e2]
 dsimp only [Option.bind_some]
 rw [e3]
 rfl
end Go.Rf
namespace Go.Rf
end Go.Rf
namespace Go.Rf
def whSt (n:ByteArray) (s:List ByteArray) (e:ET):List ByteArray:=if sIn e.1.2.2.1 n = true then s ++ [e.1.1] else s
def whereW (w:WT) (n:ByteArray):List ByteArray:=if worldB w = true then w.2.1.foldl (whSt n) [] else []
theorem whSt_len (n:ByteArray) (l:List ET):∀ (s:List ByteArray),(l.foldl (whSt n) s).length ≤ s.length + l.length:=by
 induction l with
 | nil=>intro s;simp
 | cons e l ih =>
  intro s
  rw [List.foldl_cons]
  have h:=ih (whSt n s e)
  have h2:(whSt n s e).length ≤ s.length + 1:=by unfold whSt;split <;> simp
  simp only [List.length_cons]
  omega
theorem e_i_Where (N:Nat) (w:WT) (n:ByteArray) (u:Unit) (h:SmW w) (hN:big ≤ N):i_Where N (w,n,u) = some (whereW w n,()):=by
 have hb:big = 1048577:=rfl
 have h1:=h.en
 unfold i_Where whereW
 dsimp only
 rw [e_i_WorldOk N w () h hN]
 dsimp only [Option.bind_some]
 cases hw:worldB w with
 | false=>rfl
 | true =>
 simp only [Bool.not_true,Bool.false_eq_true,if_false,if_true]
 rw [(loop_foldl (fun (s:List ByteArray) (i:Nat)=>(s,(i:Int),())) (fun i s=>s.length ≤ i) (whSt n) (fun s=>(s,())) w.2.1 ((ByteArray.empty,([]:List ByteArray),([]:List ByteArray),([]:List TT),([]:List DT),([]:List DT),()),(0:Int),(0:Int),()) ?h ?hd [] ([],0,()) rfl (Nat.le_refl _) (by omega)).1]
 case hd=>intro s _;simp
 case h =>
  intro i s hi hs
  have hm:=(h.enS _ (mem_getD (d:=((ByteArray.empty,([]:List ByteArray),([]:List ByteArray),([]:List TT),([]:List DT),([]:List DT),()),(0:Int),(0:Int),())) hi)).ex
  dsimp only
  rw [if_pos (decide_eq_true (lt_cast hi)),if_pos (inB_nat.2 hi),Int.toNat_natCast,wrap_nat (by omega)]
  generalize w.2.1.getD i ((ByteArray.empty,([]:List ByteArray),([]:List ByteArray),([]:List TT),([]:List DT),([]:List DT),()),(0:Int),(0:Int),()) = e at hm
  rw [e_contains N _ _ () hm hN]
  dsimp only [Option.bind_some]
  unfold whSt
  cases sIn e.1.2.2.1 n with
  | false=>exact ⟨rfl,by simp;omega⟩
  | true =>
   simp only [if_true]
   rw [if_pos (by simp;omega)]
   exact ⟨rfl,by simp;omega⟩
theorem e_s_Where (N:Nat) (w:WT) (n:ByteArray) (u:Unit) (h:SmW w) (hN:big ≤ N):s_Where N (w,n,u) = some (whereW w n,()):=by
 have hb:big = 1048577:=rfl
 have h1:=h.en
 unfold s_Where whereW
 dsimp only
 cases hw:worldB w with
 | false =>
  rw [iter_done (fun _=>(w,([]:List ByteArray),(0:Int),())) (k:=0) (n:=0) (b:=([],())) (fun i _ hi=>absurd hi (by omega)) (Nat.le_refl _) ?hd (by omega) (x0:=(w,[],0,())) rfl]
  case hd =>
   dsimp only
   rw [e_s_WorldOk N w () h hN,hw]
   cases decide ((0:Int) < (w.2.1.length:Int)) <;> rfl
  rfl
 | true =>
 rw [(loop_foldl (fun (s:List ByteArray) (i:Nat)=>(w,s,(i:Int),())) (fun i s=>s.length ≤ i) (whSt n) (fun s=>(s,())) w.2.1 ((ByteArray.empty,([]:List ByteArray),([]:List ByteArray),([]:List TT),([]:List DT),([]:List DT),()),(0:Int),(0:Int),()) ?h ?hd [] (w,[],0,()) rfl (Nat.le_refl _) (by omega)).1]
 case hd=>intro s _;simp
 case h =>
  intro i s hi hs
  have hm:=(h.enS _ (mem_getD (d:=((ByteArray.empty,([]:List ByteArray),([]:List ByteArray),([]:List TT),([]:List DT),([]:List DT),()),(0:Int),(0:Int),())) hi)).ex
  dsimp only
  rw [if_pos (decide_eq_true (lt_cast hi)),e_s_WorldOk N w () h hN,hw]
  simp only [if_true,Option.bind_some]
  rw [if_pos (inB_nat.2 hi),Int.toNat_natCast,wrap_nat (by omega)]
  generalize w.2.1.getD i ((ByteArray.empty,([]:List ByteArray),([]:List ByteArray),([]:List TT),([]:List DT),([]:List DT),()),(0:Int),(0:Int),()) = e at hm
  rw [e_in N _ _ () hm hN]
  dsimp only [Option.bind_some]
  unfold whSt
  cases sIn e.1.2.2.1 n with
  | false=>exact ⟨rfl,by simp;omega⟩
  | true =>
   have hq:s.length + [e.1.1].length ≤ 4294967296:=by simp only [List.length_cons,List.length_nil];omega
   refine ⟨?_,by simp;omega⟩
   simp only [if_true,if_pos (inB_nat.2 hi),if_pos hq,Option.bind_some]
 rw [if_pos rfl]
theorem l_FnExactWhere_true (N:Nat) (x:WT×ByteArray×Unit) (hx:F_World x.1) (hN:lim < N):l_FnExactWhere N x = some (true,()):=by
 obtain ⟨x,n,u⟩:=x
 simp only at hx
 have hbig:big = 1048577:=rfl
 have hlim:lim = 9223372036854775807:=rfl
 have hcap:capB = 1152921504606846976:=rfl
 unfold l_FnExactWhere
 dsimp only
 split
 ·rfl
 rcases p_szWorld (N:=N) x 1048576 () (by omega) (by omega) hx hN with h1 | ⟨h1,h2⟩
 ·rw [h1];rfl
 rw [h1]
 dsimp only [Option.bind_some]
 rw [if_neg (fun hc=>by have:=of_decide_eq_true hc;omega)]
 have hw:w_World x < big:=by omega
 have hS:=smW hw
 rw [e_toWorld N x () hw (by omega)]
 dsimp only [Option.bind_some]
 rw [e_s_Where N x n () hS (by omega)]
 dsimp only [Option.bind_some]
 rw [e_i_Where N x n () hS (by omega)]
 dsimp only [Option.bind_some]
 have hlen:(whereW x n).length < big:=by
  unfold whereW
  split
  ·have:=whSt_len n x.2.1 []
   have:=hS.en
   simp only [List.length_nil] at *
   omega
  ·simp only [List.length_nil];omega
 generalize whereW x n = g at hlen
 have hc:=cle_World x
 obtain ⟨m,e1,a1,b1⟩:=p_markWorld hN x 1 () (by omega) (by omega) hw
 have heq:=e_eqStrS N g () (by omega) (by omega)
 rw [heq]
 dsimp only [Option.bind_some]
 rw [e_eqWorld N x () hw (by omega)]
 dsimp only [Option.bind_some]
 rw [e1]
 dsimp only [Option.bind_some]
 rw [e_markStringS hN g 1 (by omega) (by rw [sumL_one];omega) (by omega)]
 dsimp only [Option.bind_some]
 rw [e_heldStringS hN g 1 (by omega) (by rw [sumL_one];omega) (by omega)]
 dsimp only [Option.bind_some]
 have hm:¬ (m < 0):=by omega
 have hk:¬ ((1:Int) + (g.length:Int) < 0):=by omega
 simp [sumL_one,hm,hk,heq]
end Go.Rf
