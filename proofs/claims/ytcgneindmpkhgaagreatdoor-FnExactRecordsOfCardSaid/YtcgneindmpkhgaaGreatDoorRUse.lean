/-
  The plain function of FnExactRecordsOf returns true, whatever is put in within the form's bounds: how many records there are of each version; marks stay where they are put.
-/
import Derived.Test.YtcgneindmpkhgaaGreatDoorRWld
import Derived.Test.YtcgneindmpkhgaaGreatDoorRNat
set_option linter.unusedSimpArgs false
set_option linter.unusedVariables false
set_option autoImplicit false
namespace Go.Rf
attribute [local irreducible] IntKind.wrap
def Okm {α:Type} (o:Option α) (P:α→Prop):Prop:=∃ y,o=some y∧P y
theorem Okm.bind {α β:Type}{o:Option α}{k:α→Option β}{P:α→Prop}{Q:β→Prop} (h:Okm o P) (hk:∀ y,P y→Okm (k y) Q):Okm (o.bind k) Q:=by
 obtain ⟨y,e,p⟩:=h
 rw [e]
 exact hk y p
theorem Okm.ifB {α β:Type}{pre post:List α}{y:α}{e:Option β}{Q:β→Prop} (h:Okm e Q):Okm (if inB (pre.length:Int) (pre++y::post).length then e else none) Q:=by
 rw [if_pos inB_mid]
 exact h
theorem Okm.set {α β:Type}{pre post:List α}{y v:α}{k:List α→Option β}{Q:β→Prop} (K:α→Prop) (hK:K v) (h:∀ z,K z→Okm (k (pre++z::post)) Q):Okm ((some (List.set (pre++y::post) (Int.toNat (pre.length:Int)) v):Option (List α)).bind k) Q:=by
 rw [set_mid]
 exact h v hK
theorem Okm.mark {α:Type}{F:List α×Int×Unit→Option (Int×List α×Unit)}{l0 l:List α}{m0 m:Int}{c:Nat} (hl:l0=l) (hm:m0=m) (h:∃ l' m',F (l,m,())=some (m',l',())∧m≤m'∧m'≤m+(c:Int)):Okm (F (l0,m0,())) (fun r=>m≤r.1∧r.1≤m+(c:Int)):=by
 subst hl;subst hm
 obtain ⟨l',m',e,a,b⟩:=h
 exact ⟨_,e,a,b⟩
theorem Okm.step {α C:Type}{f:List α×Int×Int×Unit→Option (Step (List α×Int×Int×Unit) (List α×Int×Unit) C)}{pre post:List α}{x:α}{m:Int}{c:Nat}
  (h:Okm (f (pre++x::post,m,(pre.length:Int),())) (fun s=>∃ x' m',s=.more (pre++x'::post,m',((pre.length+1:Nat):Int),())∧m≤m'∧m'≤m+(c:Int))) :
  ∃ x' m',f (pre++x::post,m,(pre.length:Int),())=some (.more (pre++x'::post,m',((pre.length+1:Nat):Int),()))∧m≤m'∧m'≤m+(c:Int):=by
 obtain ⟨s,e,x',m',rfl,a,b⟩:=h
 exact ⟨x',m',e,a,b⟩
def c_Value (x:VT):Nat:=3+0
theorem cle_Value (x:VT):c_Value x≤3+64*w_Value x:=by
 simp only [c_Value,w_Value]
 omega
theorem p_markValueS {N:Nat} (hN:lim<N) (l:List VT) (m:Int) (u:Unit) (hm:0<m) (hB:m+(sumW c_Value l:Int)≤capB) (hw:wL w_Value l<big):∃ l' m',l_markValueS N (l,m,u)=some (m',l',())∧m≤m'∧m'≤m+(sumW c_Value l:Int):=by
 have hlim:lim=9223372036854775807:=rfl
 have hbig:big=1048577:=rfl
 have hcap:capB=1152921504606846976:=rfl
 have hl:l.length≤wL w_Value l:=Nat.le_add_right _ _
 unfold l_markValueS
 dsimp only
 refine loop_mark_k (c:=c_Value) (P:=fun x=>w_Value x<big) (B:=capB) ?hstep ?hdone (fun _ _=>rfl) l m (fun x hx=>?hP) (by omega) hm hB (by omega)
 case hP=>have:=sumW_mem (w:=w_Value) hx;have e0:wL w_Value l=l.length+sumW w_Value l:=rfl;omega
 case hdone=>intro l m;dsimp only;rw [if_neg (by simp)]
 case hstep =>
  intro pre x post m hx hlen hm hB
  have hc:c_Value x=3+0:=rfl
  have hw:(x.2.2.1.size+0)<big:=hx
  dsimp only
  rw [if_pos lt_mid]
  rw [if_pos inB_mid,getD_mid,set_mid]
  try dsimp only [oB]
  rw [wrap_cap (m:=m+1) (by omega) (by omega)]
  rw [if_pos inB_mid,getD_mid,set_mid]
  try dsimp only [oB]
  rw [wrap_cap (m:=m+1+1) (by omega) (by omega)]
  rw [e_markText (m:=m+1+1) (by omega) (by omega) hN]
  try dsimp only [oB]
  rw [if_pos inB_mid,getD_mid,set_mid]
  try dsimp only [oB]
  rw [wrap_cap (m:=m+1+1+1) (by omega) (by omega)]
  rw [wrap_mid hlen]
  exact ⟨_,_,rfl,by omega,by omega⟩
def c_Cell (x:CT):Nat:=4+(x.2.2.2.2.1.length+(sumW c_Value x.2.2.2.2.2.1+0))
theorem cle_Cell (x:CT):c_Cell x≤4+64*w_Cell x:=by
 have h0:x.2.2.2.2.1.length≤wL wStr x.2.2.2.2.1:=Nat.le_add_right _ _
 have h1:=sumW_le (k:=64) (b:=3) (by omega) cle_Value x.2.2.2.2.2.1
 simp only [c_Cell,w_Cell]
 omega
theorem p_markCellS {N:Nat} (hN:lim<N) (l:List CT) (m:Int) (u:Unit) (hm:0<m) (hB:m+(sumW c_Cell l:Int)≤capB) (hw:wL w_Cell l<big):∃ l' m',l_markCellS N (l,m,u)=some (m',l',())∧m≤m'∧m'≤m+(sumW c_Cell l:Int):=by
 have hlim:lim=9223372036854775807:=rfl
 have hbig:big=1048577:=rfl
 have hcap:capB=1152921504606846976:=rfl
 have hl:l.length≤wL w_Cell l:=Nat.le_add_right _ _
 unfold l_markCellS
 dsimp only
 refine loop_mark_k (c:=c_Cell) (P:=fun x=>w_Cell x<big) (B:=capB) ?hstep ?hdone (fun _ _=>rfl) l m (fun x hx=>?hP) (by omega) hm hB (by omega)
 case hP=>have:=sumW_mem (w:=w_Cell) hx;have e0:wL w_Cell l=l.length+sumW w_Cell l:=rfl;omega
 case hdone=>intro l m;dsimp only;rw [if_neg (by simp)]
 case hstep =>
  intro pre x post m hx hlen hm hB
  have hc:c_Cell x=4+(x.2.2.2.2.1.length+(sumW c_Value x.2.2.2.2.2.1+0)):=rfl
  have hw:(x.2.1.size+(wL wStr x.2.2.2.2.1+(wL w_Value x.2.2.2.2.2.1+0)))<big:=hx
  dsimp only
  rw [if_pos lt_mid]
  rw [if_pos inB_mid,getD_mid,set_mid]
  try dsimp only [oB]
  rw [wrap_cap (m:=m+1) (by omega) (by omega)]
  rw [e_markText (m:=m+1) (by omega) (by omega) hN]
  try dsimp only [oB]
  rw [if_pos inB_mid,getD_mid,set_mid]
  try dsimp only [oB]
  rw [wrap_cap (m:=m+1+1) (by omega) (by omega)]
  rw [if_pos inB_mid,getD_mid,set_mid]
  try dsimp only [oB]
  rw [wrap_cap (m:=m+1+1+1) (by omega) (by omega)]
  rw [if_pos inB_mid,getD_mid,set_mid]
  try dsimp only [oB]
  rw [wrap_cap (m:=m+1+1+1+1) (by omega) (by omega)]
  rw [if_pos inB_mid,getD_mid]
  obtain ⟨l4,m4,e4,a4,b4⟩:=p_markStrS hN x.2.2.2.2.1 (m+1+1+1+1) () (by omega) (by omega) (by have e0:wL wStr x.2.2.2.2.1=x.2.2.2.2.1.length+sumW wStr x.2.2.2.2.1:=rfl;omega)
  try dsimp only
  rw [e4]
  try dsimp only [oB]
  rw [set_mid]
  try dsimp only [oB]
  rw [if_pos inB_mid,getD_mid]
  obtain ⟨l5,m5,e5,a5,b5⟩:=p_markValueS hN x.2.2.2.2.2.1 (m4) () (by omega) (by omega) (by omega)
  try dsimp only
  rw [e5]
  try dsimp only [oB]
  rw [set_mid]
  try dsimp only [oB]
  rw [wrap_mid hlen]
  exact ⟨_,_,rfl,by omega,by omega⟩
def c_Link (x:LT):Nat:=3+0
theorem cle_Link (x:LT):c_Link x≤3+64*w_Link x:=by
 simp only [c_Link,w_Link]
 omega
theorem p_markLinkS {N:Nat} (hN:lim<N) (l:List LT) (m:Int) (u:Unit) (hm:0<m) (hB:m+(sumW c_Link l:Int)≤capB) (hw:wL w_Link l<big):∃ l' m',l_markLinkS N (l,m,u)=some (m',l',())∧m≤m'∧m'≤m+(sumW c_Link l:Int):=by
 have hlim:lim=9223372036854775807:=rfl
 have hbig:big=1048577:=rfl
 have hcap:capB=1152921504606846976:=rfl
 have hl:l.length≤wL w_Link l:=Nat.le_add_right _ _
 unfold l_markLinkS
 dsimp only
 refine loop_mark_k (c:=c_Link) (P:=fun x=>w_Link x<big) (B:=capB) ?hstep ?hdone (fun _ _=>rfl) l m (fun x hx=>?hP) (by omega) hm hB (by omega)
 case hP=>have:=sumW_mem (w:=w_Link) hx;have e0:wL w_Link l=l.length+sumW w_Link l:=rfl;omega
 case hdone=>intro l m;dsimp only;rw [if_neg (by simp)]
 case hstep =>
  intro pre x post m hx hlen hm hB
  have hc:c_Link x=3+0:=rfl
  have hw:(x.1.size+(x.2.2.1.size+0))<big:=hx
  dsimp only
  rw [if_pos lt_mid]
  rw [e_markText (m:=m) (by omega) (by omega) hN]
  try dsimp only [oB]
  rw [if_pos inB_mid,getD_mid,set_mid]
  try dsimp only [oB]
  rw [wrap_cap (m:=m+1) (by omega) (by omega)]
  rw [if_pos inB_mid,getD_mid,set_mid]
  try dsimp only [oB]
  rw [wrap_cap (m:=m+1+1) (by omega) (by omega)]
  rw [e_markText (m:=m+1+1) (by omega) (by omega) hN]
  try dsimp only [oB]
  rw [if_pos inB_mid,getD_mid,set_mid]
  try dsimp only [oB]
  rw [wrap_cap (m:=m+1+1+1) (by omega) (by omega)]
  rw [wrap_mid hlen]
  exact ⟨_,_,rfl,by omega,by omega⟩
def c_Inst (x:IT):Nat:=2+(x.2.2.1.length+(sumW c_Value x.2.2.2.1+(sumW c_Link x.2.2.2.2.1+(sumW c_Type x.2.2.2.2.2.1+0))))
theorem cle_Inst (x:IT):c_Inst x≤2+64*w_Inst x:=by
 have h0:x.2.2.1.length≤wL wStr x.2.2.1:=Nat.le_add_right _ _
 have h1:=sumW_le (k:=64) (b:=3) (by omega) cle_Value x.2.2.2.1
 have h2:=sumW_le (k:=64) (b:=3) (by omega) cle_Link x.2.2.2.2.1
 have h3:=sumW_le (k:=64) (b:=2) (by omega) cle_Type x.2.2.2.2.2.1
 simp only [c_Inst,w_Inst]
 omega
theorem p_markInstS {N:Nat} (hN:lim<N) (l:List IT) (m:Int) (u:Unit) (hm:0<m) (hB:m+(sumW c_Inst l:Int)≤capB) (hw:wL w_Inst l<big):∃ l' m',l_markInstS N (l,m,u)=some (m',l',())∧m≤m'∧m'≤m+(sumW c_Inst l:Int):=by
 have hlim:lim=9223372036854775807:=rfl
 have hbig:big=1048577:=rfl
 have hcap:capB=1152921504606846976:=rfl
 have hl:l.length≤wL w_Inst l:=Nat.le_add_right _ _
 unfold l_markInstS
 dsimp only
 refine loop_mark_k (c:=c_Inst) (P:=fun x=>w_Inst x<big) (B:=capB) ?hstep ?hdone (fun _ _=>rfl) l m (fun x hx=>?hP) (by omega) hm hB (by omega)
 case hP=>have:=sumW_mem (w:=w_Inst) hx;have e0:wL w_Inst l=l.length+sumW w_Inst l:=rfl;omega
 case hdone=>intro l m;dsimp only;rw [if_neg (by simp)]
 case hstep =>
  intro pre x post m hx hlen hm hB
  have hc:c_Inst x=2+(x.2.2.1.length+(sumW c_Value x.2.2.2.1+(sumW c_Link x.2.2.2.2.1+(sumW c_Type x.2.2.2.2.2.1+0)))):=rfl
  have hw:(x.1.size+(wL wStr x.2.2.1+(wL w_Value x.2.2.2.1+(wL w_Link x.2.2.2.2.1+(wL w_Type x.2.2.2.2.2.1+0)))))<big:=hx
  dsimp only
  rw [if_pos lt_mid]
  rw [e_markText (m:=m) (by omega) (by omega) hN]
  try dsimp only [oB]
  rw [if_pos inB_mid,getD_mid,set_mid]
  try dsimp only [oB]
  rw [wrap_cap (m:=m+1) (by omega) (by omega)]
  rw [if_pos inB_mid,getD_mid,set_mid]
  try dsimp only [oB]
  rw [wrap_cap (m:=m+1+1) (by omega) (by omega)]
  rw [if_pos inB_mid,getD_mid]
  obtain ⟨l2,m2,e2,a2,b2⟩:=p_markStrS hN x.2.2.1 (m+1+1) () (by omega) (by omega) (by have e0:wL wStr x.2.2.1=x.2.2.1.length+sumW wStr x.2.2.1:=rfl;omega)
  try dsimp only
  rw [e2]
  try dsimp only [oB]
  rw [set_mid]
  try dsimp only [oB]
  rw [if_pos inB_mid,getD_mid]
  obtain ⟨l3,m3,e3,a3,b3⟩:=p_markValueS hN x.2.2.2.1 (m2) () (by omega) (by omega) (by omega)
  try dsimp only
  rw [e3]
  try dsimp only [oB]
  rw [set_mid]
  try dsimp only [oB]
  rw [if_pos inB_mid,getD_mid]
  obtain ⟨l4,m4,e4,a4,b4⟩:=p_markLinkS hN x.2.2.2.2.1 (m3) () (by omega) (by omega) (by omega)
  try dsimp only
  rw [e4]
  try dsimp only [oB]
  rw [set_mid]
  try dsimp only [oB]
  rw [if_pos inB_mid,getD_mid]
  obtain ⟨l5,m5,e5,a5,b5⟩:=p_markTypeS hN x.2.2.2.2.2.1 (m4) () (by omega) (by omega) (by omega)
  try dsimp only
  rw [e5]
  try dsimp only [oB]
  rw [set_mid]
  try dsimp only [oB]
  rw [wrap_mid hlen]
  exact ⟨_,_,rfl,by omega,by omega⟩
def c_Unit (x:UT):Nat:=2+(sumW c_Node x.2.1.1+0)
theorem cle_Unit (x:UT):c_Unit x≤2+64*w_Unit x:=by
 have h0:=sumW_le (k:=64) (b:=3) (by omega) cle_Node x.2.1.1
 simp only [c_Unit,w_Unit,w_Prog]
 omega
theorem p_markUnitS {N:Nat} (hN:lim<N) (l:List UT) (m:Int) (u:Unit) (hm:0<m) (hB:m+(sumW c_Unit l:Int)≤capB) (hw:wL w_Unit l<big):∃ l' m',l_markUnitS N (l,m,u)=some (m',l',())∧m≤m'∧m'≤m+(sumW c_Unit l:Int):=by
 have hlim:lim=9223372036854775807:=rfl
 have hbig:big=1048577:=rfl
 have hcap:capB=1152921504606846976:=rfl
 have hl:l.length≤wL w_Unit l:=Nat.le_add_right _ _
 unfold l_markUnitS
 dsimp only
 refine loop_mark_k (c:=c_Unit) (P:=fun x=>w_Unit x<big) (B:=capB) ?hstep ?hdone (fun _ _=>rfl) l m (fun x hx=>?hP) (by omega) hm hB (by omega)
 case hP=>have:=sumW_mem (w:=w_Unit) hx;have e0:wL w_Unit l=l.length+sumW w_Unit l:=rfl;omega
 case hdone=>intro l m;dsimp only;rw [if_neg (by simp)]
 case hstep =>
  intro pre x post m hx hlen hm hB
  have hc:c_Unit x=2+(sumW c_Node x.2.1.1+0):=rfl
  have hw:(w_Prog x.2.1+0)<big:=hx
  have hs1:w_Prog x.2.1=(wL w_Node x.2.1.1+0):=rfl
  dsimp only
  rw [if_pos lt_mid]
  rw [if_pos inB_mid,getD_mid,set_mid]
  try dsimp only [oB]
  rw [wrap_cap (m:=m+1) (by omega) (by omega)]
  rw [if_pos inB_mid,getD_mid]
  obtain ⟨l1,m1,e1,a1,b1⟩:=p_markNodeS hN x.2.1.1 (m+1) () (by omega) (by omega) (by omega)
  try dsimp only
  rw [e1]
  try dsimp only [oB]
  rw [set_mid]
  try dsimp only [oB]
  rw [if_pos inB_mid,getD_mid,set_mid]
  try dsimp only [oB]
  rw [wrap_cap (m:=m1+1) (by omega) (by omega)]
  rw [wrap_mid hlen]
  exact ⟨_,_,rfl,by omega,by omega⟩
def c_Bind (x:BT):Nat:=4+0
theorem cle_Bind (x:BT):c_Bind x≤4+64*w_Bind x:=by
 simp only [c_Bind,w_Bind,w_Value]
 omega
theorem p_markBindS {N:Nat} (hN:lim<N) (l:List BT) (m:Int) (u:Unit) (hm:0<m) (hB:m+(sumW c_Bind l:Int)≤capB) (hw:wL w_Bind l<big):∃ l' m',l_markBindS N (l,m,u)=some (m',l',())∧m≤m'∧m'≤m+(sumW c_Bind l:Int):=by
 have hlim:lim=9223372036854775807:=rfl
 have hbig:big=1048577:=rfl
 have hcap:capB=1152921504606846976:=rfl
 have hl:l.length≤wL w_Bind l:=Nat.le_add_right _ _
 unfold l_markBindS
 dsimp only
 refine loop_mark_k (c:=c_Bind) (P:=fun x=>w_Bind x<big) (B:=capB) ?hstep ?hdone (fun _ _=>rfl) l m (fun x hx=>?hP) (by omega) hm hB (by omega)
 case hP=>have:=sumW_mem (w:=w_Bind) hx;have e0:wL w_Bind l=l.length+sumW w_Bind l:=rfl;omega
 case hdone=>intro l m;dsimp only;rw [if_neg (by simp)]
 case hstep =>
  intro pre x post m hx hlen hm hB
  have hc:c_Bind x=4+0:=rfl
  have hw:(x.1.size+(w_Value x.2.1+0))<big:=hx
  have hs1:w_Value x.2.1=(x.2.1.2.2.1.size+0):=rfl
  dsimp only
  rw [if_pos lt_mid]
  rw [e_markText (m:=m) (by omega) (by omega) hN]
  try dsimp only [oB]
  rw [if_pos inB_mid,getD_mid,set_mid]
  try dsimp only [oB]
  rw [wrap_cap (m:=m+1) (by omega) (by omega)]
  rw [if_pos inB_mid,getD_mid,set_mid]
  try dsimp only [oB]
  rw [wrap_cap (m:=m+1+1) (by omega) (by omega)]
  rw [if_pos inB_mid,getD_mid,set_mid]
  try dsimp only [oB]
  rw [wrap_cap (m:=m+1+1+1) (by omega) (by omega)]
  rw [e_markText (m:=m+1+1+1) (by omega) (by omega) hN]
  try dsimp only [oB]
  rw [if_pos inB_mid,getD_mid,set_mid]
  try dsimp only [oB]
  rw [wrap_cap (m:=m+1+1+1+1) (by omega) (by omega)]
  rw [wrap_mid hlen]
  exact ⟨_,_,rfl,by omega,by omega⟩
def c_Frame (x:FT):Nat:=2+(sumW c_Value x.2.2.1+(sumW c_Bind x.2.2.2.1+0))
theorem cle_Frame (x:FT):c_Frame x≤2+64*w_Frame x:=by
 have h0:=sumW_le (k:=64) (b:=3) (by omega) cle_Value x.2.2.1
 have h1:=sumW_le (k:=64) (b:=4) (by omega) cle_Bind x.2.2.2.1
 simp only [c_Frame,w_Frame]
 omega
theorem p_markFrameS {N:Nat} (hN:lim<N) (l:List FT) (m:Int) (u:Unit) (hm:0<m) (hB:m+(sumW c_Frame l:Int)≤capB) (hw:wL w_Frame l<big):∃ l' m',l_markFrameS N (l,m,u)=some (m',l',())∧m≤m'∧m'≤m+(sumW c_Frame l:Int):=by
 have hlim:lim=9223372036854775807:=rfl
 have hbig:big=1048577:=rfl
 have hcap:capB=1152921504606846976:=rfl
 have hl:l.length≤wL w_Frame l:=Nat.le_add_right _ _
 unfold l_markFrameS
 dsimp only
 refine loop_mark_k (c:=c_Frame) (P:=fun x=>w_Frame x<big) (B:=capB) ?hstep ?hdone (fun _ _=>rfl) l m (fun x hx=>?hP) (by omega) hm hB (by omega)
 case hP=>have:=sumW_mem (w:=w_Frame) hx;have e0:wL w_Frame l=l.length+sumW w_Frame l:=rfl;omega
 case hdone=>intro l m;dsimp only;rw [if_neg (by simp)]
 case hstep =>
  intro pre x post m hx hlen hm hB
  have hc:c_Frame x=2+(sumW c_Value x.2.2.1+(sumW c_Bind x.2.2.2.1+0)):=rfl
  have hw:(wL w_Value x.2.2.1+(wL w_Bind x.2.2.2.1+0))<big:=hx
  dsimp only
  rw [if_pos lt_mid]
  rw [if_pos inB_mid,getD_mid,set_mid]
  try dsimp only [oB]
  rw [wrap_cap (m:=m+1) (by omega) (by omega)]
  rw [if_pos inB_mid,getD_mid,set_mid]
  try dsimp only [oB]
  rw [wrap_cap (m:=m+1+1) (by omega) (by omega)]
  rw [if_pos inB_mid,getD_mid]
  obtain ⟨l2,m2,e2,a2,b2⟩:=p_markValueS hN x.2.2.1 (m+1+1) () (by omega) (by omega) (by omega)
  try dsimp only
  rw [e2]
  try dsimp only [oB]
  rw [set_mid]
  try dsimp only [oB]
  rw [if_pos inB_mid,getD_mid]
  obtain ⟨l3,m3,e3,a3,b3⟩:=p_markBindS hN x.2.2.2.1 (m2) () (by omega) (by omega) (by omega)
  try dsimp only
  rw [e3]
  try dsimp only [oB]
  rw [set_mid]
  try dsimp only [oB]
  rw [wrap_mid hlen]
  exact ⟨_,_,rfl,by omega,by omega⟩
def c_Ent (x:ET):Nat:=3+(x.1.2.1.length+(x.1.2.2.1.length+(sumW c_Type x.1.2.2.2.1+(sumW c_Def x.1.2.2.2.2.1+(sumW c_Def x.1.2.2.2.2.2.1+0)))))
theorem cle_Ent (x:ET):c_Ent x≤3+64*w_Ent x:=by
 have h0:x.1.2.1.length≤wL wStr x.1.2.1:=Nat.le_add_right _ _
 have h1:x.1.2.2.1.length≤wL wStr x.1.2.2.1:=Nat.le_add_right _ _
 have h2:=sumW_le (k:=64) (b:=2) (by omega) cle_Type x.1.2.2.2.1
 have h3:=sumW_le (k:=64) (b:=2) (by omega) cle_Def x.1.2.2.2.2.1
 have h4:=sumW_le (k:=64) (b:=2) (by omega) cle_Def x.1.2.2.2.2.2.1
 simp only [c_Ent,w_Ent,w_Src]
 omega
set_option maxHeartbeats 4000000 in
theorem p_markEntS {N:Nat} (hN:lim<N) (l:List ET) (m:Int) (u:Unit) (hm:0<m) (hB:m+(sumW c_Ent l:Int)≤capB) (hw:wL w_Ent l<big):∃ l' m',l_markEntS N (l,m,u)=some (m',l',())∧m≤m'∧m'≤m+(sumW c_Ent l:Int):=by
 have hlim:lim=9223372036854775807:=rfl
 have hbig:big=1048577:=rfl
 have hcap:capB=1152921504606846976:=rfl
 have hl:l.length≤wL w_Ent l:=Nat.le_add_right _ _
 unfold l_markEntS
 dsimp only
 refine loop_mark_k (c:=c_Ent) (P:=fun x=>w_Ent x<big) (B:=capB) (fun pre x post m hx hlen hm hB=>Okm.step ?hstep) ?hdone (fun _ _=>rfl) l m (fun x hx=>?hP) (by omega) hm hB (by omega)
 case hP=>have:=sumW_mem (w:=w_Ent) hx;have e0:wL w_Ent l=l.length+sumW w_Ent l:=rfl;omega
 case hdone=>intro l m;dsimp only;rw [if_neg (by simp)]
 case hstep =>
  have hc:c_Ent x=3+(x.1.2.1.length+(x.1.2.2.1.length+(sumW c_Type x.1.2.2.2.1+(sumW c_Def x.1.2.2.2.2.1+(sumW c_Def x.1.2.2.2.2.2.1+0))))):=rfl
  have hw:(w_Src x.1+0)<big:=hx
  have hs0:w_Src x.1=(x.1.1.size+(wL wStr x.1.2.1+(wL wStr x.1.2.2.1+(wL w_Type x.1.2.2.2.1+(wL w_Def x.1.2.2.2.2.1+(wL w_Def x.1.2.2.2.2.2.1+0)))))):=rfl
  dsimp only
  rw [if_pos lt_mid]
  refine Okm.bind (P:=fun _=>True) ⟨_,(e_markText (m:=m) (by omega) (by omega) hN),trivial⟩ fun r1 _=>?_
  refine Okm.ifB (Okm.set (fun z=>z.1.2.1=x.1.2.1∧z.1.2.2.1=x.1.2.2.1∧z.1.2.2.2.1=x.1.2.2.2.1∧z.1.2.2.2.2.1=x.1.2.2.2.2.1∧z.1.2.2.2.2.2.1=x.1.2.2.2.2.2.1) (by rw [getD_mid];exact ⟨rfl,rfl,rfl,rfl,rfl⟩) fun z1 h1=>?_)
  have w1:=wrap_cap (m:=m+1) (by omega) (by omega)
  refine Okm.ifB (Okm.bind (Okm.mark (l:=x.1.2.1) (m:=m+1) (c:=x.1.2.1.length) (by rw [getD_mid];exact h1.1) (by simp only [w1]) (p_markStrS hN x.1.2.1 (m+1) () (by omega) (by omega) (by have e0:wL wStr x.1.2.1=x.1.2.1.length+sumW wStr x.1.2.1:=rfl;omega))) fun r2 g2=>?_)
  refine Okm.set (fun z=>z.1.2.2.1=x.1.2.2.1∧z.1.2.2.2.1=x.1.2.2.2.1∧z.1.2.2.2.2.1=x.1.2.2.2.2.1∧z.1.2.2.2.2.2.1=x.1.2.2.2.2.2.1) (by rw [getD_mid];exact ⟨h1.2.1,h1.2.2.1,h1.2.2.2.1,h1.2.2.2.2⟩) fun z2 h2=>?_
  refine Okm.ifB (Okm.bind (Okm.mark (l:=x.1.2.2.1) (m:=r2.1) (c:=x.1.2.2.1.length) (by rw [getD_mid];exact h2.1) (rfl) (p_markStrS hN x.1.2.2.1 (r2.1) () (by omega) (by omega) (by have e0:wL wStr x.1.2.2.1=x.1.2.2.1.length+sumW wStr x.1.2.2.1:=rfl;omega))) fun r3 g3=>?_)
  refine Okm.set (fun z=>z.1.2.2.2.1=x.1.2.2.2.1∧z.1.2.2.2.2.1=x.1.2.2.2.2.1∧z.1.2.2.2.2.2.1=x.1.2.2.2.2.2.1) (by rw [getD_mid];exact ⟨h2.2.1,h2.2.2.1,h2.2.2.2⟩) fun z3 h3=>?_
  refine Okm.ifB (Okm.bind (Okm.mark (l:=x.1.2.2.2.1) (m:=r3.1) (c:=sumW c_Type x.1.2.2.2.1) (by rw [getD_mid];exact h3.1) (rfl) (p_markTypeS hN x.1.2.2.2.1 (r3.1) () (by omega) (by omega) (by omega))) fun r4 g4=>?_)
  refine Okm.set (fun z=>z.1.2.2.2.2.1=x.1.2.2.2.2.1∧z.1.2.2.2.2.2.1=x.1.2.2.2.2.2.1) (by rw [getD_mid];exact ⟨h3.2.1,h3.2.2⟩) fun z4 h4=>?_
  refine Okm.ifB (Okm.bind (Okm.mark (l:=x.1.2.2.2.2.1) (m:=r4.1) (c:=sumW c_Def x.1.2.2.2.2.1) (by rw [getD_mid];exact h4.1) (rfl) (p_markDefS hN x.1.2.2.2.2.1 (r4.1) () (by omega) (by omega) (by omega))) fun r5 g5=>?_)
  refine Okm.set (fun z=>z.1.2.2.2.2.2.1=x.1.2.2.2.2.2.1) (by rw [getD_mid];exact h4.2) fun z5 h5=>?_
  refine Okm.ifB (Okm.bind (Okm.mark (l:=x.1.2.2.2.2.2.1) (m:=r5.1) (c:=sumW c_Def x.1.2.2.2.2.2.1) (by rw [getD_mid];exact h5) (rfl) (p_markDefS hN x.1.2.2.2.2.2.1 (r5.1) () (by omega) (by omega) (by omega))) fun r6 g6=>?_)
  refine Okm.set (fun z=>True) (trivial) fun z6 h6=>?_
  refine Okm.ifB (Okm.set (fun z=>True) (trivial) fun z7 h7=>?_)
  have w2:=wrap_cap (m:=r6.1+1) (by omega) (by omega)
  refine Okm.ifB (Okm.set (fun z=>True) (trivial) fun z8 h8=>?_)
  have w3:=wrap_cap (m:=r6.1+1+1) (by omega) (by omega)
  refine ⟨_,rfl,z8,r6.1+1+1,?_,by omega,by omega⟩
  rw [w2,w3,wrap_mid hlen]
def c_Task (x:KT):Nat:=8+(sumW c_Bind x.2.1.2.2.2.1+(sumW c_Frame x.2.1.2.2.2.2.2.1+0))
theorem cle_Task (x:KT):c_Task x≤8+64*w_Task x:=by
 have h0:=sumW_le (k:=64) (b:=4) (by omega) cle_Bind x.2.1.2.2.2.1
 have h1:=sumW_le (k:=64) (b:=2) (by omega) cle_Frame x.2.1.2.2.2.2.2.1
 simp only [c_Task,w_Task,w_Machine,w_Value]
 omega
set_option maxHeartbeats 4000000 in
theorem p_markTaskS {N:Nat} (hN:lim<N) (l:List KT) (m:Int) (u:Unit) (hm:0<m) (hB:m+(sumW c_Task l:Int)≤capB) (hw:wL w_Task l<big):∃ l' m',l_markTaskS N (l,m,u)=some (m',l',())∧m≤m'∧m'≤m+(sumW c_Task l:Int):=by
 have hlim:lim=9223372036854775807:=rfl
 have hbig:big=1048577:=rfl
 have hcap:capB=1152921504606846976:=rfl
 have hl:l.length≤wL w_Task l:=Nat.le_add_right _ _
 unfold l_markTaskS
 dsimp only
 refine loop_mark_k (c:=c_Task) (P:=fun x=>w_Task x<big) (B:=capB) (fun pre x post m hx hlen hm hB=>Okm.step ?hstep) ?hdone (fun _ _=>rfl) l m (fun x hx=>?hP) (by omega) hm hB (by omega)
 case hP=>have:=sumW_mem (w:=w_Task) hx;have e0:wL w_Task l=l.length+sumW w_Task l:=rfl;omega
 case hdone=>intro l m;dsimp only;rw [if_neg (by simp)]
 case hstep =>
  have hc:c_Task x=8+(sumW c_Bind x.2.1.2.2.2.1+(sumW c_Frame x.2.1.2.2.2.2.2.1+0)):=rfl
  have hw:(w_Machine x.2.1+0)<big:=hx
  have hs1:w_Machine x.2.1=(wL w_Bind x.2.1.2.2.2.1+(w_Value x.2.1.2.2.2.2.1+(wL w_Frame x.2.1.2.2.2.2.2.1+0))):=rfl
  have hs4:w_Value x.2.1.2.2.2.2.1=(x.2.1.2.2.2.2.1.2.2.1.size+0):=rfl
  dsimp only
  rw [if_pos lt_mid]
  refine Okm.ifB (Okm.set (fun z=>z.2.1.2.2.2.1=x.2.1.2.2.2.1∧z.2.1.2.2.2.2.2.1=x.2.1.2.2.2.2.2.1) (by rw [getD_mid];exact ⟨rfl,rfl⟩) fun z1 h1=>?_)
  have w1:=wrap_cap (m:=m+1) (by omega) (by omega)
  refine Okm.ifB (Okm.set (fun z=>z.2.1.2.2.2.1=x.2.1.2.2.2.1∧z.2.1.2.2.2.2.2.1=x.2.1.2.2.2.2.2.1) (by rw [getD_mid];exact ⟨h1.1,h1.2⟩) fun z2 h2=>?_)
  have w2:=wrap_cap (m:=m+1+1) (by omega) (by omega)
  refine Okm.ifB (Okm.set (fun z=>z.2.1.2.2.2.1=x.2.1.2.2.2.1∧z.2.1.2.2.2.2.2.1=x.2.1.2.2.2.2.2.1) (by rw [getD_mid];exact ⟨h2.1,h2.2⟩) fun z3 h3=>?_)
  have w3:=wrap_cap (m:=m+1+1+1) (by omega) (by omega)
  refine Okm.ifB (Okm.set (fun z=>z.2.1.2.2.2.1=x.2.1.2.2.2.1∧z.2.1.2.2.2.2.2.1=x.2.1.2.2.2.2.2.1) (by rw [getD_mid];exact ⟨h3.1,h3.2⟩) fun z4 h4=>?_)
  have w4:=wrap_cap (m:=m+1+1+1+1) (by omega) (by omega)
  refine Okm.ifB (Okm.bind (Okm.mark (l:=x.2.1.2.2.2.1) (m:=m+1+1+1+1) (c:=sumW c_Bind x.2.1.2.2.2.1) (by rw [getD_mid];exact h4.1) (by simp only [w1,w2,w3,w4]) (p_markBindS hN x.2.1.2.2.2.1 (m+1+1+1+1) () (by omega) (by omega) (by omega))) fun r1 g1=>?_)
  refine Okm.set (fun z=>z.2.1.2.2.2.2.2.1=x.2.1.2.2.2.2.2.1) (by rw [getD_mid];exact h4.2) fun z5 h5=>?_
  refine Okm.ifB (Okm.set (fun z=>z.2.1.2.2.2.2.2.1=x.2.1.2.2.2.2.2.1) (by rw [getD_mid];exact h5) fun z6 h6=>?_)
  have w5:=wrap_cap (m:=r1.1+1) (by omega) (by omega)
  refine Okm.ifB (Okm.set (fun z=>z.2.1.2.2.2.2.2.1=x.2.1.2.2.2.2.2.1) (by rw [getD_mid];exact h6) fun z7 h7=>?_)
  have w6:=wrap_cap (m:=r1.1+1+1) (by omega) (by omega)
  refine Okm.bind (P:=fun _=>True) ⟨_,(by rw [w5,w6];exact e_markText (m:=r1.1+1+1) (by omega) (by omega) hN),trivial⟩ fun r2 _=>?_
  refine Okm.ifB (Okm.set (fun z=>z.2.1.2.2.2.2.2.1=x.2.1.2.2.2.2.2.1) (by rw [getD_mid];exact h7) fun z8 h8=>?_)
  have w7:=wrap_cap (m:=r1.1+1+1+1) (by omega) (by omega)
  refine Okm.ifB (Okm.bind (Okm.mark (l:=x.2.1.2.2.2.2.2.1) (m:=r1.1+1+1+1) (c:=sumW c_Frame x.2.1.2.2.2.2.2.1) (by rw [getD_mid];exact h8) (by simp only [w5,w6,w7]) (p_markFrameS hN x.2.1.2.2.2.2.2.1 (r1.1+1+1+1) () (by omega) (by omega) (by omega))) fun r3 g3=>?_)
  refine Okm.set (fun z=>True) (trivial) fun z9 h9=>?_
  refine Okm.ifB (Okm.set (fun z=>True) (trivial) fun z10 h10=>?_)
  have w8:=wrap_cap (m:=r3.1+1) (by omega) (by omega)
  refine ⟨_,rfl,z10,r3.1+1,?_,by omega,by omega⟩
  rw [w8,wrap_mid hlen]
def c_Sys (x:YT):Nat:=0+(sumW c_Cell x.1+(sumW c_Inst x.2.1+(sumW c_Unit x.2.2.1+(x.2.2.2.1.length+0))))
theorem cle_Sys (x:YT):c_Sys x≤0+64*w_Sys x:=by
 have h0:=sumW_le (k:=64) (b:=4) (by omega) cle_Cell x.1
 have h1:=sumW_le (k:=64) (b:=2) (by omega) cle_Inst x.2.1
 have h2:=sumW_le (k:=64) (b:=2) (by omega) cle_Unit x.2.2.1
 have h3:x.2.2.2.1.length≤wL wStr x.2.2.2.1:=Nat.le_add_right _ _
 simp only [c_Sys,w_Sys]
 omega
theorem p_markSys {N:Nat} (hN:lim<N) (x:YT) (m:Int) (u:Unit) (hm:0<m) (hB:m+(c_Sys x:Int)≤capB) (hw:w_Sys x<big):∃ m',l_markSys N (x,m,u)=some (m',())∧m≤m'∧m'≤m+(c_Sys x:Int):=by
 have hlim:lim=9223372036854775807:=rfl
 have hbig:big=1048577:=rfl
 have hcap:capB=1152921504606846976:=rfl
 have hc:c_Sys x=0+(sumW c_Cell x.1+(sumW c_Inst x.2.1+(sumW c_Unit x.2.2.1+(x.2.2.2.1.length+0)))):=rfl
 have hw:(wL w_Cell x.1+(wL w_Inst x.2.1+(wL w_Unit x.2.2.1+(wL wStr x.2.2.2.1+0))))<big:=hw
 unfold l_markSys
 obtain ⟨l0,m0,e0,a0,b0⟩:=p_markCellS hN x.1 (m) () (by omega) (by omega) (by omega)
 try dsimp only
 rw [e0]
 dsimp only [oB]
 obtain ⟨l1,m1,e1,a1,b1⟩:=p_markInstS hN x.2.1 (m0) () (by omega) (by omega) (by omega)
 try dsimp only
 rw [e1]
 dsimp only [oB]
 obtain ⟨l2,m2,e2,a2,b2⟩:=p_markUnitS hN x.2.2.1 (m1) () (by omega) (by omega) (by omega)
 try dsimp only
 rw [e2]
 dsimp only [oB]
 obtain ⟨l3,m3,e3,a3,b3⟩:=p_markStrS hN x.2.2.2.1 (m2) () (by omega) (by omega) (by have e0:wL wStr x.2.2.2.1=x.2.2.2.1.length+sumW wStr x.2.2.2.1:=rfl;omega)
 try dsimp only
 rw [e3]
 dsimp only [oB]
 exact ⟨_,rfl,by omega,by omega⟩
def c_World (x:WT):Nat:=0+(c_Sys x.1+(sumW c_Ent x.2.1+(sumW c_Task x.2.2.1+0)))
theorem cle_World (x:WT):c_World x≤0+64*w_World x:=by
 have h0:=cle_Sys x.1
 have h1:=sumW_le (k:=64) (b:=3) (by omega) cle_Ent x.2.1
 have h2:=sumW_le (k:=64) (b:=8) (by omega) cle_Task x.2.2.1
 have e0:wL w_Ent x.2.1=x.2.1.length+sumW w_Ent x.2.1:=rfl
 have e1:wL w_Task x.2.2.1=x.2.2.1.length+sumW w_Task x.2.2.1:=rfl
 simp only [c_World,w_World]
 omega
theorem p_markWorld {N:Nat} (hN:lim<N) (x:WT) (m:Int) (u:Unit) (hm:0<m) (hB:m+(c_World x:Int)≤capB) (hw:w_World x<big):∃ m',l_markWorld N (x,m,u)=some (m',())∧m≤m'∧m'≤m+(c_World x:Int):=by
 have hc:c_World x=0+(c_Sys x.1+(sumW c_Ent x.2.1+(sumW c_Task x.2.2.1+0))):=rfl
 have hw':(w_Sys x.1+(wL w_Ent x.2.1+(wL w_Task x.2.2.1+0)))<big:=hw
 unfold l_markWorld
 obtain ⟨m1,e1,a1,b1⟩:=p_markSys hN x.1 m () hm (by omega) (by omega)
 obtain ⟨l2,m2,e2,a2,b2⟩:=p_markEntS hN x.2.1 m1 () (by omega) (by omega) (by omega)
 obtain ⟨l3,m3,e3,a3,b3⟩:=p_markTaskS hN x.2.2.1 m2 () (by omega) (by omega) (by omega)
 refine ⟨m3,?_,by omega,by omega⟩
 dsimp only
 rw [e1]
 dsimp only [oB]
 rw [e2]
 dsimp only [oB]
 rw [e3]
 rfl
end Go.Rf
namespace Go.Rf
theorem sys_heap {y:YT} (h:sysB y=true):heapOk y.1=true:=by
 unfold sysB at h
 simp only [bA] at h
 exact h.1
theorem world_sys {w:WT} (h:worldB w=true):sysB w.1=true:=by
 unfold worldB at h
 simp only [bA] at h
 exact h.1
end Go.Rf
namespace Go.Rf
end Go.Rf
namespace Go.Rf
abbrev TlT:=Int×Int×Unit
def Srt (l:List TlT):Prop:=l.Pairwise fun s t=>s.1<t.1
theorem srt_ext:∀ {l m:List TlT},Srt l→Srt m→(∀ t,t∈l↔t∈m)→l=m:=by
 intro l
 induction l with
 | nil =>
  intro m _ _ h
  cases m with
  | nil=>rfl
  | cons b m=>have:=(h b).2 (by simp);simp at this
 | cons a l ih =>
  intro m hl hm h
  cases m with
  | nil=>have:=(h a).1 (by simp);simp at this
  | cons b m =>
   obtain ⟨l1,l2⟩:=List.pairwise_cons.1 hl
   obtain ⟨m1,m2⟩:=List.pairwise_cons.1 hm
   have hab:a=b:=by
    rcases List.mem_cons.1 ((h a).1 (by simp)) with e | e
    ·exact e
    ·rcases List.mem_cons.1 ((h b).2 (by simp)) with e2 | e2
     ·exact e2.symm
     ·have:=m1 a e;have:=l1 b e2;omega
   subst hab
   congr 1
   refine ih l2 m2 fun t=>⟨fun ht=>?_,fun ht=>?_⟩
   ·rcases List.mem_cons.1 ((h t).1 (by simp [ht])) with e | e
    ·subst e;have:=l1 t ht;omega
    ·exact e
   ·rcases List.mem_cons.1 ((h t).2 (by simp [ht])) with e | e
    ·subst e;have:=m1 t ht;omega
    ·exact e
structure Tab (K:List Int) (l:List TlT):Prop where
 srt:Srt l
 mem:∀ t,t∈l↔(t.1∈K∧t.2.1=(K.count t.1:Int))
theorem Tab.uniq {K:List Int}{l m:List TlT} (hl:Tab K l) (hm:Tab K m):l=m :=
 srt_ext hl.srt hm.srt fun t=>(hl.mem t).trans (hm.mem t).symm
def ltL (l:List TlT) (a:Int):List TlT:=l.filter fun t=>decide (t.1<a)
def geL (l:List TlT) (a:Int):List TlT:=l.filter fun t=>decide (a≤t.1)
theorem split_at (a:Int):∀ {l:List TlT},Srt l→l=ltL l a++geL l a:=by
 intro l
 induction l with
 | nil=>intro _;rfl
 | cons t l ih =>
  intro h
  obtain ⟨h1,h2⟩:=List.pairwise_cons.1 h
  by_cases hc:t.1<a
  ·have e1:ltL (t::l) a=t::ltL l a:=by simp [ltL,hc]
   have e2:geL (t::l) a=geL l a:=by simp only [geL];rw [List.filter_cons_of_neg (by simp;omega)]
   rw [e1,e2,List.cons_append,← ih h2]
  ·have e1:ltL (t::l) a=[]:=by
    simp only [ltL]
    rw [List.filter_cons_of_neg (by simpa using hc),List.filter_eq_nil_iff]
    intro x hx
    have:=h1 x hx
    simp;omega
   have e2:geL (t::l) a=t::l:=by
    simp only [geL]
    rw [List.filter_eq_self]
    intro x hx
    rcases List.mem_cons.1 hx with rfl | hx
    ·simp;omega
    ·have:=h1 x hx;simp;omega
   rw [e1,e2,List.nil_append]
theorem lt_iff {l:List TlT} (h:Srt l) (a:Int){j:Nat} (hj:j<l.length):(l.getD j ((0:Int),(0:Int),())).1<a↔j<(ltL l a).length:=by
 have hs:=split_at a h
 rw [getD_lt hj]
 by_cases hc:j<(ltL l a).length
 ·have e:l[j]=(ltL l a)[j]:=by
   have:l[j]?=(ltL l a)[j]?:=by conv=>lhs;rw [hs]
                                rw [List.getElem?_append_left hc]
   rw [List.getElem?_eq_getElem hj,List.getElem?_eq_getElem hc] at this
   exact Option.some.inj this
  have hm:(ltL l a)[j]∈ltL l a:=List.getElem_mem hc
  rw [e]
  have:=(List.mem_filter.1 hm).2
  simp only [decide_eq_true_eq] at this
  exact ⟨fun _=>hc,fun _=>this⟩
 ·have hg:j-(ltL l a).length<(geL l a).length:=by
   have:l.length=(ltL l a).length+(geL l a).length:=by conv=>lhs;rw [hs,List.length_append]
   omega
  have e:l[j]=(geL l a)[j-(ltL l a).length]:=by
   have:l[j]?=(geL l a)[j-(ltL l a).length]?:=by conv=>lhs;rw [hs]
                                                 rw [List.getElem?_append_right (by omega)]
   rw [List.getElem?_eq_getElem hj,List.getElem?_eq_getElem hg] at this
   exact Option.some.inj this
  have hm:(geL l a)[j-(ltL l a).length]∈geL l a:=List.getElem_mem hg
  have:=(List.mem_filter.1 hm).2
  simp only [decide_eq_true_eq] at this
  rw [e]
  exact ⟨fun h=>by omega,fun h=>absurd h hc⟩
end Go.Rf
namespace Go.Rf
theorem e_cmpT (N:Nat) (t:TlT) (a:Int) (u:Unit):i_RecordsOf_1 N (t,a,u)=some (if t.1<a then -1 else if a<t.1 then 1 else 0,()):=by
 unfold i_RecordsOf_1 g_cmp_Compare_int_ g_cmp_isNaN_int_
 by_cases h1:t.1<a
 ·simp [h1]
 ·by_cases h2:a<t.1
  ·simp [h1,h2]
  ·simp [h1,h2]
theorem mid_eq {p q:Nat} (h:p+q<9000000000000000000):wI (Int.fdiv (IntKind.wrap .u64 (wI ((p:Int)+(q:Int)))) (2 ^ (min (Int.toNat 1) (IntKind.bits .u64))))=(((p+q) / 2:Nat):Int):=by
 have e1:wI ((p:Int)+(q:Int))=((p+q:Nat):Int):=by rw [wrap_id (by omega) (by omega)];simp
 have e2:IntKind.wrap .u64 ((p+q:Nat):Int)=((p+q:Nat):Int):=by
  have:IntKind.wrap .u64 ((p+q:Nat):Int)=((p+q:Nat):Int) % 18446744073709551616:=by simp [IntKind.wrap,IntKind.bits,IntKind.signed]
  rw [this];omega
 have e3:(2:Int) ^ (min (Int.toNat 1) (IntKind.bits .u64))=2:=by decide
 rw [e1,e2,e3,Int.fdiv_eq_ediv_of_nonneg _ (by omega)]
 rw [show ((p+q:Nat):Int) / 2=(((p+q) / 2:Nat):Int) by omega]
 exact wrap_id (by omega) (by omega)
def hasT (l:List TlT) (a:Int):Bool:=decide ((ltL l a).length<l.length) && decide ((l.getD (ltL l a).length ((0:Int),(0:Int),())).1=a)
theorem ltL_le (l:List TlT) (a:Int):(ltL l a).length≤l.length:=List.length_filter_le _ _
theorem e_bsT (N:Nat) (l:List TlT) (a:Int) (u v:Unit) (hs:Srt l) (hl:l.length<big) (hN:big≤N) :
  g_slices_BinarySearchFunc_loop_example_g00765_impl_Tally_loop_example_g00765_impl_Tally_int_ N (l,a,u,v)=some (((ltL l a).length:Int),hasT l a,()):=by
 have hb:big=1048577:=rfl
 have hle:=ltL_le l a
 unfold g_slices_BinarySearchFunc_loop_example_g00765_impl_Tally_loop_example_g00765_impl_Tally_int_
 dsimp only
 obtain ⟨r,e,hr⟩:=iter_inv (C:=Int×Bool×Unit) (f:=fun s1:Int×Int×Unit =>
  (if (decide (s1.1<s1.2.1))=true then
  (if 1<0 then none else
  (if inB (wI (Int.fdiv (IntKind.wrap .u64 (wI (s1.1+s1.2.1))) (2 ^ (min (Int.toNat 1) (IntKind.bits .u64))))) (List.length l) then
  (i_RecordsOf_1 N (List.getD l (Int.toNat (wI (Int.fdiv (IntKind.wrap .u64 (wI (s1.1+s1.2.1))) (2 ^ (min (Int.toNat 1) (IntKind.bits .u64)))))) (0,(0,())),a,())).bind fun r2 =>
  ((if (decide (r2.1<0))=true then
  some (wI ((wI (Int.fdiv (IntKind.wrap .u64 (wI (s1.1+s1.2.1))) (2 ^ (min (Int.toNat 1) (IntKind.bits .u64)))))+1),s1.2.1,()) else
  some (s1.1,wI (Int.fdiv (IntKind.wrap .u64 (wI (s1.1+s1.2.1))) (2 ^ (min (Int.toNat 1) (IntKind.bits .u64)))),())):Option (Int×Int×Unit)).bind fun j3 =>
  some (Step.more (j3.1,j3.2.1,())) else none)) else
  some (Step.done (s1.1,()))))
  (fun s=>∃ p q:Nat,s=((p:Int),(q:Int),())∧p≤(ltL l a).length∧(ltL l a).length≤q∧q≤l.length) (fun s=>(s.2.1-s.1).toNat)
  (fun r=>r=.inl (((ltL l a).length:Int),())) (fun s hJ=>by
    obtain ⟨p,q,rfl,h1,h2,h3⟩:=hJ
    dsimp only
    by_cases hpq:p<q
    ·rw [if_pos (decide_eq_true (by omega)),if_neg (by decide),mid_eq (by omega),if_pos (inB_nat.2 (by omega)),tN,e_cmpT,wrap_nat (by omega)]
     dsimp only [oB]
     have hlt:=lt_iff hs a (j:=(p+q) / 2) (by omega)
     by_cases hc:(l.getD ((p+q) / 2) ((0:Int),(0:Int),())).1<a
     ·rw [if_pos hc]
      have hc2:=hlt.1 hc
      refine ⟨_,rfl,⟨(p+q) / 2+1,q,rfl,by omega,h2,h3⟩,?_⟩
      simp only
      omega
     ·rw [if_neg hc]
      have hc2:¬ ((p+q) / 2<(ltL l a).length):=fun h=>hc (hlt.2 h)
      have hd:decide ((if a<(l.getD ((p+q) / 2) ((0:Int),(0:Int),())).1 then (1:Int) else 0)<0)=false:=by
       apply decide_eq_false
       split <;> omega
      rw [hd]
      refine ⟨_,rfl,⟨p,(p+q) / 2,rfl,h1,by omega,by omega⟩,?_⟩
      simp only
      omega
    ·rw [if_neg (by simp;omega)]
     refine ⟨_,rfl,?_⟩
     simp only
     rw [show p=(ltL l a).length by omega]) (N:=N) (x:=((0:Int),(l.length:Int),())) ⟨0,l.length,rfl,Nat.zero_le _,hle,Nat.le_refl _⟩ (by simp;omega)
 rw [e,hr]
 dsimp only [oB]
 unfold hasT
 by_cases hlt:(ltL l a).length<l.length
 ·have hlt':((ltL l a).length:Int)<(l.length:Int):=by omega
  rw [if_pos (decide_eq_true hlt'),if_pos (inB_nat.2 hlt),tN,e_cmpT]
  dsimp only [oB]
  have hge:¬ (l.getD (ltL l a).length ((0:Int),(0:Int),())).1<a:=fun h=>Nat.lt_irrefl _ ((lt_iff hs a hlt).1 h)
  rw [if_neg hge,decide_eq_true hlt,Bool.true_and]
  by_cases hgt:a<(l.getD (ltL l a).length ((0:Int),(0:Int),())).1
  ·rw [if_pos hgt,decide_eq_false (show ¬ ((1:Int)=0) by decide),decide_eq_false (by omega)]
  ·rw [if_neg hgt,decide_eq_true (show (0:Int)=0 from rfl),decide_eq_true (by omega)]
 ·rw [if_neg (by simp;omega),decide_eq_false hlt,Bool.false_and]
  rfl
end Go.Rf
namespace Go.Rf
theorem loop_ex {σ A B C D:Type}{f:A→Option (Step A B C)}{K:B ⊕ C→Option D} (enc:σ→Nat→A) (J:Nat→σ→Prop) (b:σ→B) (n:Nat)
  (h:∀ i s,i<n→J i s→∃ s',f (enc s i)=some (.more (enc s' (i+1)))∧J (i+1) s')
  (hd:∀ s,J n s→f (enc s n)=some (.done (b s))){N:Nat} (s:σ) (x0:A) (hx:x0=enc s 0) (hJ:J 0 s) (hN:n<N) :
  ∃ s',(iter f N x0).bind K=K (.inl (b s'))∧J n s':=by
 have key:∀ (k i:Nat) (s:σ) (N:Nat),i+k=n→J i s→k<N→∃ s',iter f N (enc s i)=some (.inl (b s'))∧J n s':=by
  intro k
  induction k with
  | zero =>
   intro i s N hi hJ hN
   obtain ⟨N,rfl⟩:∃ k,N=k+1:=⟨N-1,by omega⟩
   obtain rfl:i=n:=by omega
   exact ⟨s,by simp only [iter,hd s hJ],hJ⟩
  | succ k ih =>
   intro i s N hi hJ hN
   obtain ⟨N,rfl⟩:∃ k,N=k+1:=⟨N-1,by omega⟩
   obtain ⟨s1,e1,hJ1⟩:=h i s (by omega) hJ
   obtain ⟨s2,k1,k2⟩:=ih (i+1) s1 N (by omega) hJ1 (by omega)
   exact ⟨s2,by simp only [iter,e1];exact k1,k2⟩
 subst hx
 obtain ⟨s',k1,k2⟩:=key n 0 s N (by omega) hJ hN
 exact ⟨s',by rw [k1];rfl,k2⟩
theorem tab_one {K:List Int}{l A B:List TlT}{a n:Int} (h:Tab K l) (hA:∀ t∈A,t.1<a) (hB:∀ t∈B,a<t.1) (hl:l=A++(a,n,())::B∨(l=A++B∧n=0)) :
  Tab (K++[a]) (A++(a,n+1,())::B)∧n=(K.count a:Int):=by
 have hn:n=(K.count a:Int):=by
  rcases hl with e | ⟨e,rfl⟩
  ·exact ((h.mem (a,n,())).1 (by rw [e];simp)).2
  ·by_cases hk:a∈K
   ·have hm:=(h.mem (a,(K.count a:Int),())).2 ⟨hk,rfl⟩
    rw [e] at hm
    rcases List.mem_append.1 hm with hm | hm
    ·have:=hA _ hm;simp at this
    ·have:=hB _ hm;simp at this
   ·rw [List.count_eq_zero.2 hk];rfl
 have hsA:Srt A∧Srt B:=by
  rcases hl with e | ⟨e,_⟩
  ·have:=h.srt;rw [e] at this
   have h1:=List.pairwise_append.1 this
   exact ⟨h1.1,(List.pairwise_cons.1 h1.2.1).2⟩
  ·have:=h.srt;rw [e] at this
   have h1:=List.pairwise_append.1 this
   exact ⟨h1.1,h1.2.1⟩
 refine ⟨⟨?_,fun t=>?_⟩,hn⟩
 ·refine List.pairwise_append.2 ⟨hsA.1,List.pairwise_cons.2 ⟨fun t ht=>hB t ht,hsA.2⟩,fun s hs t ht=>?_⟩
  rcases List.mem_cons.1 ht with rfl | ht
  ·exact hA s hs
  ·have:=hA s hs;have:=hB t ht;omega
 ·by_cases hta:t.1=a
  ·have hr:t∈A++(a,n+1,())::B↔t=(a,n+1,()):=by
    constructor
    ·intro ht
     rcases List.mem_append.1 ht with ht | ht
     ·have:=hA t ht;omega
     ·rcases List.mem_cons.1 ht with ht | ht
      ·exact ht
      ·have:=hB t ht;omega
    ·intro ht;simp [ht]
   rw [hr,hta,List.count_append]
   simp only [List.mem_append,List.mem_singleton,or_true,true_and,List.count_singleton_self]
   constructor
   ·rintro rfl;simp;omega
   ·intro h2
    obtain ⟨t1,t2,⟨⟩⟩:=t
    simp only at hta h2
    subst hta
    rw [h2,hn];simp
  ·have hr:t∈A++(a,n+1,())::B↔t∈l:=by
    have hne:∀ m:Int,t≠(a,m,()):=by rintro m rfl;exact hta rfl
    rcases hl with e | ⟨e,_⟩ <;> rw [e] <;> simp [hne]
   have hc:(K++[a]).count t.1=K.count t.1:=by
    rw [List.count_append,List.count_singleton]
    have:(a == t.1)=false:=by simpa using fun h=>hta h.symm
    simp [this]
   rw [hr,h.mem t,hc]
   have hm:t.1∈K++[a]↔t.1∈K:=by simp [hta]
   rw [hm]
def l1T (l:List TlT) (a:Int):List TlT:=if hasT l a=true then l else l.take (ltL l a).length++[(a,0,())]++l.drop (ltL l a).length
theorem l1_form {K:List Int}{l:List TlT} (a:Int) (h:Tab K l):∃ A B n,A.length=(ltL l a).length∧(∀ t∈A,t.1<a)∧(∀ t∈B,a<t.1)∧(l=A++(a,n,())::B∨(l=A++B∧n=0))∧l1T l a=A++(a,n,())::B:=by
 have hs:=split_at a h.srt
 have hlen:l.length=(ltL l a).length+(geL l a).length:=by conv=>lhs;rw [hs,List.length_append]
 have hA:∀ t∈ltL l a,t.1<a:=fun t ht=>by have:=(List.mem_filter.1 ht).2;simpa using this
 have hG:∀ t∈geL l a,a≤t.1:=fun t ht=>by have:=(List.mem_filter.1 ht).2;simpa using this
 have hsG:Srt (geL l a):=h.srt.filter _
 cases hg:geL l a with
 | nil =>
  have hl:l=ltL l a:=by rw [hg,List.append_nil] at hs;exact hs
  refine ⟨ltL l a,[],0,rfl,hA,by simp,.inr ⟨by rw [List.append_nil];exact hl,rfl⟩,?_⟩
  have hh:hasT l a=false:=by
   unfold hasT
   rw [decide_eq_false (by rw [hlen,hg];simp)]
   rfl
  unfold l1T
  rw [hh]
  simp only [bF,if_false]
  have e1:l.take (ltL l a).length=ltL l a:=by conv=>lhs;arg 2;rw [hl]
                                              rw [List.take_of_length_le (by rw [← hl];exact Nat.le_refl _)]
  have e2:l.drop (ltL l a).length=[]:=List.drop_of_length_le (by rw [← hl];exact Nat.le_refl _)
  rw [e1,e2]
  simp
 | cons g G =>
  have hl:l=ltL l a++g::G:=by rw [hg] at hs;exact hs
  rw [hg] at hsG
  obtain ⟨g1,g2⟩:=List.pairwise_cons.1 hsG
  have hga:a≤g.1:=hG g (by rw [hg];simp)
  have hlt:(ltL l a).length<l.length:=by rw [hlen,hg];simp
  have hget:l.getD (ltL l a).length ((0:Int),(0:Int),())=g:=by
   have:l[(ltL l a).length]?=some g:=by conv=>lhs;arg 1;rw [hl]
                                        rw [List.getElem?_append_right (Nat.le_refl _)];simp
   rw [List.getD_eq_getElem?_getD,this];rfl
  by_cases he:g.1=a
  ·obtain ⟨ga,gn,⟨⟩⟩:=g
   simp only at he
   subst he
   refine ⟨ltL l ga,G,gn,rfl,hA,fun t ht=>g1 t ht,.inl hl,?_⟩
   have hh:hasT l ga=true:=by unfold hasT;rw [decide_eq_true hlt,hget];simp
   unfold l1T
   rw [if_pos hh]
   exact hl
  ·refine ⟨ltL l a,g::G,0,rfl,hA,fun t ht=>?_,.inr ⟨hl,rfl⟩,?_⟩
   ·rcases List.mem_cons.1 ht with rfl | ht
    ·omega
    ·have:=g1 t ht;omega
   ·have hh:hasT l a=false:=by unfold hasT;rw [hget,decide_eq_false he,Bool.and_false]
    unfold l1T
    rw [hh]
    simp only [bF,if_false]
    have e1:l.take (ltL l a).length=ltL l a:=by conv=>lhs;arg 2;rw [hl]
                                                exact List.take_left
    have e2:l.drop (ltL l a).length=g::G:=by conv=>lhs;arg 2;rw [hl]
                                             exact List.drop_left
    rw [e1,e2]
    simp
end Go.Rf
namespace Go.Rf
def keyS (lib typ:ByteArray):ByteArray:=(lib++ByteArray.mk #[58])++typ
def hitC (key:ByteArray) (c:CT):Bool:=decide (c.1=3) && decide (c.2.1=key)
def keysC (key:ByteArray) (h:List CT):List Int:=(h.filter (hitC key)).map (·.2.2.1)
theorem keysC_step {key:ByteArray}{h:List CT}{i:Nat} (hi:i<h.length):keysC key (h.take (i+1))=keysC key (h.take i)++(if hitC key (h.getD i ((0:Int),bE,(0:Int),(0:Int),([]:List ByteArray),([]:List VT),()))=true then [(h.getD i ((0:Int),bE,(0:Int),(0:Int),([]:List ByteArray),([]:List VT),())).2.2.1] else []):=by
 have e:h.take (i+1)=h.take i++[h.getD i ((0:Int),bE,(0:Int),(0:Int),([]:List ByteArray),([]:List VT),())]:=by rw [List.take_add_one,List.getElem?_eq_getElem hi,getD_lt hi];rfl
 unfold keysC
 rw [e,List.filter_append,List.map_append]
 congr 1
 by_cases hc:hitC key (h.getD i ((0:Int),bE,(0:Int),(0:Int),([]:List ByteArray),([]:List VT),()))=true
 ·rw [if_pos hc,List.filter_cons_of_pos hc];rfl
 ·rw [if_neg hc,List.filter_cons_of_neg hc];rfl
theorem keysC_len {key:ByteArray}{h:List CT}:(keysC key h).length≤h.length:=by
 unfold keysC
 rw [List.length_map]
 exact List.length_filter_le _ _
theorem e_l1 (N:Nat) (s:List TlT) (a:Int) (hl:s.length<big) :
  ((if (!hasT s a)=true then (g_slices_Insert_loop_example_g00765_impl_Tally_loop_example_g00765_impl_Tally_ N (s,((ltL s a).length:Int),[(a,(0,()))],())).bind fun r7=>some (r7.1,()) else some (s,())):Option (List TlT×Unit))=some (l1T s a,()):=by
 have hb:big=1048577:=rfl
 have hle:=ltL_le s a
 unfold l1T
 cases hasT s a with
 | true=>rfl
 | false =>
  simp only [Bool.not_false,if_true,bF,if_false]
  unfold g_slices_Insert_loop_example_g00765_impl_Tally_loop_example_g00765_impl_Tally_
  dsimp only
  rw [if_pos ⟨by omega,by omega,rfl,by omega⟩,tN]
  rfl
theorem e_i_RecordsOf (N:Nat) (w:WT) (lib typ:ByteArray) (u:Unit) (h:SmW w) (h1:lib.size≤1048576) (h2:typ.size≤1048576) (hN:big≤N) (hw:worldB w=true) :
  ∃ l,i_RecordsOf N (w,lib,typ,u)=some (l,())∧Tab (keysC (keyS lib typ) w.1.1) l∧l.length≤w.1.1.length:=by
 have hb:big=1048577:=rfl
 have hh:=h.sys.heap.1
 have hz1:lib.size+(ByteArray.mk #[58]).size<4611686018427387904:=by
  have:(ByteArray.mk #[58]).size=1:=rfl
  omega
 have hz2:(lib++ByteArray.mk #[58]).size+typ.size<4611686018427387904:=by
  rw [ByteArray.size_append]
  have:(ByteArray.mk #[58]).size=1:=rfl
  omega
 unfold i_RecordsOf
 dsimp only
 rw [e_i_WorldOk N w () h hN,hw]
 simp only [oB,bN,bF,if_false]
 refine (fun (⟨s,e,hJ⟩:∃ s':List TlT,_=_∧(Tab (keysC (keyS lib typ) (w.1.1.take w.1.1.length)) s'∧s'.length≤w.1.1.length))=>⟨s,e,by rw [List.take_length] at hJ;exact hJ⟩)
  (loop_ex (fun (s:List TlT) (i:Nat)=>(s,(i:Int),())) (fun i s=>Tab (keysC (keyS lib typ) (w.1.1.take i)) s∧s.length≤i) (fun s=>(s,())) w.1.1.length ?h ?hd [] ([],0,()) rfl ⟨⟨List.Pairwise.nil,fun t=>by simp [keysC]⟩,Nat.le_refl _⟩ (by omega))
 case hd=>intro s _;simp
 case h =>
  intro i s hi ⟨hT,hsl⟩
  dsimp only
  have hks:=keysC_step (key:=keyS lib typ) hi
  have hkl:(keysC (keyS lib typ) (w.1.1.take i)).length≤i:=Nat.le_trans keysC_len (by simp;omega)
  rw [if_pos (decide_eq_true (lt_cast hi)),if_pos (inB_nat.2 hi),tN,wrap_nat (by omega),if_pos hz1,if_pos hz2]
  generalize w.1.1.getD i ((0:Int),bE,(0:Int),(0:Int),([]:List ByteArray),([]:List VT),())=c at hks
  have e3:(((if (!decide (c.1=3))=true then some true else some (!decide (c.2.1=(lib++ByteArray.mk #[58])++typ)))):Option Bool)=some (!hitC (keyS lib typ) c):=by
   unfold hitC keyS
   by_cases k1:c.1=3 <;> simp [k1]
  rw [e3]
  dsimp only [oB]
  cases hhit:hitC (keyS lib typ) c with
  | false =>
   rw [hhit] at hks
   simp only [bF,if_false,List.append_nil] at hks
   exact ⟨s,rfl,by rw [hks];exact hT,by omega⟩
  | true =>
   rw [hhit] at hks
   simp only [if_true] at hks
   simp only [bN,bF,if_false]
   rw [e_bsT N s c.2.2.1 () () hT.srt (by omega) hN]
   dsimp only [oB]
   rw [e_l1 N s c.2.2.1 (by omega)]
   dsimp only [oB]
   obtain ⟨A,B,n,hAl,hA,hB,hl,hf⟩:=l1_form c.2.2.1 hT
   obtain ⟨hT2,hn⟩:=tab_one hT hA hB hl
   have hcn:(keysC (keyS lib typ) (w.1.1.take i)).count c.2.2.1≤(keysC (keyS lib typ) (w.1.1.take i)).length:=List.count_le_length
   rw [hf,← hAl,if_pos inB_mid,if_pos inB_mid,getD_mid,set_mid,wrap_id (n:=n+1) (by omega) (by omega)]
   refine ⟨A++(c.2.2.1,n+1,())::B,rfl,by rw [hks];exact hT2,?_⟩
   rcases hl with e | ⟨e,_⟩
   ·have:=congrArg List.length e;simp at this ⊢;omega
   ·have:=congrArg List.length e;simp at this ⊢;omega
end Go.Rf
namespace Go.Rf
def gC (key:ByteArray) (v:Int) (n:Int) (c:CT):Int:=if (hitC key c && decide (c.2.2.1=v))=true then n+1 else n
theorem gC_count (key:ByteArray) (v:Int):∀ (h:List CT) (n:Int),h.foldl (gC key v) n=n+((keysC key h).count v:Int):=by
 intro h
 induction h with
 | nil=>intro n;simp [keysC]
 | cons c h ih =>
  intro n
  rw [List.foldl_cons,ih]
  unfold keysC gC
  cases hc:hitC key c with
  | false=>rw [List.filter_cons_of_neg (by simp [hc])];simp
  | true =>
   rw [List.filter_cons_of_pos hc,List.map_cons,List.count_cons]
   by_cases hv:c.2.2.1=v
   ·simp [hv];omega
   ·have:(c.2.2.1 == v)=false:=by simpa using hv
    simp [hv,this]
theorem keys_in {key:ByteArray}{h:List CT} (ho:heapOk h=true):∀ a∈keysC key h,0≤a∧a≤1000:=by
 intro a ha
 unfold keysC at ha
 obtain ⟨c,hc,rfl⟩:=List.mem_map.1 ha
 obtain ⟨hm,hk⟩:=List.mem_filter.1 hc
 unfold hitC at hk
 rw [bA,decide_eq_true_eq] at hk
 obtain ⟨i,hi,rfl⟩:=List.getElem_of_mem hm
 unfold heapOk at ho
 rw [bA] at ho
 have h1:=List.all_eq_true.1 ho.2 i (List.mem_range.2 hi)
 simp only [cellOk,bA] at h1
 have h2:=h1.1.1
 rw [getD_lt hi] at h2
 unfold shapeC at h2
 rw [if_neg (by rw [hk.1];decide),if_neg (by rw [hk.1];decide),if_pos hk.1] at h2
 simp only [bA] at h2
 have h3:=h2.1.1.1.2
 unfold inI at h3
 simp only [bA,decide_eq_true_eq] at h3
 exact h3
theorem e_s_RecordsOf (N:Nat) (w:WT) (lib typ:ByteArray) (u:Unit) (h:SmW w) (h1:lib.size≤1048576) (h2:typ.size≤1048576) (hN:big≤N) (hw:worldB w=true) :
  ∃ l,s_RecordsOf N (w,lib,typ,u)=some (l,())∧Tab (keysC (keyS lib typ) w.1.1) l:=by
 have hb:big=1048577:=rfl
 have hh:=h.sys.heap.1
 have ho:=sys_heap (world_sys hw)
 have hz1:lib.size+(ByteArray.mk #[58]).size<4611686018427387904:=by
  have:(ByteArray.mk #[58]).size=1:=rfl
  omega
 have hz2:(lib++ByteArray.mk #[58]).size+typ.size<4611686018427387904:=by
  rw [ByteArray.size_append]
  have:(ByteArray.mk #[58]).size=1:=rfl
  omega
 have hK:=keys_in (key:=keyS lib typ) ho
 have hKl:(keysC (keyS lib typ) w.1.1).length≤w.1.1.length:=keysC_len
 unfold s_RecordsOf
 dsimp only
 rw [e_s_WorldOk N w () h hN,hw]
 simp only [oB,bN,bF,if_false]
 refine (fun (⟨s,e,hJ⟩:∃ s':List TlT,_=_∧(Srt s'∧(∀ t,t∈s'↔(t.1∈keysC (keyS lib typ) w.1.1∧t.1<((1001:Nat):Int)∧t.2.1=((keysC (keyS lib typ) w.1.1).count t.1:Int)))∧s'.length≤1001))=>⟨s,e,⟨hJ.1,fun t=>?fin⟩⟩)
  (loop_ex (fun (s:List TlT) (i:Nat)=>(w,s,(i:Int),())) (fun i s=>Srt s∧(∀ t,t∈s↔(t.1∈keysC (keyS lib typ) w.1.1∧t.1<(i:Int)∧t.2.1=((keysC (keyS lib typ) w.1.1).count t.1:Int)))∧s.length≤i) (fun s=>(s,())) 1001 ?h ?hd [] (w,[],0,()) rfl ⟨List.Pairwise.nil,fun t=>⟨fun h=>by simp at h,fun h=>by have:=(hK _ h.1).1;have:=h.2.1;omega⟩,Nat.le_refl _⟩ (by omega))
 case fin =>
  rw [hJ.2.1 t]
  constructor
  ·rintro ⟨a,_,c⟩;exact ⟨a,c⟩
  ·rintro ⟨a,c⟩;have:=(hK _ a).2;exact ⟨a,by omega,c⟩
 case hd=>intro s _;simp
 case h =>
  intro i s hi ⟨hS,hM,hsl⟩
  dsimp only
  rw [if_pos (decide_eq_true (by omega))]
  rw [(loop_foldl (fun (n:Int) (j:Nat)=>(w,s,n,(j:Int),())) (fun j n=>0≤n∧n≤(j:Int)) (gC (keyS lib typ) (i:Int)) (fun n=>(w,s,n,())) w.1.1 ((0:Int),bE,(0:Int),(0:Int),([]:List ByteArray),([]:List VT),()) ?h2 ?hd2 0 (w,s,0,0,()) rfl ⟨Int.le_refl _,Int.le_refl _⟩ (by omega)).1]
  case hd2=>intro n _;simp
  case h2 =>
   intro j n hj hn
   dsimp only
   rw [if_pos (decide_eq_true (lt_cast hj)),if_pos (inB_nat.2 hj),tN,wrap_nat (by omega),if_pos hz1,if_pos hz2,wrap_id (n:=n+1) (by omega) (by omega)]
   generalize w.1.1.getD j ((0:Int),bE,(0:Int),(0:Int),([]:List ByteArray),([]:List VT),())=c
   unfold gC hitC keyS
   by_cases k1:c.1=3
   ·by_cases k2:c.2.2.1=(i:Int)
    ·by_cases k3:c.2.1=(lib++ByteArray.mk #[58])++typ
     ·simp [k1,k2,k3];omega
     ·simp [k1,k2,k3];omega
    ·simp [k1,k2];omega
   ·simp [k1];omega
  rw [gC_count,Int.zero_add]
  dsimp only
  by_cases hc:(i:Int)∈keysC (keyS lib typ) w.1.1
  ·have hpos:0<(keysC (keyS lib typ) w.1.1).count (i:Int):=List.count_pos_iff.2 hc
   rw [if_pos (decide_eq_true (by omega)),if_pos (by simp;omega),wrap_nat (by omega)]
   refine ⟨_,rfl,?_,fun t=>?_,by simp;omega⟩
   ·refine List.pairwise_append.2 ⟨hS,List.pairwise_singleton _ _,fun a ha b hb'=>?_⟩
    rw [List.mem_singleton] at hb'
    subst hb'
    exact ((hM a).1 ha).2.1
   ·rw [List.mem_append,List.mem_singleton,hM t]
    constructor
    ·rintro (⟨a1,a2,a3⟩ | rfl)
     ·exact ⟨a1,by omega,a3⟩
     ·exact ⟨hc,by simp;omega,rfl⟩
    ·rintro ⟨a1,a2,a3⟩
     by_cases hti:t.1=(i:Int)
     ·right
      obtain ⟨t1,t2,⟨⟩⟩:=t
      simp only at hti a3
      subst hti
      rw [a3]
     ·left
      exact ⟨a1,by omega,a3⟩
  ·have h0:(keysC (keyS lib typ) w.1.1).count (i:Int)=0:=List.count_eq_zero.2 hc
   rw [h0,if_neg (by simp),wrap_nat (by omega)]
   refine ⟨s,rfl,hS,fun t=>?_,by omega⟩
   rw [hM t]
   constructor
   ·rintro ⟨a1,a2,a3⟩;exact ⟨a1,by omega,a3⟩
   ·rintro ⟨a1,a2,a3⟩
    refine ⟨a1,?_,a3⟩
    have:t.1≠(i:Int):=fun e=>hc (e▸a1)
    omega
end Go.Rf
namespace Go.Rf
theorem eqTallyS_same (N:Nat) (l:List TlT) (hl:l.length<big) (hN:big≤N):l_eqTallyS N (l,l,())=some (true,()):=by
 have hb:big=1048577:=rfl
 unfold l_eqTallyS
 dsimp only
 rw [if_neg (by simp)]
 rw [(loop_foldl (fun (_:Unit) (i:Nat)=>((i:Int),())) (fun _ _=>True) (fun _ _=>()) (fun _=>()) l ((0:Int),(0:Int),()) ?h ?hd () (0,()) rfl trivial (by omega)).1]
 case hd=>intro s _;simp
 case h =>
  intro i s hi _
  dsimp only
  rw [if_pos (decide_eq_true (lt_cast hi)),if_pos (inB_nat.2 hi),if_pos (inB_nat.2 hi),tN,wrap_nat (by omega)]
  have e:l_eqTally N (l.getD i ((0:Int),(0:Int),()),l.getD i ((0:Int),(0:Int),()),())=some (true,()):=by
   unfold l_eqTally
   simp
  rw [e]
  exact ⟨rfl,trivial⟩
def mT (m:Int) (_:TlT):TlT:=(m,m+1,())
theorem markTallyS_eq (N:Nat) (hN:lim<N) (l:List TlT) (m:Int) (hm:0<m) (hB:m+sumL (fun _=>2) l≤capB) (hl:l.length<big):l_markTallyS N (l,m,())=some (m+sumL (fun _=>2) l,mkL mT (fun _=>2) m l,()):=by
 have hlim:lim=9223372036854775807:=rfl
 have hbig:big=1048577:=rfl
 have hcap:capB=1152921504606846976:=rfl
 unfold l_markTallyS
 dsimp only
 rw [loop_marks_k (mk:=mT) (st:=fun _=>2) (fun _=>by omega) (P:=fun _=>True) (B:=capB) ?hstep ?hdone l m (fun _ _=>trivial) hl hm hB (by omega)]
 case hdone=>intro l m;dsimp only;rw [if_neg (by simp)]
 case hstep =>
  intro pre x post m hx hlen hm hB
  have hB:m+2≤capB:=hB
  dsimp only
  rw [if_pos lt_mid,if_pos inB_mid,getD_mid,set_mid]
  dsimp only [oB]
  rw [if_pos inB_mid,getD_mid,set_mid,wrap_cap (m:=m+1) (by omega) (by omega)]
  dsimp only [oB]
  rw [wrap_cap (m:=m+1+1) (by omega) (by omega),wrap_mid hlen]
  obtain ⟨x1,x2,⟨⟩⟩:=x
  rw [show m+1+1=m+2 by omega]
  rfl
theorem heldTallyS_eq (N:Nat) (hN:lim<N) (l:List TlT) (m:Int) (hm:0<m) (hB:m+sumL (fun _=>2) l≤capB) (hl:l.length<big):l_heldTallyS N (mkL mT (fun _=>2) m l,m,())=some (m+sumL (fun _=>2) l,()):=by
 have hlim:lim=9223372036854775807:=rfl
 have hbig:big=1048577:=rfl
 have hcap:capB=1152921504606846976:=rfl
 unfold l_heldTallyS
 dsimp only
 rw [loop_held_k (t:=mkL mT (fun _=>2) m l) (mk:=mT) (st:=fun _=>2) (fun _=>by omega) (P:=fun _=>True) (B:=capB) ?hstep ?hdone l m rfl (fun _ _=>trivial) hl hm hB (by omega)]
 case hdone=>intro m;dsimp only;rw [if_neg (by simp)]
 case hstep =>
  intro pre x post m ht hx hlen hm hB
  have hB:m+2≤capB:=hB
  dsimp only
  rw [ht,if_pos lt_mid,if_pos inB_mid,getD_mid,wrap_cap (m:=m+1) (by omega) (by omega)]
  have e:mT m x=(m,m+1,()):=rfl
  rw [e]
  simp only [decide_true,bN,bF,if_false,if_pos inB_mid]
  rw [wrap_cap (m:=m+1+1) (by omega) (by omega),wrap_mid hlen,show m+1+1=m+2 by omega]
theorem sumL_two (l:List TlT):sumL (fun _=>2) l=2*(l.length:Int):=by
 induction l with
 | nil=>rfl
 | cons x l ih =>
  have:sumL (fun _=>2) (x::l)=2+sumL (fun _=>2) l:=rfl
  rw [this,ih,List.length_cons];omega
theorem l_FnExactRecordsOf_true (N:Nat) (x:WT×ByteArray×ByteArray×Unit) (hx:F_World x.1) (hN:lim<N):l_FnExactRecordsOf N x=some (true,()):=by
 obtain ⟨x,lib,typ,u⟩:=x
 simp only at hx
 have hbig:big=1048577:=rfl
 have hlim:lim=9223372036854775807:=rfl
 have hcap:capB=1152921504606846976:=rfl
 unfold l_FnExactRecordsOf l_FnExactRecordsOf_L
 dsimp only
 by_cases hs1:lib.size≤1048576
 rotate_left
 ·rw [if_pos (decide_eq_true (by omega))]
 rw [if_neg (fun hc=>by have:=of_decide_eq_true hc;omega)]
 by_cases hs2:typ.size≤1048576
 rotate_left
 ·rw [if_pos (decide_eq_true (by omega))]
 rw [if_neg (fun hc=>by have:=of_decide_eq_true hc;omega)]
 rcases p_szWorld (N:=N) x 1048576 () (by omega) (by omega) hx hN with h1 | ⟨h1,h2⟩
 ·rw [h1];rfl
 rw [h1]
 dsimp only [oB]
 rw [if_neg (fun hc=>by have:=of_decide_eq_true hc;omega)]
 have hw:w_World x<big:=by omega
 have hS:=smW hw
 have both:∃ g,s_RecordsOf N (x,lib,typ,())=some (g,())∧i_RecordsOf N (x,lib,typ,())=some (g,())∧g.length<big:=by
  have hh:=hS.sys.heap.1
  cases hb:worldB x with
  | false =>
   refine ⟨[],?_,?_,by simp only [List.length_nil];omega⟩
   ·unfold s_RecordsOf
    dsimp only
    rw [e_s_WorldOk N x () hS (by omega),hb]
    rfl
   ·unfold i_RecordsOf
    dsimp only
    rw [e_i_WorldOk N x () hS (by omega),hb]
    rfl
  | true =>
   obtain ⟨l1,e1,t1⟩:=e_s_RecordsOf N x lib typ () hS hs1 hs2 (by omega) hb
   obtain ⟨l2,e2,t2,h2⟩:=e_i_RecordsOf N x lib typ () hS hs1 hs2 (by omega) hb
   have e:l1=l2:=t1.uniq t2
   subst e
   exact ⟨l1,e1,e2,by omega⟩
 obtain ⟨g,es,ei,hlen⟩:=both
 rw [e_toWorld N x () hw (by omega)]
 dsimp only [oB]
 rw [es]
 dsimp only [oB]
 rw [ei]
 dsimp only [oB]
 have hc:=cle_World x
 obtain ⟨m,e1,a1,b1⟩:=p_markWorld hN x 1 () (by omega) (by omega) hw
 have heq:=eqTallyS_same N g hlen (by omega)
 have hm:¬ (m<0):=by omega
 have hk:¬ ((1:Int)+2*(g.length:Int)<0):=by omega
 have hmk:=markTallyS_eq N hN g 1 (by omega) (by rw [sumL_two];omega) (by omega)
 have hhd:=heldTallyS_eq N hN g 1 (by omega) (by rw [sumL_two];omega) (by omega)
 rw [sumL_two] at hmk hhd
 generalize (1:Int)+2*(g.length:Int)=q at hmk hhd hk
 generalize mkL mT (fun _=>2) 1 g=mk at hmk hhd
 have hq:decide (q=q)=true:=decide_eq_true rfl
 have hk':decide (q<0)=false:=decide_eq_false hk
 have hm':decide (m<0)=false:=decide_eq_false hm
 simp only [heq,e_eqWorld N x () hw (by omega),e1,hmk,hhd,hq,hk',hm',e_toWorld N x () hw (by omega),ei,oB,bN,Bool.not_false,bF,if_false,if_true]
 rfl
end Go.Rf
