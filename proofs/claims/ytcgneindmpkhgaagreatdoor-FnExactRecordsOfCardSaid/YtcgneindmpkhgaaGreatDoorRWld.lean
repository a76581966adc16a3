/-
  Worlds: their weight, their copies, their likeness; which are right: the reference and the program tell the same.
-/
import Derived.Test.YtcgneindmpkhgaaGreatDoorRSrc
import Derived.Test.YtcgneindmpkhgaaGreatDoorRNat
import Derived.Test.YtcgneindmpkhgaaGreatDoorRLev
set_option linter.unusedSimpArgs false
set_option linter.unusedVariables false
set_option autoImplicit false
namespace Go.Rf
def w_Value (x:VT):Nat:=(x.2.2.1.size+0)
def F_Value (x:VT):Prop:=x.2.2.1.size≤lim
def w_Cell (x:CT):Nat:=(x.2.1.size+(wL wStr x.2.2.2.2.1+(wL w_Value x.2.2.2.2.2.1+0)))
def F_Cell (x:CT):Prop:=x.2.1.size≤lim∧(x.2.2.2.2.1.length≤lim∧∀ s∈x.2.2.2.2.1,s.size≤lim)∧(x.2.2.2.2.2.1.length≤lim∧∀ s∈x.2.2.2.2.2.1,F_Value s)
abbrev LT:=ByteArray×Int×ByteArray×Unit
def w_Link (x:LT):Nat:=(x.1.size+(x.2.2.1.size+0))
def F_Link (x:LT):Prop:=x.1.size≤lim∧x.2.2.1.size≤lim
abbrev IT:=ByteArray×Int×List ByteArray×List VT×List LT×List TT×Unit
def w_Inst (x:IT):Nat:=(x.1.size+(wL wStr x.2.2.1+(wL w_Value x.2.2.2.1+(wL w_Link x.2.2.2.2.1+(wL w_Type x.2.2.2.2.2.1+0)))))
def F_Inst (x:IT):Prop:=x.1.size≤lim∧(x.2.2.1.length≤lim∧∀ s∈x.2.2.1,s.size≤lim)∧(x.2.2.2.1.length≤lim∧∀ s∈x.2.2.2.1,F_Value s)∧(x.2.2.2.2.1.length≤lim∧∀ s∈x.2.2.2.2.1,F_Link s)∧(x.2.2.2.2.2.1.length≤lim∧∀ s∈x.2.2.2.2.2.1,F_Type s)
abbrev UT:=Int×PT×Unit
def w_Unit (x:UT):Nat:=(w_Prog x.2.1+0)
def F_Unit (x:UT):Prop:=F_Prog x.2.1
abbrev YT:=List CT×List IT×List UT×List ByteArray×Unit
def w_Sys (x:YT):Nat:=(wL w_Cell x.1+(wL w_Inst x.2.1+(wL w_Unit x.2.2.1+(wL wStr x.2.2.2.1+0))))
def F_Sys (x:YT):Prop:=(x.1.length≤lim∧∀ s∈x.1,F_Cell s)∧(x.2.1.length≤lim∧∀ s∈x.2.1,F_Inst s)∧(x.2.2.1.length≤lim∧∀ s∈x.2.2.1,F_Unit s)∧(x.2.2.2.1.length≤lim∧∀ s∈x.2.2.2.1,s.size≤lim)
abbrev BT:=ByteArray×VT×Unit
def w_Bind (x:BT):Nat:=(x.1.size+(w_Value x.2.1+0))
def F_Bind (x:BT):Prop:=x.1.size≤lim∧F_Value x.2.1
abbrev FT:=Int×Int×List VT×List BT×Unit
def w_Frame (x:FT):Nat:=(wL w_Value x.2.2.1+(wL w_Bind x.2.2.2.1+0))
def F_Frame (x:FT):Prop:=(x.2.2.1.length≤lim∧∀ s∈x.2.2.1,F_Value s)∧(x.2.2.2.1.length≤lim∧∀ s∈x.2.2.2.1,F_Bind s)
abbrev MT:=Int×Int×Int×List BT×VT×List FT×Int×Unit
def w_Machine (x:MT):Nat:=(wL w_Bind x.2.2.2.1+(w_Value x.2.2.2.2.1+(wL w_Frame x.2.2.2.2.2.1+0)))
def F_Machine (x:MT):Prop:=(x.2.2.2.1.length≤lim∧∀ s∈x.2.2.2.1,F_Bind s)∧F_Value x.2.2.2.2.1∧(x.2.2.2.2.2.1.length≤lim∧∀ s∈x.2.2.2.2.2.1,F_Frame s)
abbrev ET:=ST×Int×Int×Unit
def w_Ent (x:ET):Nat:=(w_Src x.1+0)
def F_Ent (x:ET):Prop:=F_Src x.1
abbrev KT:=Int×MT×Unit
def w_Task (x:KT):Nat:=(w_Machine x.2.1+0)
def F_Task (x:KT):Prop:=F_Machine x.2.1
abbrev WT:=YT×List ET×List KT×Int×Unit
def w_World (x:WT):Nat:=(w_Sys x.1+(wL w_Ent x.2.1+(wL w_Task x.2.2.1+0)))
def F_World (x:WT):Prop:=F_Sys x.1∧(x.2.1.length≤lim∧∀ s∈x.2.1,F_Ent s)∧(x.2.2.1.length≤lim∧∀ s∈x.2.2.1,F_Task s)
theorem p_szValueW {N:Nat} (x:VT) (left:Int) (u:Unit) (h0:0≤left) (hB:left≤1048576) (hf:F_Value x) (hN:lim<N):Sz (l_szValue N (x,left,u)) left (w_Value x):=by
 have h2:=hf
 unfold l_szValue w_Value
 dsimp only
 rw [wrap_sub (by omega) (by omega) h2]
 refine Sz.sub (by omega) (fun k2=>?_)
 exact Sz.ret (by omega)
theorem p_szValueSW {N:Nat} (l:List VT) (left:Int) (u:Unit) (h0:0≤left) (hB:left≤1048576) (hl:l.length≤lim) (hs:∀ s∈l,F_Value s) (hN:lim<N):Sz (l_szValueS N (l,left,u)) left (wL w_Value l):=by
 have hlim:lim=9223372036854775807:=rfl
 unfold l_szValueS
 dsimp only
 rw [wrap_sub h0 hB hl]
 refine Sz.sub h0 (fun k1=>?_)
 refine Sz.loop l ((0:Int),(0:Int),bE,()) w_Value (by omega) (by omega) (by omega) ?h ?hd rfl (fun r=>rfl)
 case h =>
  intro i lf hi hl0 hlB
  have hm:l.getD i ((0:Int),(0:Int),bE,())∈l:=mem_getD hi
  have hsz:=hs _ hm
  dsimp only
  rw [tN,if_pos (decide_eq_true (lt_cast hi)),if_pos (inB_nat.2 hi),wrap_nat (by omega)]
  rcases p_szValueW (N:=N) (l.getD i ((0:Int),(0:Int),bE,())) lf () hl0 hlB hsz hN with h1 | ⟨h1,h2⟩
  ·left;rw [h1];rfl
  ·right;rw [h1]
   dsimp only [oB]
   rw [if_neg (fun hc=>by have:=of_decide_eq_true hc;omega)]
   exact ⟨rfl,h2⟩
 case hd=>intro lf;simp
theorem p_szCellW {N:Nat} (x:CT) (left:Int) (u:Unit) (h0:0≤left) (hB:left≤1048576) (hf:F_Cell x) (hN:lim<N):Sz (l_szCell N (x,left,u)) left (w_Cell x):=by
 obtain ⟨h1,⟨h4,g4⟩,⟨h5,g5⟩⟩:=hf
 unfold l_szCell w_Cell
 dsimp only
 rw [wrap_sub (by omega) (by omega) h1]
 refine Sz.sub (by omega) (fun k1=>?_)
 refine Sz.step (p_szStrS x.2.2.2.2.1 _ () (by omega) (by omega) h4 g4 hN) (fun k4=>?_)
 dsimp only
 refine Sz.step (p_szValueSW x.2.2.2.2.2.1 _ () (by omega) (by omega) h5 g5 hN) (fun k5=>?_)
 dsimp only
 exact Sz.ret (by omega)
theorem p_szCellSW {N:Nat} (l:List CT) (left:Int) (u:Unit) (h0:0≤left) (hB:left≤1048576) (hl:l.length≤lim) (hs:∀ s∈l,F_Cell s) (hN:lim<N):Sz (l_szCellS N (l,left,u)) left (wL w_Cell l):=by
 have hlim:lim=9223372036854775807:=rfl
 unfold l_szCellS
 dsimp only
 rw [wrap_sub h0 hB hl]
 refine Sz.sub h0 (fun k1=>?_)
 refine Sz.loop l ((0:Int),bE,(0:Int),(0:Int),([]:List ByteArray),([]:List VT),()) w_Cell (by omega) (by omega) (by omega) ?h ?hd rfl (fun r=>rfl)
 case h =>
  intro i lf hi hl0 hlB
  have hm:l.getD i ((0:Int),bE,(0:Int),(0:Int),([]:List ByteArray),([]:List VT),())∈l:=mem_getD hi
  have hsz:=hs _ hm
  dsimp only
  rw [tN,if_pos (decide_eq_true (lt_cast hi)),if_pos (inB_nat.2 hi),wrap_nat (by omega)]
  rcases p_szCellW (N:=N) (l.getD i ((0:Int),bE,(0:Int),(0:Int),([]:List ByteArray),([]:List VT),())) lf () hl0 hlB hsz hN with h1 | ⟨h1,h2⟩
  ·left;rw [h1];rfl
  ·right;rw [h1]
   dsimp only [oB]
   rw [if_neg (fun hc=>by have:=of_decide_eq_true hc;omega)]
   exact ⟨rfl,h2⟩
 case hd=>intro lf;simp
theorem p_szLink {N:Nat} (x:LT) (left:Int) (u:Unit) (h0:0≤left) (hB:left≤1048576) (hf:F_Link x) (hN:lim<N):Sz (l_szLink N (x,left,u)) left (w_Link x):=by
 obtain ⟨h0,h2⟩:=hf
 unfold l_szLink w_Link
 dsimp only
 rw [wrap_sub (by omega) (by omega) h0]
 refine Sz.sub (by omega) (fun k0=>?_)
 rw [wrap_sub (by omega) (by omega) h2]
 refine Sz.sub (by omega) (fun k2=>?_)
 exact Sz.ret (by omega)
theorem p_szLinkS {N:Nat} (l:List LT) (left:Int) (u:Unit) (h0:0≤left) (hB:left≤1048576) (hl:l.length≤lim) (hs:∀ s∈l,F_Link s) (hN:lim<N):Sz (l_szLinkS N (l,left,u)) left (wL w_Link l):=by
 have hlim:lim=9223372036854775807:=rfl
 unfold l_szLinkS
 dsimp only
 rw [wrap_sub h0 hB hl]
 refine Sz.sub h0 (fun k1=>?_)
 refine Sz.loop l (bE,(0:Int),bE,()) w_Link (by omega) (by omega) (by omega) ?h ?hd rfl (fun r=>rfl)
 case h =>
  intro i lf hi hl0 hlB
  have hm:l.getD i (bE,(0:Int),bE,())∈l:=mem_getD hi
  have hsz:=hs _ hm
  dsimp only
  rw [tN,if_pos (decide_eq_true (lt_cast hi)),if_pos (inB_nat.2 hi),wrap_nat (by omega)]
  rcases p_szLink (N:=N) (l.getD i (bE,(0:Int),bE,())) lf () hl0 hlB hsz hN with h1 | ⟨h1,h2⟩
  ·left;rw [h1];rfl
  ·right;rw [h1]
   dsimp only [oB]
   rw [if_neg (fun hc=>by have:=of_decide_eq_true hc;omega)]
   exact ⟨rfl,h2⟩
 case hd=>intro lf;simp
theorem p_szInst {N:Nat} (x:IT) (left:Int) (u:Unit) (h0:0≤left) (hB:left≤1048576) (hf:F_Inst x) (hN:lim<N):Sz (l_szInst N (x,left,u)) left (w_Inst x):=by
 obtain ⟨h0,⟨h2,g2⟩,⟨h3,g3⟩,⟨h4,g4⟩,⟨h5,g5⟩⟩:=hf
 unfold l_szInst w_Inst
 dsimp only
 rw [wrap_sub (by omega) (by omega) h0]
 refine Sz.sub (by omega) (fun k0=>?_)
 refine Sz.step (p_szStrS x.2.2.1 _ () (by omega) (by omega) h2 g2 hN) (fun k2=>?_)
 dsimp only
 refine Sz.step (p_szValueSW x.2.2.2.1 _ () (by omega) (by omega) h3 g3 hN) (fun k3=>?_)
 dsimp only
 refine Sz.step (p_szLinkS x.2.2.2.2.1 _ () (by omega) (by omega) h4 g4 hN) (fun k4=>?_)
 dsimp only
 refine Sz.step (p_szTypeS x.2.2.2.2.2.1 _ () (by omega) (by omega) h5 g5 hN) (fun k5=>?_)
 dsimp only
 exact Sz.ret (by omega)
theorem p_szInstS {N:Nat} (l:List IT) (left:Int) (u:Unit) (h0:0≤left) (hB:left≤1048576) (hl:l.length≤lim) (hs:∀ s∈l,F_Inst s) (hN:lim<N):Sz (l_szInstS N (l,left,u)) left (wL w_Inst l):=by
 have hlim:lim=9223372036854775807:=rfl
 unfold l_szInstS
 dsimp only
 rw [wrap_sub h0 hB hl]
 refine Sz.sub h0 (fun k1=>?_)
 refine Sz.loop l (bE,(0:Int),([]:List ByteArray),([]:List VT),([]:List LT),([]:List TT),()) w_Inst (by omega) (by omega) (by omega) ?h ?hd rfl (fun r=>rfl)
 case h =>
  intro i lf hi hl0 hlB
  have hm:l.getD i (bE,(0:Int),([]:List ByteArray),([]:List VT),([]:List LT),([]:List TT),())∈l:=mem_getD hi
  have hsz:=hs _ hm
  dsimp only
  rw [tN,if_pos (decide_eq_true (lt_cast hi)),if_pos (inB_nat.2 hi),wrap_nat (by omega)]
  rcases p_szInst (N:=N) (l.getD i (bE,(0:Int),([]:List ByteArray),([]:List VT),([]:List LT),([]:List TT),())) lf () hl0 hlB hsz hN with h1 | ⟨h1,h2⟩
  ·left;rw [h1];rfl
  ·right;rw [h1]
   dsimp only [oB]
   rw [if_neg (fun hc=>by have:=of_decide_eq_true hc;omega)]
   exact ⟨rfl,h2⟩
 case hd=>intro lf;simp
theorem p_szUnit {N:Nat} (x:UT) (left:Int) (u:Unit) (h0:0≤left) (hB:left≤1048576) (hf:F_Unit x) (hN:lim<N):Sz (l_szUnit N (x,left,u)) left (w_Unit x):=by
 have h1:=hf
 unfold l_szUnit w_Unit
 dsimp only
 refine Sz.step (p_szProg x.2.1 _ () (by omega) (by omega) h1 hN) (fun k1=>?_)
 dsimp only
 exact Sz.ret (by omega)
theorem p_szUnitS {N:Nat} (l:List UT) (left:Int) (u:Unit) (h0:0≤left) (hB:left≤1048576) (hl:l.length≤lim) (hs:∀ s∈l,F_Unit s) (hN:lim<N):Sz (l_szUnitS N (l,left,u)) left (wL w_Unit l):=by
 have hlim:lim=9223372036854775807:=rfl
 unfold l_szUnitS
 dsimp only
 rw [wrap_sub h0 hB hl]
 refine Sz.sub h0 (fun k1=>?_)
 refine Sz.loop l ((0:Int),(([]:List NT),(0:Int),()),()) w_Unit (by omega) (by omega) (by omega) ?h ?hd rfl (fun r=>rfl)
 case h =>
  intro i lf hi hl0 hlB
  have hm:l.getD i ((0:Int),(([]:List NT),(0:Int),()),())∈l:=mem_getD hi
  have hsz:=hs _ hm
  dsimp only
  rw [tN,if_pos (decide_eq_true (lt_cast hi)),if_pos (inB_nat.2 hi),wrap_nat (by omega)]
  rcases p_szUnit (N:=N) (l.getD i ((0:Int),(([]:List NT),(0:Int),()),())) lf () hl0 hlB hsz hN with h1 | ⟨h1,h2⟩
  ·left;rw [h1];rfl
  ·right;rw [h1]
   dsimp only [oB]
   rw [if_neg (fun hc=>by have:=of_decide_eq_true hc;omega)]
   exact ⟨rfl,h2⟩
 case hd=>intro lf;simp
theorem p_szSys {N:Nat} (x:YT) (left:Int) (u:Unit) (h0:0≤left) (hB:left≤1048576) (hf:F_Sys x) (hN:lim<N):Sz (l_szSys N (x,left,u)) left (w_Sys x):=by
 obtain ⟨⟨h0,g0⟩,⟨h1,g1⟩,⟨h2,g2⟩,⟨h3,g3⟩⟩:=hf
 unfold l_szSys w_Sys
 dsimp only
 refine Sz.step (p_szCellSW x.1 _ () (by omega) (by omega) h0 g0 hN) (fun k0=>?_)
 dsimp only
 refine Sz.step (p_szInstS x.2.1 _ () (by omega) (by omega) h1 g1 hN) (fun k1=>?_)
 dsimp only
 refine Sz.step (p_szUnitS x.2.2.1 _ () (by omega) (by omega) h2 g2 hN) (fun k2=>?_)
 dsimp only
 refine Sz.step (p_szStrS x.2.2.2.1 _ () (by omega) (by omega) h3 g3 hN) (fun k3=>?_)
 dsimp only
 exact Sz.ret (by omega)
theorem p_szBind {N:Nat} (x:BT) (left:Int) (u:Unit) (h0:0≤left) (hB:left≤1048576) (hf:F_Bind x) (hN:lim<N):Sz (l_szBind N (x,left,u)) left (w_Bind x):=by
 obtain ⟨h0,h1⟩:=hf
 unfold l_szBind w_Bind
 dsimp only
 rw [wrap_sub (by omega) (by omega) h0]
 refine Sz.sub (by omega) (fun k0=>?_)
 refine Sz.step (p_szValueW x.2.1 _ () (by omega) (by omega) h1 hN) (fun k1=>?_)
 dsimp only
 exact Sz.ret (by omega)
theorem p_szBindS {N:Nat} (l:List BT) (left:Int) (u:Unit) (h0:0≤left) (hB:left≤1048576) (hl:l.length≤lim) (hs:∀ s∈l,F_Bind s) (hN:lim<N):Sz (l_szBindS N (l,left,u)) left (wL w_Bind l):=by
 have hlim:lim=9223372036854775807:=rfl
 unfold l_szBindS
 dsimp only
 rw [wrap_sub h0 hB hl]
 refine Sz.sub h0 (fun k1=>?_)
 refine Sz.loop l (bE,((0:Int),(0:Int),bE,()),()) w_Bind (by omega) (by omega) (by omega) ?h ?hd rfl (fun r=>rfl)
 case h =>
  intro i lf hi hl0 hlB
  have hm:l.getD i (bE,((0:Int),(0:Int),bE,()),())∈l:=mem_getD hi
  have hsz:=hs _ hm
  dsimp only
  rw [tN,if_pos (decide_eq_true (lt_cast hi)),if_pos (inB_nat.2 hi),wrap_nat (by omega)]
  rcases p_szBind (N:=N) (l.getD i (bE,((0:Int),(0:Int),bE,()),())) lf () hl0 hlB hsz hN with h1 | ⟨h1,h2⟩
  ·left;rw [h1];rfl
  ·right;rw [h1]
   dsimp only [oB]
   rw [if_neg (fun hc=>by have:=of_decide_eq_true hc;omega)]
   exact ⟨rfl,h2⟩
 case hd=>intro lf;simp
theorem p_szFrame {N:Nat} (x:FT) (left:Int) (u:Unit) (h0:0≤left) (hB:left≤1048576) (hf:F_Frame x) (hN:lim<N):Sz (l_szFrame N (x,left,u)) left (w_Frame x):=by
 obtain ⟨⟨h2,g2⟩,⟨h3,g3⟩⟩:=hf
 unfold l_szFrame w_Frame
 dsimp only
 refine Sz.step (p_szValueSW x.2.2.1 _ () (by omega) (by omega) h2 g2 hN) (fun k2=>?_)
 dsimp only
 refine Sz.step (p_szBindS x.2.2.2.1 _ () (by omega) (by omega) h3 g3 hN) (fun k3=>?_)
 dsimp only
 exact Sz.ret (by omega)
theorem p_szFrameS {N:Nat} (l:List FT) (left:Int) (u:Unit) (h0:0≤left) (hB:left≤1048576) (hl:l.length≤lim) (hs:∀ s∈l,F_Frame s) (hN:lim<N):Sz (l_szFrameS N (l,left,u)) left (wL w_Frame l):=by
 have hlim:lim=9223372036854775807:=rfl
 unfold l_szFrameS
 dsimp only
 rw [wrap_sub h0 hB hl]
 refine Sz.sub h0 (fun k1=>?_)
 refine Sz.loop l ((0:Int),(0:Int),([]:List VT),([]:List BT),()) w_Frame (by omega) (by omega) (by omega) ?h ?hd rfl (fun r=>rfl)
 case h =>
  intro i lf hi hl0 hlB
  have hm:l.getD i ((0:Int),(0:Int),([]:List VT),([]:List BT),())∈l:=mem_getD hi
  have hsz:=hs _ hm
  dsimp only
  rw [tN,if_pos (decide_eq_true (lt_cast hi)),if_pos (inB_nat.2 hi),wrap_nat (by omega)]
  rcases p_szFrame (N:=N) (l.getD i ((0:Int),(0:Int),([]:List VT),([]:List BT),())) lf () hl0 hlB hsz hN with h1 | ⟨h1,h2⟩
  ·left;rw [h1];rfl
  ·right;rw [h1]
   dsimp only [oB]
   rw [if_neg (fun hc=>by have:=of_decide_eq_true hc;omega)]
   exact ⟨rfl,h2⟩
 case hd=>intro lf;simp
theorem p_szMachine {N:Nat} (x:MT) (left:Int) (u:Unit) (h0:0≤left) (hB:left≤1048576) (hf:F_Machine x) (hN:lim<N):Sz (l_szMachine N (x,left,u)) left (w_Machine x):=by
 obtain ⟨⟨h3,g3⟩,h4,⟨h5,g5⟩⟩:=hf
 unfold l_szMachine w_Machine
 dsimp only
 refine Sz.step (p_szBindS x.2.2.2.1 _ () (by omega) (by omega) h3 g3 hN) (fun k3=>?_)
 dsimp only
 refine Sz.step (p_szValueW x.2.2.2.2.1 _ () (by omega) (by omega) h4 hN) (fun k4=>?_)
 dsimp only
 refine Sz.step (p_szFrameS x.2.2.2.2.2.1 _ () (by omega) (by omega) h5 g5 hN) (fun k5=>?_)
 dsimp only
 exact Sz.ret (by omega)
theorem p_szEnt {N:Nat} (x:ET) (left:Int) (u:Unit) (h0:0≤left) (hB:left≤1048576) (hf:F_Ent x) (hN:lim<N):Sz (l_szEnt N (x,left,u)) left (w_Ent x):=by
 have h0:=hf
 unfold l_szEnt w_Ent
 dsimp only
 refine Sz.step (p_szSrc x.1 _ () (by omega) (by omega) h0 hN) (fun k0=>?_)
 dsimp only
 exact Sz.ret (by omega)
theorem p_szEntS {N:Nat} (l:List ET) (left:Int) (u:Unit) (h0:0≤left) (hB:left≤1048576) (hl:l.length≤lim) (hs:∀ s∈l,F_Ent s) (hN:lim<N):Sz (l_szEntS N (l,left,u)) left (wL w_Ent l):=by
 have hlim:lim=9223372036854775807:=rfl
 unfold l_szEntS
 dsimp only
 rw [wrap_sub h0 hB hl]
 refine Sz.sub h0 (fun k1=>?_)
 refine Sz.loop l ((bE,([]:List ByteArray),([]:List ByteArray),([]:List TT),([]:List DT),([]:List DT),()),(0:Int),(0:Int),()) w_Ent (by omega) (by omega) (by omega) ?h ?hd rfl (fun r=>rfl)
 case h =>
  intro i lf hi hl0 hlB
  have hm:l.getD i ((bE,([]:List ByteArray),([]:List ByteArray),([]:List TT),([]:List DT),([]:List DT),()),(0:Int),(0:Int),())∈l:=mem_getD hi
  have hsz:=hs _ hm
  dsimp only
  rw [tN,if_pos (decide_eq_true (lt_cast hi)),if_pos (inB_nat.2 hi),wrap_nat (by omega)]
  rcases p_szEnt (N:=N) (l.getD i ((bE,([]:List ByteArray),([]:List ByteArray),([]:List TT),([]:List DT),([]:List DT),()),(0:Int),(0:Int),())) lf () hl0 hlB hsz hN with h1 | ⟨h1,h2⟩
  ·left;rw [h1];rfl
  ·right;rw [h1]
   dsimp only [oB]
   rw [if_neg (fun hc=>by have:=of_decide_eq_true hc;omega)]
   exact ⟨rfl,h2⟩
 case hd=>intro lf;simp
theorem p_szTask {N:Nat} (x:KT) (left:Int) (u:Unit) (h0:0≤left) (hB:left≤1048576) (hf:F_Task x) (hN:lim<N):Sz (l_szTask N (x,left,u)) left (w_Task x):=by
 have h1:=hf
 unfold l_szTask w_Task
 dsimp only
 refine Sz.step (p_szMachine x.2.1 _ () (by omega) (by omega) h1 hN) (fun k1=>?_)
 dsimp only
 exact Sz.ret (by omega)
theorem p_szTaskS {N:Nat} (l:List KT) (left:Int) (u:Unit) (h0:0≤left) (hB:left≤1048576) (hl:l.length≤lim) (hs:∀ s∈l,F_Task s) (hN:lim<N):Sz (l_szTaskS N (l,left,u)) left (wL w_Task l):=by
 have hlim:lim=9223372036854775807:=rfl
 unfold l_szTaskS
 dsimp only
 rw [wrap_sub h0 hB hl]
 refine Sz.sub h0 (fun k1=>?_)
 refine Sz.loop l ((0:Int),((0:Int),(0:Int),(0:Int),([]:List BT),((0:Int),(0:Int),bE,()),([]:List FT),(0:Int),()),()) w_Task (by omega) (by omega) (by omega) ?h ?hd rfl (fun r=>rfl)
 case h =>
  intro i lf hi hl0 hlB
  have hm:l.getD i ((0:Int),((0:Int),(0:Int),(0:Int),([]:List BT),((0:Int),(0:Int),bE,()),([]:List FT),(0:Int),()),())∈l:=mem_getD hi
  have hsz:=hs _ hm
  dsimp only
  rw [tN,if_pos (decide_eq_true (lt_cast hi)),if_pos (inB_nat.2 hi),wrap_nat (by omega)]
  rcases p_szTask (N:=N) (l.getD i ((0:Int),((0:Int),(0:Int),(0:Int),([]:List BT),((0:Int),(0:Int),bE,()),([]:List FT),(0:Int),()),())) lf () hl0 hlB hsz hN with h1 | ⟨h1,h2⟩
  ·left;rw [h1];rfl
  ·right;rw [h1]
   dsimp only [oB]
   rw [if_neg (fun hc=>by have:=of_decide_eq_true hc;omega)]
   exact ⟨rfl,h2⟩
 case hd=>intro lf;simp
theorem p_szWorld {N:Nat} (x:WT) (left:Int) (u:Unit) (h0:0≤left) (hB:left≤1048576) (hf:F_World x) (hN:lim<N):Sz (l_szWorld N (x,left,u)) left (w_World x):=by
 obtain ⟨h0,⟨h1,g1⟩,⟨h2,g2⟩⟩:=hf
 unfold l_szWorld w_World
 dsimp only
 refine Sz.step (p_szSys x.1 _ () (by omega) (by omega) h0 hN) (fun k0=>?_)
 dsimp only
 refine Sz.step (p_szEntS x.2.1 _ () (by omega) (by omega) h1 g1 hN) (fun k1=>?_)
 dsimp only
 refine Sz.step (p_szTaskS x.2.2.1 _ () (by omega) (by omega) h2 g2 hN) (fun k2=>?_)
 dsimp only
 exact Sz.ret (by omega)
end Go.Rf
namespace Go.Rf
theorem e_toValueW (N:Nat) (x:VT) (u:Unit) (h:w_Value x<big) (hN:big≤N):l_toValue N (x,u)=some (x,()):= rfl
theorem e_toValueSW (N:Nat) (l:List VT) (u:Unit) (hw:wL w_Value l<big) (hN:big≤N):l_toValueS N (l,u)=some (l,()):=by
 have hb:big=1048577:=rfl
 have hl:l.length<big:=by simp only [wL] at hw;omega
 unfold l_toValueS
 rw [if_pos (show mkB (l.length:Int) (l.length:Int) from ⟨by omega,by omega,by omega⟩)]
 dsimp only [tN]
 rw [loop_fill l ((0:Int),(0:Int),bE,()) ((0:Int),(0:Int),bE,()) ?h ?hd (by omega)]
 case h =>
  intro i w hi hw'
  dsimp only
  have hwi:=sumW_getD (w:=w_Value) (d:=((0:Int),(0:Int),bE,())) hi
  rw [tN,if_pos (decide_eq_true (lt_cast hi)),if_pos (inB_nat.2 hi),e_toValueW N _ () (by simp only [wL] at hw;omega) hN]
  try dsimp only [oB]
  rw [if_pos (inB_nat.2 (by omega)),wrap_nat (by omega)]
 case hd=>intro w;simp
 rfl
theorem e_toCellW (N:Nat) (x:CT) (u:Unit) (h:w_Cell x<big) (hN:big≤N):l_toCell N (x,u)=some (x,()):=by
 have hw:(x.2.1.size+(wL wStr x.2.2.2.2.1+(wL w_Value x.2.2.2.2.2.1+0)))<big:=h
 unfold l_toCell
 dsimp only
 rw [e_toStrS N x.2.2.2.2.1 () (by simp only [wL] at hw;omega) hN]
 dsimp only [oB]
 rw [e_toValueSW N x.2.2.2.2.2.1 () (by omega) hN]
 dsimp only [oB]
theorem e_toCellSW (N:Nat) (l:List CT) (u:Unit) (hw:wL w_Cell l<big) (hN:big≤N):l_toCellS N (l,u)=some (l,()):=by
 have hb:big=1048577:=rfl
 have hl:l.length<big:=by simp only [wL] at hw;omega
 unfold l_toCellS
 rw [if_pos (show mkB (l.length:Int) (l.length:Int) from ⟨by omega,by omega,by omega⟩)]
 dsimp only [tN]
 rw [loop_fill l ((0:Int),bE,(0:Int),(0:Int),([]:List ByteArray),([]:List VT),()) ((0:Int),bE,(0:Int),(0:Int),([]:List ByteArray),([]:List VT),()) ?h ?hd (by omega)]
 case h =>
  intro i w hi hw'
  dsimp only
  have hwi:=sumW_getD (w:=w_Cell) (d:=((0:Int),bE,(0:Int),(0:Int),([]:List ByteArray),([]:List VT),())) hi
  rw [tN,if_pos (decide_eq_true (lt_cast hi)),if_pos (inB_nat.2 hi),e_toCellW N _ () (by simp only [wL] at hw;omega) hN]
  try dsimp only [oB]
  rw [if_pos (inB_nat.2 (by omega)),wrap_nat (by omega)]
 case hd=>intro w;simp
 rfl
theorem e_toLink (N:Nat) (x:LT) (u:Unit) (h:w_Link x<big) (hN:big≤N):l_toLink N (x,u)=some (x,()):= rfl
theorem e_toLinkS (N:Nat) (l:List LT) (u:Unit) (hw:wL w_Link l<big) (hN:big≤N):l_toLinkS N (l,u)=some (l,()):=by
 have hb:big=1048577:=rfl
 have hl:l.length<big:=by simp only [wL] at hw;omega
 unfold l_toLinkS
 rw [if_pos (show mkB (l.length:Int) (l.length:Int) from ⟨by omega,by omega,by omega⟩)]
 dsimp only [tN]
 rw [loop_fill l (bE,(0:Int),bE,()) (bE,(0:Int),bE,()) ?h ?hd (by omega)]
 case h =>
  intro i w hi hw'
  dsimp only
  have hwi:=sumW_getD (w:=w_Link) (d:=(bE,(0:Int),bE,())) hi
  rw [tN,if_pos (decide_eq_true (lt_cast hi)),if_pos (inB_nat.2 hi),e_toLink N _ () (by simp only [wL] at hw;omega) hN]
  try dsimp only [oB]
  rw [if_pos (inB_nat.2 (by omega)),wrap_nat (by omega)]
 case hd=>intro w;simp
 rfl
theorem e_toInst (N:Nat) (x:IT) (u:Unit) (h:w_Inst x<big) (hN:big≤N):l_toInst N (x,u)=some (x,()):=by
 have hw:(x.1.size+(wL wStr x.2.2.1+(wL w_Value x.2.2.2.1+(wL w_Link x.2.2.2.2.1+(wL w_Type x.2.2.2.2.2.1+0)))))<big:=h
 unfold l_toInst
 dsimp only
 rw [e_toStrS N x.2.2.1 () (by simp only [wL] at hw;omega) hN]
 dsimp only [oB]
 rw [e_toValueSW N x.2.2.2.1 () (by omega) hN]
 dsimp only [oB]
 rw [e_toLinkS N x.2.2.2.2.1 () (by omega) hN]
 dsimp only [oB]
 rw [e_toTypeS N x.2.2.2.2.2.1 () (by omega) hN]
 dsimp only [oB]
theorem e_toInstS (N:Nat) (l:List IT) (u:Unit) (hw:wL w_Inst l<big) (hN:big≤N):l_toInstS N (l,u)=some (l,()):=by
 have hb:big=1048577:=rfl
 have hl:l.length<big:=by simp only [wL] at hw;omega
 unfold l_toInstS
 rw [if_pos (show mkB (l.length:Int) (l.length:Int) from ⟨by omega,by omega,by omega⟩)]
 dsimp only [tN]
 rw [loop_fill l (bE,(0:Int),([]:List ByteArray),([]:List VT),([]:List LT),([]:List TT),()) (bE,(0:Int),([]:List ByteArray),([]:List VT),([]:List LT),([]:List TT),()) ?h ?hd (by omega)]
 case h =>
  intro i w hi hw'
  dsimp only
  have hwi:=sumW_getD (w:=w_Inst) (d:=(bE,(0:Int),([]:List ByteArray),([]:List VT),([]:List LT),([]:List TT),())) hi
  rw [tN,if_pos (decide_eq_true (lt_cast hi)),if_pos (inB_nat.2 hi),e_toInst N _ () (by simp only [wL] at hw;omega) hN]
  try dsimp only [oB]
  rw [if_pos (inB_nat.2 (by omega)),wrap_nat (by omega)]
 case hd=>intro w;simp
 rfl
theorem e_toUnit (N:Nat) (x:UT) (u:Unit) (h:w_Unit x<big) (hN:big≤N):l_toUnit N (x,u)=some (x,()):=by
 have hw:(w_Prog x.2.1+0)<big:=h
 unfold l_toUnit
 dsimp only
 rw [e_toProg N x.2.1 () (by omega) hN]
 dsimp only [oB]
theorem e_toUnitS (N:Nat) (l:List UT) (u:Unit) (hw:wL w_Unit l<big) (hN:big≤N):l_toUnitS N (l,u)=some (l,()):=by
 have hb:big=1048577:=rfl
 have hl:l.length<big:=by simp only [wL] at hw;omega
 unfold l_toUnitS
 rw [if_pos (show mkB (l.length:Int) (l.length:Int) from ⟨by omega,by omega,by omega⟩)]
 dsimp only [tN]
 rw [loop_fill l ((0:Int),(([]:List NT),(0:Int),()),()) ((0:Int),(([]:List NT),(0:Int),()),()) ?h ?hd (by omega)]
 case h =>
  intro i w hi hw'
  dsimp only
  have hwi:=sumW_getD (w:=w_Unit) (d:=((0:Int),(([]:List NT),(0:Int),()),())) hi
  rw [tN,if_pos (decide_eq_true (lt_cast hi)),if_pos (inB_nat.2 hi),e_toUnit N _ () (by simp only [wL] at hw;omega) hN]
  try dsimp only [oB]
  rw [if_pos (inB_nat.2 (by omega)),wrap_nat (by omega)]
 case hd=>intro w;simp
 rfl
theorem e_toSys (N:Nat) (x:YT) (u:Unit) (h:w_Sys x<big) (hN:big≤N):l_toSys N (x,u)=some (x,()):=by
 have hw:(wL w_Cell x.1+(wL w_Inst x.2.1+(wL w_Unit x.2.2.1+(wL wStr x.2.2.2.1+0))))<big:=h
 unfold l_toSys
 dsimp only
 rw [e_toCellSW N x.1 () (by omega) hN]
 dsimp only [oB]
 rw [e_toInstS N x.2.1 () (by omega) hN]
 dsimp only [oB]
 rw [e_toUnitS N x.2.2.1 () (by omega) hN]
 dsimp only [oB]
 rw [e_toStrS N x.2.2.2.1 () (by simp only [wL] at hw;omega) hN]
 dsimp only [oB]
theorem e_toBind (N:Nat) (x:BT) (u:Unit) (h:w_Bind x<big) (hN:big≤N):l_toBind N (x,u)=some (x,()):=by
 have hw:(x.1.size+(w_Value x.2.1+0))<big:=h
 unfold l_toBind
 dsimp only
 rw [e_toValueW N x.2.1 () (by omega) hN]
 dsimp only [oB]
theorem e_toBindS (N:Nat) (l:List BT) (u:Unit) (hw:wL w_Bind l<big) (hN:big≤N):l_toBindS N (l,u)=some (l,()):=by
 have hb:big=1048577:=rfl
 have hl:l.length<big:=by simp only [wL] at hw;omega
 unfold l_toBindS
 rw [if_pos (show mkB (l.length:Int) (l.length:Int) from ⟨by omega,by omega,by omega⟩)]
 dsimp only [tN]
 rw [loop_fill l (bE,((0:Int),(0:Int),bE,()),()) (bE,((0:Int),(0:Int),bE,()),()) ?h ?hd (by omega)]
 case h =>
  intro i w hi hw'
  dsimp only
  have hwi:=sumW_getD (w:=w_Bind) (d:=(bE,((0:Int),(0:Int),bE,()),())) hi
  rw [tN,if_pos (decide_eq_true (lt_cast hi)),if_pos (inB_nat.2 hi),e_toBind N _ () (by simp only [wL] at hw;omega) hN]
  try dsimp only [oB]
  rw [if_pos (inB_nat.2 (by omega)),wrap_nat (by omega)]
 case hd=>intro w;simp
 rfl
theorem e_toFrame (N:Nat) (x:FT) (u:Unit) (h:w_Frame x<big) (hN:big≤N):l_toFrame N (x,u)=some (x,()):=by
 have hw:(wL w_Value x.2.2.1+(wL w_Bind x.2.2.2.1+0))<big:=h
 unfold l_toFrame
 dsimp only
 rw [e_toValueSW N x.2.2.1 () (by omega) hN]
 dsimp only [oB]
 rw [e_toBindS N x.2.2.2.1 () (by omega) hN]
 dsimp only [oB]
theorem e_toFrameS (N:Nat) (l:List FT) (u:Unit) (hw:wL w_Frame l<big) (hN:big≤N):l_toFrameS N (l,u)=some (l,()):=by
 have hb:big=1048577:=rfl
 have hl:l.length<big:=by simp only [wL] at hw;omega
 unfold l_toFrameS
 rw [if_pos (show mkB (l.length:Int) (l.length:Int) from ⟨by omega,by omega,by omega⟩)]
 dsimp only [tN]
 rw [loop_fill l ((0:Int),(0:Int),([]:List VT),([]:List BT),()) ((0:Int),(0:Int),([]:List VT),([]:List BT),()) ?h ?hd (by omega)]
 case h =>
  intro i w hi hw'
  dsimp only
  have hwi:=sumW_getD (w:=w_Frame) (d:=((0:Int),(0:Int),([]:List VT),([]:List BT),())) hi
  rw [tN,if_pos (decide_eq_true (lt_cast hi)),if_pos (inB_nat.2 hi),e_toFrame N _ () (by simp only [wL] at hw;omega) hN]
  try dsimp only [oB]
  rw [if_pos (inB_nat.2 (by omega)),wrap_nat (by omega)]
 case hd=>intro w;simp
 rfl
theorem e_toMachine (N:Nat) (x:MT) (u:Unit) (h:w_Machine x<big) (hN:big≤N):l_toMachine N (x,u)=some (x,()):=by
 have hw:(wL w_Bind x.2.2.2.1+(w_Value x.2.2.2.2.1+(wL w_Frame x.2.2.2.2.2.1+0)))<big:=h
 unfold l_toMachine
 dsimp only
 rw [e_toBindS N x.2.2.2.1 () (by omega) hN]
 dsimp only [oB]
 rw [e_toValueW N x.2.2.2.2.1 () (by omega) hN]
 dsimp only [oB]
 rw [e_toFrameS N x.2.2.2.2.2.1 () (by omega) hN]
 dsimp only [oB]
theorem e_toEnt (N:Nat) (x:ET) (u:Unit) (h:w_Ent x<big) (hN:big≤N):l_toEnt N (x,u)=some (x,()):=by
 have hw:(w_Src x.1+0)<big:=h
 unfold l_toEnt
 dsimp only
 rw [e_toSrc N x.1 () (by omega) hN]
 dsimp only [oB]
theorem e_toEntS (N:Nat) (l:List ET) (u:Unit) (hw:wL w_Ent l<big) (hN:big≤N):l_toEntS N (l,u)=some (l,()):=by
 have hb:big=1048577:=rfl
 have hl:l.length<big:=by simp only [wL] at hw;omega
 unfold l_toEntS
 rw [if_pos (show mkB (l.length:Int) (l.length:Int) from ⟨by omega,by omega,by omega⟩)]
 dsimp only [tN]
 rw [loop_fill l ((bE,([]:List ByteArray),([]:List ByteArray),([]:List TT),([]:List DT),([]:List DT),()),(0:Int),(0:Int),()) ((bE,([]:List ByteArray),([]:List ByteArray),([]:List TT),([]:List DT),([]:List DT),()),(0:Int),(0:Int),()) ?h ?hd (by omega)]
 case h =>
  intro i w hi hw'
  dsimp only
  have hwi:=sumW_getD (w:=w_Ent) (d:=((bE,([]:List ByteArray),([]:List ByteArray),([]:List TT),([]:List DT),([]:List DT),()),(0:Int),(0:Int),())) hi
  rw [tN,if_pos (decide_eq_true (lt_cast hi)),if_pos (inB_nat.2 hi),e_toEnt N _ () (by simp only [wL] at hw;omega) hN]
  try dsimp only [oB]
  rw [if_pos (inB_nat.2 (by omega)),wrap_nat (by omega)]
 case hd=>intro w;simp
 rfl
theorem e_toTask (N:Nat) (x:KT) (u:Unit) (h:w_Task x<big) (hN:big≤N):l_toTask N (x,u)=some (x,()):=by
 have hw:(w_Machine x.2.1+0)<big:=h
 unfold l_toTask
 dsimp only
 rw [e_toMachine N x.2.1 () (by omega) hN]
 dsimp only [oB]
theorem e_toTaskS (N:Nat) (l:List KT) (u:Unit) (hw:wL w_Task l<big) (hN:big≤N):l_toTaskS N (l,u)=some (l,()):=by
 have hb:big=1048577:=rfl
 have hl:l.length<big:=by simp only [wL] at hw;omega
 unfold l_toTaskS
 rw [if_pos (show mkB (l.length:Int) (l.length:Int) from ⟨by omega,by omega,by omega⟩)]
 dsimp only [tN]
 rw [loop_fill l ((0:Int),((0:Int),(0:Int),(0:Int),([]:List BT),((0:Int),(0:Int),bE,()),([]:List FT),(0:Int),()),()) ((0:Int),((0:Int),(0:Int),(0:Int),([]:List BT),((0:Int),(0:Int),bE,()),([]:List FT),(0:Int),()),()) ?h ?hd (by omega)]
 case h =>
  intro i w hi hw'
  dsimp only
  have hwi:=sumW_getD (w:=w_Task) (d:=((0:Int),((0:Int),(0:Int),(0:Int),([]:List BT),((0:Int),(0:Int),bE,()),([]:List FT),(0:Int),()),())) hi
  rw [tN,if_pos (decide_eq_true (lt_cast hi)),if_pos (inB_nat.2 hi),e_toTask N _ () (by simp only [wL] at hw;omega) hN]
  try dsimp only [oB]
  rw [if_pos (inB_nat.2 (by omega)),wrap_nat (by omega)]
 case hd=>intro w;simp
 rfl
theorem e_toWorld (N:Nat) (x:WT) (u:Unit) (h:w_World x<big) (hN:big≤N):l_toWorld N (x,u)=some (x,()):=by
 have hw:(w_Sys x.1+(wL w_Ent x.2.1+(wL w_Task x.2.2.1+0)))<big:=h
 unfold l_toWorld
 dsimp only
 rw [e_toSys N x.1 () (by omega) hN]
 dsimp only [oB]
 rw [e_toEntS N x.2.1 () (by omega) hN]
 dsimp only [oB]
 rw [e_toTaskS N x.2.2.1 () (by omega) hN]
 dsimp only [oB]
theorem e_eqValueW (N:Nat) (x:VT) (u:Unit) (h:w_Value x<big) (hN:big≤N):l_eqValue N (x,x,u)=some (true,()):=by
 unfold l_eqValue
 simp only [decide_true,bN,bF,if_false]
theorem e_eqValueSW (N:Nat) (l:List VT) (u:Unit) (hw:wL w_Value l<big) (hN:big≤N):l_eqValueS N (l,l,u)=some (true,()):=by
 have hb:big=1048577:=rfl
 have hl:l.length<big:=by simp only [wL] at hw;omega
 unfold l_eqValueS
 simp only [decide_true,bN,bF,if_false]
 rw [iter_done (fun i=>((i:Int),())) (x0:=(0,())) (b:=()) (k:=0) (n:=l.length) ?h (Nat.zero_le _) ?hd (by omega) rfl]
 case h =>
  intro i _ hi
  dsimp only
  have hwi:=sumW_getD (w:=w_Value) (d:=((0:Int),(0:Int),bE,())) hi
  rw [if_pos (decide_eq_true (lt_cast hi)),if_pos (inB_nat.2 hi),if_pos (inB_nat.2 hi),tN,e_eqValueW N _ _ (by simp only [wL] at hw;omega) hN,wrap_nat (by omega)]
  rfl
 case hd=>simp
 rfl
theorem e_eqCellW (N:Nat) (x:CT) (u:Unit) (h:w_Cell x<big) (hN:big≤N):l_eqCell N (x,x,u)=some (true,()):=by
 have hw:(x.2.1.size+(wL wStr x.2.2.2.2.1+(wL w_Value x.2.2.2.2.2.1+0)))<big:=h
 unfold l_eqCell
 simp only [decide_true,bN,bF,if_false]
 rw [e_eqStrS N x.2.2.2.2.1 () (by simp only [wL] at hw;omega) hN]
 simp only [oB,bN,bF,if_false]
 rw [e_eqValueSW N x.2.2.2.2.2.1 () (by omega) hN]
 simp only [oB,bN,bF,if_false]
theorem e_eqCellSW (N:Nat) (l:List CT) (u:Unit) (hw:wL w_Cell l<big) (hN:big≤N):l_eqCellS N (l,l,u)=some (true,()):=by
 have hb:big=1048577:=rfl
 have hl:l.length<big:=by simp only [wL] at hw;omega
 unfold l_eqCellS
 simp only [decide_true,bN,bF,if_false]
 rw [iter_done (fun i=>((i:Int),())) (x0:=(0,())) (b:=()) (k:=0) (n:=l.length) ?h (Nat.zero_le _) ?hd (by omega) rfl]
 case h =>
  intro i _ hi
  dsimp only
  have hwi:=sumW_getD (w:=w_Cell) (d:=((0:Int),bE,(0:Int),(0:Int),([]:List ByteArray),([]:List VT),())) hi
  rw [if_pos (decide_eq_true (lt_cast hi)),if_pos (inB_nat.2 hi),if_pos (inB_nat.2 hi),tN,e_eqCellW N _ _ (by simp only [wL] at hw;omega) hN,wrap_nat (by omega)]
  rfl
 case hd=>simp
 rfl
theorem e_eqLink (N:Nat) (x:LT) (u:Unit) (h:w_Link x<big) (hN:big≤N):l_eqLink N (x,x,u)=some (true,()):=by
 unfold l_eqLink
 simp only [decide_true,bN,bF,if_false]
theorem e_eqLinkS (N:Nat) (l:List LT) (u:Unit) (hw:wL w_Link l<big) (hN:big≤N):l_eqLinkS N (l,l,u)=some (true,()):=by
 have hb:big=1048577:=rfl
 have hl:l.length<big:=by simp only [wL] at hw;omega
 unfold l_eqLinkS
 simp only [decide_true,bN,bF,if_false]
 rw [iter_done (fun i=>((i:Int),())) (x0:=(0,())) (b:=()) (k:=0) (n:=l.length) ?h (Nat.zero_le _) ?hd (by omega) rfl]
 case h =>
  intro i _ hi
  dsimp only
  have hwi:=sumW_getD (w:=w_Link) (d:=(bE,(0:Int),bE,())) hi
  rw [if_pos (decide_eq_true (lt_cast hi)),if_pos (inB_nat.2 hi),if_pos (inB_nat.2 hi),tN,e_eqLink N _ _ (by simp only [wL] at hw;omega) hN,wrap_nat (by omega)]
  rfl
 case hd=>simp
 rfl
theorem e_eqInst (N:Nat) (x:IT) (u:Unit) (h:w_Inst x<big) (hN:big≤N):l_eqInst N (x,x,u)=some (true,()):=by
 have hw:(x.1.size+(wL wStr x.2.2.1+(wL w_Value x.2.2.2.1+(wL w_Link x.2.2.2.2.1+(wL w_Type x.2.2.2.2.2.1+0)))))<big:=h
 unfold l_eqInst
 simp only [decide_true,bN,bF,if_false]
 rw [e_eqStrS N x.2.2.1 () (by simp only [wL] at hw;omega) hN]
 simp only [oB,bN,bF,if_false]
 rw [e_eqValueSW N x.2.2.2.1 () (by omega) hN]
 simp only [oB,bN,bF,if_false]
 rw [e_eqLinkS N x.2.2.2.2.1 () (by omega) hN]
 simp only [oB,bN,bF,if_false]
 rw [e_eqTypeS N x.2.2.2.2.2.1 () (by omega) hN]
 simp only [oB,bN,bF,if_false]
theorem e_eqInstS (N:Nat) (l:List IT) (u:Unit) (hw:wL w_Inst l<big) (hN:big≤N):l_eqInstS N (l,l,u)=some (true,()):=by
 have hb:big=1048577:=rfl
 have hl:l.length<big:=by simp only [wL] at hw;omega
 unfold l_eqInstS
 simp only [decide_true,bN,bF,if_false]
 rw [iter_done (fun i=>((i:Int),())) (x0:=(0,())) (b:=()) (k:=0) (n:=l.length) ?h (Nat.zero_le _) ?hd (by omega) rfl]
 case h =>
  intro i _ hi
  dsimp only
  have hwi:=sumW_getD (w:=w_Inst) (d:=(bE,(0:Int),([]:List ByteArray),([]:List VT),([]:List LT),([]:List TT),())) hi
  rw [if_pos (decide_eq_true (lt_cast hi)),if_pos (inB_nat.2 hi),if_pos (inB_nat.2 hi),tN,e_eqInst N _ _ (by simp only [wL] at hw;omega) hN,wrap_nat (by omega)]
  rfl
 case hd=>simp
 rfl
theorem e_eqUnit (N:Nat) (x:UT) (u:Unit) (h:w_Unit x<big) (hN:big≤N):l_eqUnit N (x,x,u)=some (true,()):=by
 have hw:(w_Prog x.2.1+0)<big:=h
 unfold l_eqUnit
 simp only [decide_true,bN,bF,if_false]
 rw [e_eqProg N x.2.1 () (by omega) hN]
 simp only [oB,bN,bF,if_false]
theorem e_eqUnitS (N:Nat) (l:List UT) (u:Unit) (hw:wL w_Unit l<big) (hN:big≤N):l_eqUnitS N (l,l,u)=some (true,()):=by
 have hb:big=1048577:=rfl
 have hl:l.length<big:=by simp only [wL] at hw;omega
 unfold l_eqUnitS
 simp only [decide_true,bN,bF,if_false]
 rw [iter_done (fun i=>((i:Int),())) (x0:=(0,())) (b:=()) (k:=0) (n:=l.length) ?h (Nat.zero_le _) ?hd (by omega) rfl]
 case h =>
  intro i _ hi
  dsimp only
  have hwi:=sumW_getD (w:=w_Unit) (d:=((0:Int),(([]:List NT),(0:Int),()),())) hi
  rw [if_pos (decide_eq_true (lt_cast hi)),if_pos (inB_nat.2 hi),if_pos (inB_nat.2 hi),tN,e_eqUnit N _ _ (by simp only [wL] at hw;omega) hN,wrap_nat (by omega)]
  rfl
 case hd=>simp
 rfl
theorem e_eqSys (N:Nat) (x:YT) (u:Unit) (h:w_Sys x<big) (hN:big≤N):l_eqSys N (x,x,u)=some (true,()):=by
 have hw:(wL w_Cell x.1+(wL w_Inst x.2.1+(wL w_Unit x.2.2.1+(wL wStr x.2.2.2.1+0))))<big:=h
 unfold l_eqSys
 simp only [decide_true,bN,bF,if_false]
 rw [e_eqCellSW N x.1 () (by omega) hN]
 simp only [oB,bN,bF,if_false]
 rw [e_eqInstS N x.2.1 () (by omega) hN]
 simp only [oB,bN,bF,if_false]
 rw [e_eqUnitS N x.2.2.1 () (by omega) hN]
 simp only [oB,bN,bF,if_false]
 rw [e_eqStrS N x.2.2.2.1 () (by simp only [wL] at hw;omega) hN]
 simp only [oB,bN,bF,if_false]
theorem e_eqBind (N:Nat) (x:BT) (u:Unit) (h:w_Bind x<big) (hN:big≤N):l_eqBind N (x,x,u)=some (true,()):=by
 have hw:(x.1.size+(w_Value x.2.1+0))<big:=h
 unfold l_eqBind
 simp only [decide_true,bN,bF,if_false]
 rw [e_eqValueW N x.2.1 () (by omega) hN]
 simp only [oB,bN,bF,if_false]
theorem e_eqBindS (N:Nat) (l:List BT) (u:Unit) (hw:wL w_Bind l<big) (hN:big≤N):l_eqBindS N (l,l,u)=some (true,()):=by
 have hb:big=1048577:=rfl
 have hl:l.length<big:=by simp only [wL] at hw;omega
 unfold l_eqBindS
 simp only [decide_true,bN,bF,if_false]
 rw [iter_done (fun i=>((i:Int),())) (x0:=(0,())) (b:=()) (k:=0) (n:=l.length) ?h (Nat.zero_le _) ?hd (by omega) rfl]
 case h =>
  intro i _ hi
  dsimp only
  have hwi:=sumW_getD (w:=w_Bind) (d:=(bE,((0:Int),(0:Int),bE,()),())) hi
  rw [if_pos (decide_eq_true (lt_cast hi)),if_pos (inB_nat.2 hi),if_pos (inB_nat.2 hi),tN,e_eqBind N _ _ (by simp only [wL] at hw;omega) hN,wrap_nat (by omega)]
  rfl
 case hd=>simp
 rfl
theorem e_eqFrame (N:Nat) (x:FT) (u:Unit) (h:w_Frame x<big) (hN:big≤N):l_eqFrame N (x,x,u)=some (true,()):=by
 have hw:(wL w_Value x.2.2.1+(wL w_Bind x.2.2.2.1+0))<big:=h
 unfold l_eqFrame
 simp only [decide_true,bN,bF,if_false]
 rw [e_eqValueSW N x.2.2.1 () (by omega) hN]
 simp only [oB,bN,bF,if_false]
 rw [e_eqBindS N x.2.2.2.1 () (by omega) hN]
 simp only [oB,bN,bF,if_false]
theorem e_eqFrameS (N:Nat) (l:List FT) (u:Unit) (hw:wL w_Frame l<big) (hN:big≤N):l_eqFrameS N (l,l,u)=some (true,()):=by
 have hb:big=1048577:=rfl
 have hl:l.length<big:=by simp only [wL] at hw;omega
 unfold l_eqFrameS
 simp only [decide_true,bN,bF,if_false]
 rw [iter_done (fun i=>((i:Int),())) (x0:=(0,())) (b:=()) (k:=0) (n:=l.length) ?h (Nat.zero_le _) ?hd (by omega) rfl]
 case h =>
  intro i _ hi
  dsimp only
  have hwi:=sumW_getD (w:=w_Frame) (d:=((0:Int),(0:Int),([]:List VT),([]:List BT),())) hi
  rw [if_pos (decide_eq_true (lt_cast hi)),if_pos (inB_nat.2 hi),if_pos (inB_nat.2 hi),tN,e_eqFrame N _ _ (by simp only [wL] at hw;omega) hN,wrap_nat (by omega)]
  rfl
 case hd=>simp
 rfl
theorem e_eqMachine (N:Nat) (x:MT) (u:Unit) (h:w_Machine x<big) (hN:big≤N):l_eqMachine N (x,x,u)=some (true,()):=by
 have hw:(wL w_Bind x.2.2.2.1+(w_Value x.2.2.2.2.1+(wL w_Frame x.2.2.2.2.2.1+0)))<big:=h
 unfold l_eqMachine
 simp only [decide_true,bN,bF,if_false]
 rw [e_eqBindS N x.2.2.2.1 () (by omega) hN]
 simp only [oB,bN,bF,if_false]
 rw [e_eqValueW N x.2.2.2.2.1 () (by omega) hN]
 simp only [oB,bN,bF,if_false]
 rw [e_eqFrameS N x.2.2.2.2.2.1 () (by omega) hN]
 simp only [oB,bN,bF,if_false]
theorem e_eqEnt (N:Nat) (x:ET) (u:Unit) (h:w_Ent x<big) (hN:big≤N):l_eqEnt N (x,x,u)=some (true,()):=by
 have hw:(w_Src x.1+0)<big:=h
 unfold l_eqEnt
 simp only [decide_true,bN,bF,if_false]
 rw [e_eqSrc N x.1 () (by omega) hN]
 simp only [oB,bN,bF,if_false]
theorem e_eqEntS (N:Nat) (l:List ET) (u:Unit) (hw:wL w_Ent l<big) (hN:big≤N):l_eqEntS N (l,l,u)=some (true,()):=by
 have hb:big=1048577:=rfl
 have hl:l.length<big:=by simp only [wL] at hw;omega
 unfold l_eqEntS
 simp only [decide_true,bN,bF,if_false]
 rw [iter_done (fun i=>((i:Int),())) (x0:=(0,())) (b:=()) (k:=0) (n:=l.length) ?h (Nat.zero_le _) ?hd (by omega) rfl]
 case h =>
  intro i _ hi
  dsimp only
  have hwi:=sumW_getD (w:=w_Ent) (d:=((bE,([]:List ByteArray),([]:List ByteArray),([]:List TT),([]:List DT),([]:List DT),()),(0:Int),(0:Int),())) hi
  rw [if_pos (decide_eq_true (lt_cast hi)),if_pos (inB_nat.2 hi),if_pos (inB_nat.2 hi),tN,e_eqEnt N _ _ (by simp only [wL] at hw;omega) hN,wrap_nat (by omega)]
  rfl
 case hd=>simp
 rfl
theorem e_eqTask (N:Nat) (x:KT) (u:Unit) (h:w_Task x<big) (hN:big≤N):l_eqTask N (x,x,u)=some (true,()):=by
 have hw:(w_Machine x.2.1+0)<big:=h
 unfold l_eqTask
 simp only [decide_true,bN,bF,if_false]
 rw [e_eqMachine N x.2.1 () (by omega) hN]
 simp only [oB,bN,bF,if_false]
theorem e_eqTaskS (N:Nat) (l:List KT) (u:Unit) (hw:wL w_Task l<big) (hN:big≤N):l_eqTaskS N (l,l,u)=some (true,()):=by
 have hb:big=1048577:=rfl
 have hl:l.length<big:=by simp only [wL] at hw;omega
 unfold l_eqTaskS
 simp only [decide_true,bN,bF,if_false]
 rw [iter_done (fun i=>((i:Int),())) (x0:=(0,())) (b:=()) (k:=0) (n:=l.length) ?h (Nat.zero_le _) ?hd (by omega) rfl]
 case h =>
  intro i _ hi
  dsimp only
  have hwi:=sumW_getD (w:=w_Task) (d:=((0:Int),((0:Int),(0:Int),(0:Int),([]:List BT),((0:Int),(0:Int),bE,()),([]:List FT),(0:Int),()),())) hi
  rw [if_pos (decide_eq_true (lt_cast hi)),if_pos (inB_nat.2 hi),if_pos (inB_nat.2 hi),tN,e_eqTask N _ _ (by simp only [wL] at hw;omega) hN,wrap_nat (by omega)]
  rfl
 case hd=>simp
 rfl
theorem e_eqWorld (N:Nat) (x:WT) (u:Unit) (h:w_World x<big) (hN:big≤N):l_eqWorld N (x,x,u)=some (true,()):=by
 have hw:(w_Sys x.1+(wL w_Ent x.2.1+(wL w_Task x.2.2.1+0)))<big:=h
 unfold l_eqWorld
 simp only [decide_true,bN,bF,if_false]
 rw [e_eqSys N x.1 () (by omega) hN]
 simp only [oB,bN,bF,if_false]
 rw [e_eqEntS N x.2.1 () (by omega) hN]
 simp only [oB,bN,bF,if_false]
 rw [e_eqTaskS N x.2.2.1 () (by omega) hN]
 simp only [oB,bN,bF,if_false]
end Go.Rf
namespace Go.Rf
def zerV (v:VT):Bool:=decide (v.1=0) && (decide (v.2.1=0) && (decide (v.2.2.1=eS) && true))
def valB (h:List CT) (v:VT):Bool:=zerV v || valueOk h v
def headB (i:Nat) (x:IT):Bool:=if i=0 then decide (x.1=eS) && decide (x.2.1=0) else isName x.1 && inI x.2.1 1 1000
def frB (s:List ByteArray):List ByteArray→Bool
 | []=>true
 | x::l=>(isName x && !sIn s x) && frB (s++[x]) l
theorem sIn_append (a b:List ByteArray) (s:ByteArray):sIn (a++b) s=(sIn a s || sIn b s):=by simp [sIn]
theorem frB_range:∀ (l s:List ByteArray),(List.range l.length).all (fun i=>isName (l.getD i eS) && !sIn (s++l.take i) (l.getD i eS))=frB s l:=by
 intro l
 induction l with
 | nil=>intro s;rfl
 | cons x l ih =>
  intro s
  rw [List.length_cons,List.range_succ_eq_map,List.all_cons,List.all_map]
  simp only [frB]
  congr 1
  ·simp
  ·rw [← ih]
   congr 1
   funext i
   simp [Function.comp]
theorem namesB_fr (l:List ByteArray):namesB l=frB [] l:=by
 rw [← frB_range]
 unfold namesB newAt
 simp
theorem frB_app:∀ (l s t:List ByteArray),frB (s++t) l=(l.all (fun x=>!sIn s x) && frB t l):=by
 intro l
 induction l with
 | nil=>intro s t;rfl
 | cons x l ih =>
  intro s t
  simp only [frB,List.all_cons,List.append_assoc]
  rw [ih,sIn_append]
  cases isName x <;> cases sIn s x <;> cases sIn t x <;> simp
def linkC (n:Nat) (l:LT):Bool:=inI l.2.1 0 ((n:Int)-1) && isName l.2.2.1
def namK (l:List LT):List ByteArray:=l.map (·.1)
def linksB (n:Nat) (names:List ByteArray) (l:List LT):Bool:=decide ((l.length:Int)≤30) && (l.all (linkC n) && (l.all (fun x=>!sIn names x.1) && namesB (namK l)))
def typesB (l:List TT):Bool:=l.all sizB && (decide ((l.length:Int)≤8) && namesB (namT l))
def instB (h:List CT) (n:Nat) (i:Nat) (x:IT):Bool :=
 headB i x && (x.2.2.2.1.all (valB h) && ((decide ((x.2.2.1.length:Int)≤30) && namesB x.2.2.1) && (decide ((x.2.2.2.1.length:Int)=(x.2.2.1.length:Int)) && (linksB n x.2.2.1 x.2.2.2.2.1 && typesB x.2.2.2.2.2.1))))
structure SmI (x:IT):Prop where
 lib:x.1.size<big
 nm:x.2.2.1.length<big
 nmS:∀ s∈x.2.2.1,s.size<big
 vl:x.2.2.2.1.length<big
 vlS:∀ v∈x.2.2.2.1,SzV v
 ln:x.2.2.2.2.1.length<big
 lnS:∀ l∈x.2.2.2.2.1,l.1.size<big∧l.2.2.1.size<big
 ty:x.2.2.2.2.2.1.length<big
 tyS:∀ t∈x.2.2.2.2.2.1,t.1.size<big
theorem smI {x:IT} (h:w_Inst x<big):SmI x:=by
 have h:(x.1.size+(wL wStr x.2.2.1+(wL w_Value x.2.2.2.1+(wL w_Link x.2.2.2.2.1+(wL w_Type x.2.2.2.2.2.1+0)))))<big:=h
 have l1:=wL_len wStr x.2.2.1
 have l2:=wL_len w_Value x.2.2.2.1
 have l3:=wL_len w_Link x.2.2.2.2.1
 have l4:=wL_len w_Type x.2.2.2.2.2.1
 refine ⟨by omega,by omega,fun s m=>?_,by omega,fun v m=>?_,by omega,fun l m=>?_,by omega,fun t m=>?_⟩
 ·have:=wL_mem (w:=wStr) m;have e:wStr s=s.size:=rfl;omega
 ·have:=wL_mem (w:=w_Value) m;have e:w_Value v=v.2.2.1.size+0:=rfl;show v.2.2.1.size<big;omega
 ·have:=wL_mem (w:=w_Link) m;have e:w_Link l=l.1.size+(l.2.2.1.size+0):=rfl;omega
 ·have:=wL_mem (w:=w_Type) m;have e:w_Type t=t.1.size+0:=rfl;omega
theorem foldO_fr {α:Type} (p:α→Bool) (nm:α→ByteArray):∀ (l:List α) (i:Nat) (s:List ByteArray),foldO (fun _ s x=>if ((isName (nm x) && !sIn s (nm x)) && p x)=true then some (s++[nm x]) else none) i s l =
  if (l.all p && frB s (l.map nm))=true then some (s++l.map nm) else none:=by
 intro l
 induction l with
 | nil=>intro i s;simp [foldO,frB]
 | cons x l ih =>
  intro i s
  simp only [foldO,List.map_cons,frB,List.all_cons]
  by_cases hp:((isName (nm x) && !sIn s (nm x)) && p x)=true
  ·rw [if_pos hp]
   simp only [bA] at hp
   simp only [oB]
   rw [ih]
   simp [hp]
  ·rw [if_neg hp]
   have:((p x && l.all p) && ((isName (nm x) && !sIn s (nm x)) && frB (s++[nm x]) (l.map nm)))=false:=by
    simp only [bA,not_and] at hp
    cases h1:isName (nm x) <;> cases h2:sIn s (nm x) <;> cases h3:p x <;> simp_all
   rw [this];rfl
theorem head_not (i:Nat) (x:IT):((decide ((i:Int)=0) && (!decide (x.1=(ByteArray.mk #[])) || !decide (x.2.1=0))) || (decide ((i:Int)>0) && (!isName x.1 || !(decide (x.2.1≥1) && decide (x.2.1≤1000)))))=!headB i x:=by
 unfold headB inI
 have he:(ByteArray.mk #[])=eS:=rfl
 rw [he]
 by_cases hi:i=0
 ·subst hi
  cases decide (x.1=eS) <;> cases decide (x.2.1=0) <;> simp
 ·have h1:decide ((i:Int)=0)=false:=decide_eq_false (by omega)
  have h2:decide ((i:Int)>0)=true:=decide_eq_true (by omega)
  rw [h1,h2,if_neg hi]
  cases isName x.1 <;> simp
theorem or_someB {c d:Bool}:(if c=true then some true else some d)=some (c || d):=by cases c <;> rfl
theorem loop_vals {N:Nat}{h:List CT} (vs:List VT){B C:Type}{f:Int×Unit→Option (Step (Int×Unit) B C)}{b:B}{c:C} (hl:vs.length<big)
  (hst:∀ i,i<vs.length→f ((i:Int),())=some (if valB h (vs.getD i ((0:Int),(0:Int),bE,()))=true then .more (wI ((i:Int)+1),()) else .ret c)) (hd:f ((vs.length:Int),())=some (.done b)) (hN:big≤N) :
  iter f N (0,())=some (if vs.all (valB h)=true then .inl b else .inr c):=by
 have hb:big=1048577:=rfl
 exact loop_all vs ((0:Int),(0:Int),bE,()) (valB h) (by omega) hst hd (by omega)
theorem e_s_inst (N:Nat) (y:YT) (i:Nat) (u:Unit) (hi:i<y.2.1.length) (h:SmI (y.2.1.getD i (bE,(0:Int),([]:List ByteArray),([]:List VT),([]:List LT),([]:List TT),()))) (hn:y.2.1.length<big) (hN:big≤N):s_l8InstOk N (y,(i:Int),u)=some (instB y.1 y.2.1.length i (y.2.1.getD i (bE,(0:Int),([]:List ByteArray),([]:List VT),([]:List LT),([]:List TT),())),()):=by
 have hb:big=1048577:=rfl
 unfold s_l8InstOk instB
 dsimp only
 rw [if_pos (inB_nat.2 hi),tN]
 generalize y.2.1.getD i (bE,(0:Int),([]:List ByteArray),([]:List VT),([]:List LT),([]:List TT),())=x at h
 have h1:=h.lib
 have h2:=h.nm
 have h4:=h.vl
 have h6:=h.ln
 have h8:=h.ty
 rw [e_s_IsName N (x.1,()) (show x.1.size<_ by omega) (show x.1.size<N by omega) (by omega),e_s_l1In,e_s_names N _ 30 () h2 h.nmS hN]
 simp only [or_someB,and_some',oB,Bool.decide_eq_true]
 have hh:=head_not i x
 rw [hh]
 by_cases hc:(headB i x && ((decide ((x.2.2.1.length:Int)≤30) && namesB x.2.2.1) && (decide ((x.2.2.2.1.length:Int)=(x.2.2.1.length:Int)) && (decide ((x.2.2.2.2.1.length:Int)≤30) && decide ((x.2.2.2.2.2.1.length:Int)≤8)))))=true
 rotate_left
 ·have e1:(((((!headB i x) || (!(decide ((x.2.2.1.length:Int)≤30) && namesB x.2.2.1))) || (!decide ((x.2.2.2.1.length:Int)=(x.2.2.1.length:Int)))) || decide ((x.2.2.2.2.1.length:Int)>30)) || decide ((x.2.2.2.2.2.1.length:Int)>8))=true:=by
   have q1:decide ((x.2.2.2.2.1.length:Int)>30)=!decide ((x.2.2.2.2.1.length:Int)≤30):=by rw [← decide_not];exact decide_eq_decide.2 (by omega)
   have q2:decide ((x.2.2.2.2.2.1.length:Int)>8)=!decide ((x.2.2.2.2.2.1.length:Int)≤8):=by rw [← decide_not];exact decide_eq_decide.2 (by omega)
   rw [q1,q2]
   revert hc
   cases headB i x <;> cases (decide ((x.2.2.1.length:Int)≤30) && namesB x.2.2.1) <;> cases decide ((x.2.2.2.1.length:Int)=(x.2.2.1.length:Int)) <;> cases decide ((x.2.2.2.2.1.length:Int)≤30) <;> cases decide ((x.2.2.2.2.2.1.length:Int)≤8) <;> simp
  have e2:(headB i x && (x.2.2.2.1.all (valB y.1) && ((decide ((x.2.2.1.length:Int)≤30) && namesB x.2.2.1) && (decide ((x.2.2.2.1.length:Int)=(x.2.2.1.length:Int)) && (linksB y.2.1.length x.2.2.1 x.2.2.2.2.1 && typesB x.2.2.2.2.2.1)))))=false:=by
   revert hc
   unfold linksB typesB
   cases headB i x <;> cases (decide ((x.2.2.1.length:Int)≤30) && namesB x.2.2.1) <;> cases decide ((x.2.2.2.1.length:Int)=(x.2.2.1.length:Int)) <;> cases decide ((x.2.2.2.2.1.length:Int)≤30) <;> cases decide ((x.2.2.2.2.2.1.length:Int)≤8) <;> simp
  rw [e2,if_pos e1]
 ·simp only [bA,decide_eq_true_eq] at hc
  obtain ⟨c1,⟨c2,c3⟩,c4,c5,c6⟩:=hc
  have e1:¬ ((((((!headB i x) || (!(decide ((x.2.2.1.length:Int)≤30) && namesB x.2.2.1))) || (!decide ((x.2.2.2.1.length:Int)=(x.2.2.1.length:Int)))) || decide ((x.2.2.2.2.1.length:Int)>30)) || decide ((x.2.2.2.2.2.1.length:Int)>8))=true):=by
   rw [c1,c3,decide_eq_true c2,decide_eq_true c4,decide_eq_false (show ¬ ((x.2.2.2.2.1.length:Int)>30) by omega),decide_eq_false (show ¬ ((x.2.2.2.2.2.1.length:Int)>8) by omega)]
   simp
  rw [if_neg e1]
  rw [loop_vals (h:=y.1) x.2.2.2.1 (b:=()) (c:=(false,())) h4 ?hv ?hvd hN]
  case hvd=>simp
  case hv =>
   intro k hk
   dsimp only
   rw [if_pos (decide_eq_true (lt_cast hk)),if_pos (inB_nat.2 hk),tN,e_s_ValueOk N (y.1,x.2.2.2.1.getD k ((0:Int),(0:Int),bE,()),()) (h.vlS _ (mem_getD (d:=((0:Int),(0:Int),bE,())) hk)) hN]
   unfold valB
   rw [show (decide ((x.2.2.2.1.getD k ((0:Int),(0:Int),bE,())).1=0) && (decide ((x.2.2.2.1.getD k ((0:Int),(0:Int),bE,())).2.1=0) && (decide ((x.2.2.2.1.getD k ((0:Int),(0:Int),bE,())).2.2.1=bE) && true)))=zerV (x.2.2.2.1.getD k ((0:Int),(0:Int),bE,())) from rfl]
   simp only [inB_nat,hk,if_true,oB]
   cases zerV (x.2.2.2.1.getD k ((0:Int),(0:Int),bE,())) <;> cases valueOk y.1 (x.2.2.2.1.getD k ((0:Int),(0:Int),bE,())) <;> rfl
  have hfin:∀ b:Bool,b=(linksB y.2.1.length x.2.2.1 x.2.2.2.2.1 && typesB x.2.2.2.2.2.1)→(headB i x && (x.2.2.2.1.all (valB y.1) && ((decide ((x.2.2.1.length:Int)≤30) && namesB x.2.2.1) && (decide ((x.2.2.2.1.length:Int)=(x.2.2.1.length:Int)) && (linksB y.2.1.length x.2.2.1 x.2.2.2.2.1 && typesB x.2.2.2.2.2.1)))))=(x.2.2.2.1.all (valB y.1) && b):=by
   intro b hb'
   rw [hb',c1,c3,decide_eq_true c2,decide_eq_true c4];simp
  rw [hfin _ rfl]
  cases x.2.2.2.1.all (valB y.1) with
  | false=>rfl
  | true =>
   simp only [if_true,oB,Bool.true_and]
   rw [if_pos (by omega)]
   rw [loop_foldM (fun (s:List ByteArray) (k:Nat)=>(s,(k:Int),())) (fun k s=>s.length≤x.2.2.1.length+k) (fun _ s (l:LT)=>if ((isName l.1 && !sIn s l.1) && linkC y.2.1.length l)=true then some (s++[l.1]) else none) (fun _=>()) (false,()) x.2.2.2.2.1 (bE,(0:Int),bE,()) ?hl ?hls ?hld x.2.2.1 (x.2.2.1,0,()) rfl (by simp) (by omega)]
   case hls =>
    intro k s s' hk hs e
    split at e
    ·cases e;simp;omega
    ·cases e
   case hld=>intro s hs;simp
   case hl =>
    intro k s hk hs
    have hm:=h.lnS _ (mem_getD (d:=(bE,(0:Int),bE,())) hk)
    dsimp only
    rw [if_pos (decide_eq_true (lt_cast hk)),if_pos (inB_nat.2 hk),tN,e_s_IsName N ((x.2.2.2.2.1.getD k (bE,(0:Int),bE,())).1,()) (show (x.2.2.2.2.1.getD k (bE,(0:Int),bE,())).1.size<_ by omega) (show (x.2.2.2.2.1.getD k (bE,(0:Int),bE,())).1.size<N by omega) (by omega),
     e_s_IsName N ((x.2.2.2.2.1.getD k (bE,(0:Int),bE,())).2.2.1,()) (show (x.2.2.2.2.1.getD k (bE,(0:Int),bE,())).2.2.1.size<_ by omega) (show (x.2.2.2.2.1.getD k (bE,(0:Int),bE,())).2.2.1.size<N by omega) (by omega),e_in N s _ () (by omega) hN]
    simp only [or_someB,oB,Bool.decide_eq_true]
    rw [if_pos (show List.length s+List.length [(x.2.2.2.2.1.getD k (bE,(0:Int),bE,())).1]≤4294967296 by simp;omega),wrap_nat (by omega)]
    have q1:decide ((x.2.2.2.2.1.getD k (bE,(0:Int),bE,())).2.1<0)=!decide ((x.2.2.2.2.1.getD k (bE,(0:Int),bE,())).2.1≥0):=by rw [← decide_not];exact decide_eq_decide.2 (by omega)
    have q2:decide ((x.2.2.2.2.1.getD k (bE,(0:Int),bE,())).2.1≥(y.2.1.length:Int))=!decide ((x.2.2.2.2.1.getD k (bE,(0:Int),bE,())).2.1≤(y.2.1.length:Int)-1):=by rw [← decide_not];exact decide_eq_decide.2 (by omega)
    rw [q1,q2]
    unfold linkC inI
    cases isName (x.2.2.2.2.1.getD k (bE,(0:Int),bE,())).1 <;> cases sIn s (x.2.2.2.2.1.getD k (bE,(0:Int),bE,())).1 <;> cases decide ((x.2.2.2.2.1.getD k (bE,(0:Int),bE,())).2.1≥0) <;> cases decide ((x.2.2.2.2.1.getD k (bE,(0:Int),bE,())).2.1≤(y.2.1.length:Int)-1) <;> cases isName (x.2.2.2.2.1.getD k (bE,(0:Int),bE,())).2.2.1 <;> rfl
   rw [foldO_fr (linkC y.2.1.length) (fun l:LT=>l.1)]
   have hlk:(x.2.2.2.2.1.all (linkC y.2.1.length) && frB x.2.2.1 (x.2.2.2.2.1.map fun l=>l.1))=linksB y.2.1.length x.2.2.1 x.2.2.2.2.1:=by
    unfold linksB
    rw [decide_eq_true c5,Bool.true_and,namesB_fr]
    have:=frB_app (x.2.2.2.2.1.map fun l=>l.1) x.2.2.1 []
    rw [List.append_nil] at this
    rw [this,List.all_map];rfl
   rw [hlk]
   cases linksB y.2.1.length x.2.2.1 x.2.2.2.2.1 with
   | false=>rfl
   | true =>
    simp only [if_true,Bool.true_and]
    rw [loop_foldM (fun (s:List ByteArray) (k:Nat)=>(s,(k:Int),())) (fun k s=>s.length≤k) (fun _ s (t:TT)=>if ((isName t.1 && !sIn s t.1) && sizB t)=true then some (s++[t.1]) else none) (fun _=>()) (false,()) x.2.2.2.2.2.1 (bE,(0:Int),()) ?ht ?hts ?htd [] ([],0,()) rfl (by simp) (by omega)]
    case hts =>
     intro k s s' hk hs e
     split at e
     ·cases e;simp;omega
     ·cases e
    case htd=>intro s hs;simp
    case ht =>
     intro k s hk hs
     have hm:=h.tyS _ (mem_getD (d:=(bE,(0:Int),())) hk)
     dsimp only
     rw [if_pos (decide_eq_true (lt_cast hk)),tN,e_s_IsName N ((x.2.2.2.2.2.1.getD k (bE,(0:Int),())).1,()) (show (x.2.2.2.2.2.1.getD k (bE,(0:Int),())).1.size<_ by omega) (show (x.2.2.2.2.2.1.getD k (bE,(0:Int),())).1.size<N by omega) (by omega),e_in N s _ () (by omega) hN,e_s_l1In]
     simp only [inB_nat,hk,if_true,or_someB,oB,Bool.decide_eq_true]
     rw [if_pos (show List.length s+List.length [(x.2.2.2.2.2.1.getD k (bE,(0:Int),())).1]≤4294967296 by simp;omega),wrap_nat (by omega)]
     rw [show (decide ((x.2.2.2.2.2.1.getD k (bE,(0:Int),())).2.1≥0) && decide ((x.2.2.2.2.2.1.getD k (bE,(0:Int),())).2.1≤8))=sizB (x.2.2.2.2.2.1.getD k (bE,(0:Int),())) from rfl]
     cases isName (x.2.2.2.2.2.1.getD k (bE,(0:Int),())).1 <;> cases sIn s (x.2.2.2.2.2.1.getD k (bE,(0:Int),())).1 <;> cases sizB (x.2.2.2.2.2.1.getD k (bE,(0:Int),())) <;> rfl
    rw [foldO_fr sizB (fun t:TT=>t.1)]
    have htk:(x.2.2.2.2.2.1.all sizB && frB [] (x.2.2.2.2.2.1.map fun t=>t.1))=typesB x.2.2.2.2.2.1:=by
     unfold typesB
     rw [decide_eq_true c6,Bool.true_and,namesB_fr];rfl
    rw [htk]
    cases typesB x.2.2.2.2.2.1 <;> rfl
end Go.Rf
namespace Go.Rf
theorem e_links (N:Nat) (y:YT) (x:IT) (u:Unit) (h:SmI x) (hn:y.2.1.length<big) (hN:big≤N):i_Sys_linksOk N (y,x,u)=some (linksB y.2.1.length x.2.2.1 x.2.2.2.2.1,()):=by
 have hb:big=1048577:=rfl
 have h2:=h.nm
 have h6:=h.ln
 unfold i_Sys_linksOk
 dsimp only
 rw [loop_foldM (fun (s:List ByteArray) (k:Nat)=>(x,s,(k:Int),())) (fun k s=>s.length=k) (fun _ s (l:LT)=>if (!sIn x.2.2.1 l.1 && linkC y.2.1.length l)=true then some (s++[l.1]) else none) (fun s=>(s,())) (false,()) x.2.2.2.2.1 (bE,(0:Int),bE,()) ?hl ?hls ?hld [] (x,[],0,()) rfl rfl (by omega)]
 case hls =>
  intro k s s' hk hs e
  split at e
  ·cases e;simp [hs]
  ·cases e
 case hld=>intro s hs;simp
 case hl =>
  intro k s hk hs
  have hm:=h.lnS _ (mem_getD (d:=(bE,(0:Int),bE,())) hk)
  have hw:wI ((y.2.1.length:Int)-1)=(y.2.1.length:Int)-1:=wrap_id (by omega) (by omega)
  dsimp only
  rw [if_pos (decide_eq_true (lt_cast hk)),if_pos (inB_nat.2 hk),tN,if_pos (show List.length s+List.length [(x.2.2.2.2.1.getD k (bE,(0:Int),bE,())).1]≤4294967296 by simp;omega),e_contains N x.2.2.1 _ () h2 hN,e_i_inRange,hw,
   e_i_IsName N ((x.2.2.2.2.1.getD k (bE,(0:Int),bE,())).2.2.1,()) (show (x.2.2.2.2.1.getD k (bE,(0:Int),bE,())).2.2.1.size<_ by omega) (show (x.2.2.2.2.1.getD k (bE,(0:Int),bE,())).2.2.1.size<N by omega),wrap_nat (by omega)]
  dsimp only [oB]
  unfold linkC inI
  cases sIn x.2.2.1 (x.2.2.2.2.1.getD k (bE,(0:Int),bE,())).1 <;> cases (decide ((x.2.2.2.2.1.getD k (bE,(0:Int),bE,())).2.1≥0) && decide ((x.2.2.2.2.1.getD k (bE,(0:Int),bE,())).2.1≤(y.2.1.length:Int)-1)) <;> cases isName (x.2.2.2.2.1.getD k (bE,(0:Int),bE,())).2.2.1 <;> rfl
 rw [foldO_all (fun l:LT=>!sIn x.2.2.1 l.1 && linkC y.2.1.length l) (fun l:LT=>l.1)]
 have e1:linksB y.2.1.length x.2.2.1 x.2.2.2.2.1=(x.2.2.2.2.1.all (fun l:LT=>!sIn x.2.2.1 l.1 && linkC y.2.1.length l) && (decide ((x.2.2.2.2.1.length:Int)≤30) && namesB (namK x.2.2.2.2.1))):=by
  unfold linksB
  have:x.2.2.2.2.1.all (fun l:LT=>!sIn x.2.2.1 l.1 && linkC y.2.1.length l)=(x.2.2.2.2.1.all (fun l=>!sIn x.2.2.1 l.1) && x.2.2.2.2.1.all (linkC y.2.1.length)):=all_and' _ _ _
  rw [this]
  cases decide ((x.2.2.2.2.1.length:Int)≤30) <;> cases x.2.2.2.2.1.all (linkC y.2.1.length) <;> cases x.2.2.2.2.1.all (fun l=>!sIn x.2.2.1 l.1) <;> simp
 rw [e1]
 cases x.2.2.2.2.1.all (fun l:LT=>!sIn x.2.2.1 l.1 && linkC y.2.1.length l) with
 | false=>rfl
 | true =>
  simp only [if_true,List.nil_append,Bool.true_and]
  have hk:(x.2.2.2.2.1.map fun l:LT=>l.1)=namK x.2.2.2.2.1:=rfl
  rw [hk,e_namesOk N (namK x.2.2.2.2.1) 30 () (by simp [namK];exact h6) (fun s hs=>by obtain ⟨l,hl,rfl⟩:=List.mem_map.1 hs;exact (h.lnS l hl).1) hN]
  simp [namK]
theorem e_i_inst (N:Nat) (y:YT) (i:Nat) (u:Unit) (hi:i<y.2.1.length) (h:SmI (y.2.1.getD i (bE,(0:Int),([]:List ByteArray),([]:List VT),([]:List LT),([]:List TT),()))) (hn:y.2.1.length<big) (hh:y.1.length<big) (hN:big≤N):i_Sys_instOk N (y,(i:Int),u)=some (instB y.1 y.2.1.length i (y.2.1.getD i (bE,(0:Int),([]:List ByteArray),([]:List VT),([]:List LT),([]:List TT),())),()):=by
 have hb:big=1048577:=rfl
 unfold i_Sys_instOk instB
 dsimp only
 rw [if_pos (inB_nat.2 hi),tN]
 generalize y.2.1.getD i (bE,(0:Int),([]:List ByteArray),([]:List VT),([]:List LT),([]:List TT),())=x at h
 have h1:=h.lib
 have h2:=h.nm
 have h4:=h.vl
 have h6:=h.ln
 have h8:=h.ty
 rw [e_i_IsName N (x.1,()) (show x.1.size<_ by omega) (show x.1.size<N by omega),e_i_inRange,e_namesOk N x.2.2.1 30 () h2 h.nmS hN,e_links N y x () h hn hN,e_typesOk N x.2.2.2.2.2.1 () h8 h.tyS hN]
 simp only [or_someB,and_some',oB,Bool.decide_eq_true]
 rw [head_not i x]
 cases headB i x with
 | false=>rfl
 | true =>
  simp only [bN,bF,if_false,Bool.true_and]
  rw [loop_vals (h:=y.1) x.2.2.2.1 (b:=()) (c:=(false,())) h4 ?hv ?hvd hN]
  case hvd=>simp
  case hv =>
   intro k hk
   dsimp only
   rw [if_pos (decide_eq_true (lt_cast hk)),if_pos (inB_nat.2 hk),tN,e_i_ValueOk N (y.1,x.2.2.2.1.getD k ((0:Int),(0:Int),bE,()),()) (h.vlS _ (mem_getD (d:=((0:Int),(0:Int),bE,())) hk)) hh hN]
   unfold valB
   rw [show (decide ((x.2.2.2.1.getD k ((0:Int),(0:Int),bE,())).1=0) && (decide ((x.2.2.2.1.getD k ((0:Int),(0:Int),bE,())).2.1=0) && (decide ((x.2.2.2.1.getD k ((0:Int),(0:Int),bE,())).2.2.1=bE) && true)))=zerV (x.2.2.2.1.getD k ((0:Int),(0:Int),bE,())) from rfl]
   simp only [oB]
   cases zerV (x.2.2.2.1.getD k ((0:Int),(0:Int),bE,())) <;> cases valueOk y.1 (x.2.2.2.1.getD k ((0:Int),(0:Int),bE,())) <;> rfl
  cases x.2.2.2.1.all (valB y.1) with
  | false=>rfl
  | true =>
   simp only [if_true,oB,Bool.true_and]
   rw [show (x.2.2.2.2.2.1.all sizB && (decide ((x.2.2.2.2.2.1.length:Int)≤8) && namesB (namT x.2.2.2.2.2.1)))=typesB x.2.2.2.2.2.1 from rfl]
   cases (decide ((x.2.2.1.length:Int)≤30) && namesB x.2.2.1) <;> cases decide ((x.2.2.2.1.length:Int)=(x.2.2.1.length:Int)) <;> cases linksB y.2.1.length x.2.2.1 x.2.2.2.2.1 <;> cases typesB x.2.2.2.2.2.1 <;> rfl
end Go.Rf
namespace Go.Rf
def unitB (n:Nat) (u:UT):Bool:=inI u.1 0 ((n:Int)-1) && progB u.2.1
def nodesAt (us:List UT) (a:Int):List NT:=(us.getD a.toNat ((0:Int),(([]:List NT),(0:Int),()),())).2.1.1
def lamB (us:List UT) (a b:Int):Bool:=inI a 0 ((us.length:Int)-1) && (inI b 0 (((nodesAt us a).length:Int)-1) && decide (((nodesAt us a).getD b.toNat ((0:Int),(0:Int),bE,([]:List ByteArray),([]:List Int),())).1=7))
def cfnB (us:List UT) (c:CT):Bool:=!decide (c.1=2) || lamB us c.2.2.1 c.2.2.2.1
def sysB (y:YT):Bool:=heapOk y.1 && (inI (y.2.1.length:Int) 1 12 && (decide ((y.2.2.1.length:Int)≤60) && (decide ((y.2.2.2.1.length:Int)≤40) &&
 ((List.range y.2.1.length).all (fun i=>instB y.1 y.2.1.length i (y.2.1.getD i (bE,(0:Int),([]:List ByteArray),([]:List VT),([]:List LT),([]:List TT),()))) && (y.2.2.1.all (unitB y.2.1.length) && y.1.all (cfnB y.2.2.1))))))
structure SmY (y:YT):Prop where
 heap:SzH y.1
 ins:y.2.1.length<big
 insS:∀ x∈y.2.1,SmI x
 un:y.2.2.1.length<big
 unS:∀ u∈y.2.2.1,w_Prog u.2.1<big
theorem szC_of {c:CT} (h:w_Cell c<big):SzC c:=by
 have h:(c.2.1.size+(wL wStr c.2.2.2.2.1+(wL w_Value c.2.2.2.2.2.1+0)))<big:=h
 have l1:=wL_len wStr c.2.2.2.2.1
 have l2:=wL_len w_Value c.2.2.2.2.2.1
 refine ⟨by omega,by omega,fun s m=>?_,by omega,fun v m=>?_⟩
 ·have:=wL_mem (w:=wStr) m;have e:wStr s=s.size:=rfl;omega
 ·have:=wL_mem (w:=w_Value) m;have e:w_Value v=v.2.2.1.size+0:=rfl;show v.2.2.1.size<big;omega
theorem smY {y:YT} (h:w_Sys y<big):SmY y:=by
 have h:(wL w_Cell y.1+(wL w_Inst y.2.1+(wL w_Unit y.2.2.1+(wL wStr y.2.2.2.1+0))))<big:=h
 have l1:=wL_len w_Cell y.1
 have l2:=wL_len w_Inst y.2.1
 have l3:=wL_len w_Unit y.2.2.1
 refine ⟨⟨by omega,fun c m=>szC_of ?_⟩,by omega,fun x m=>smI ?_,by omega,fun u m=>?_⟩
 ·have:=wL_mem (w:=w_Cell) m;omega
 ·have:=wL_mem (w:=w_Inst) m;omega
 ·have:=wL_mem (w:=w_Unit) m;have e:w_Unit u=w_Prog u.2.1+0:=rfl;omega
theorem fn_pos {h:List CT} (ho:heapOk h=true){i:Nat} (hi:i<h.length) (hk:(h.getD i ((0:Int),bE,(0:Int),(0:Int),([]:List ByteArray),([]:List VT),())).1=2):0≤(h.getD i ((0:Int),bE,(0:Int),(0:Int),([]:List ByteArray),([]:List VT),())).2.2.1∧0≤(h.getD i ((0:Int),bE,(0:Int),(0:Int),([]:List ByteArray),([]:List VT),())).2.2.2.1:=by
 unfold heapOk at ho
 rw [bA] at ho
 have h1:=List.all_eq_true.1 ho.2 i (List.mem_range.2 hi)
 simp only [cellOk,bA] at h1
 have h2:=h1.1.1
 unfold shapeC at h2
 rw [if_neg (by omega),if_pos hk] at h2
 simp only [bA,decide_eq_true_eq] at h2
 exact ⟨h2.1.1.1.2,h2.1.1.2⟩
theorem e_lambda (N:Nat) (y:YT) (a b:Int) (u:Unit) (hn:y.2.2.1.length<big) (hp:∀ u∈y.2.2.1,w_Prog u.2.1<big):i_Sys_isLambda N (y,a,b,u)=some (lamB y.2.2.1 a b,()):=by
 have hb:big=1048577:=rfl
 have hw:wI ((y.2.2.1.length:Int)-1)=(y.2.2.1.length:Int)-1:=wrap_id (by omega) (by omega)
 unfold i_Sys_isLambda lamB
 dsimp only
 rw [e_i_inRange,hw]
 dsimp only [oB]
 by_cases ha:inI a 0 ((y.2.2.1.length:Int)-1)=true
 ·have ha':=ha
  unfold inI at ha'
  rw [show (decide (a≥0) && decide (a≤(y.2.2.1.length:Int)-1))=true from ha',ha]
  simp only [bA,decide_eq_true_eq] at ha'
  have hin:inB a y.2.2.1.length:=⟨ha'.1,by omega⟩
  have hm:a.toNat<y.2.2.1.length:=by omega
  have hpl:=hp _ (mem_getD (d:=((0:Int),(([]:List NT),(0:Int),()),())) hm)
  have hpl':wL w_Node (nodesAt y.2.2.1 a)+0<big:=hpl
  have hl:=wL_len w_Node (nodesAt y.2.2.1 a)
  have hw2:wI (((nodesAt y.2.2.1 a).length:Int)-1)=((nodesAt y.2.2.1 a).length:Int)-1:=wrap_id (by omega) (by omega)
  simp only [bN,bF,if_false,Bool.true_and]
  rw [if_pos hin]
  rw [show (y.2.2.1.getD a.toNat ((0:Int),(([]:List NT),(0:Int),()),())).2.1.1=nodesAt y.2.2.1 a from rfl,e_i_inRange,hw2]
  dsimp only [oB]
  rw [show (decide (b≥0) && decide (b≤((nodesAt y.2.2.1 a).length:Int)-1))=inI b 0 (((nodesAt y.2.2.1 a).length:Int)-1) from rfl]
  by_cases hbi:inI b 0 (((nodesAt y.2.2.1 a).length:Int)-1)=true
  ·have hb':=hbi
   unfold inI at hb'
   simp only [bA,decide_eq_true_eq] at hb'
   rw [hbi,if_pos rfl,if_pos (show inB b (nodesAt y.2.2.1 a).length from ⟨hb'.1,by omega⟩)]
   rfl
  ·rw [Bool.eq_false_iff.2 hbi];rfl
 ·have ha':=Bool.eq_false_iff.2 ha
  rw [ha']
  unfold inI at ha'
  rw [show (decide (a≥0) && decide (a≤(y.2.2.1.length:Int)-1))=false from ha']
  rfl
theorem e_i_sys (N:Nat) (y:YT) (u:Unit) (h:SmY y) (hN:big≤N):i_SysOk N (y,u)=some (sysB y,()):=by
 have hb:big=1048577:=rfl
 have h1:=h.heap.1
 have h2:=h.ins
 have h3:=h.un
 unfold i_SysOk sysB
 dsimp only
 rw [e_i_inRange,e_i_HeapOk N (y.1,()) h.heap hN]
 simp only [or_someB,oB,Bool.decide_eq_true]
 have q1:decide ((y.2.2.1.length:Int)>60)=!decide ((y.2.2.1.length:Int)≤60):=by rw [← decide_not];exact decide_eq_decide.2 (by omega)
 have q2:decide ((y.2.2.2.1.length:Int)>40)=!decide ((y.2.2.2.1.length:Int)≤40):=by rw [← decide_not];exact decide_eq_decide.2 (by omega)
 rw [q1,q2,show (decide ((y.2.1.length:Int)≥1) && decide ((y.2.1.length:Int)≤12))=inI (y.2.1.length:Int) 1 12 from rfl]
 by_cases hc:(heapOk y.1 && (inI (y.2.1.length:Int) 1 12 && (decide ((y.2.2.1.length:Int)≤60) && decide ((y.2.2.2.1.length:Int)≤40))))=true
 rotate_left
 ·revert hc
  cases heapOk y.1 <;> cases inI (y.2.1.length:Int) 1 12 <;> cases decide ((y.2.2.1.length:Int)≤60) <;> cases decide ((y.2.2.2.1.length:Int)≤40) <;> simp
 ·simp only [bA] at hc
  obtain ⟨c1,c2,c3,c4⟩:=hc
  rw [c1,c2,c3,c4]
  simp only [bN,Bool.or_self,bF,if_false,Bool.true_and]
  rw [iter_all (fun i=>(y,(i:Int),())) (fun i=>instB y.1 y.2.1.length i (y.2.1.getD i (bE,(0:Int),([]:List ByteArray),([]:List VT),([]:List LT),([]:List TT),()))) (n:=y.2.1.length) (b:=(y,())) (c:=(false,())) ?hi ?hid (by omega) (x0:=(y,0,())) rfl]
  case hid=>simp
  case hi =>
   intro i hi
   dsimp only
   rw [if_pos (decide_eq_true (lt_cast hi)),e_i_inst N y i () hi (h.insS _ (mem_getD (d:=(bE,(0:Int),([]:List ByteArray),([]:List VT),([]:List LT),([]:List TT),())) hi)) h2 h1 hN,wrap_nat (by omega)]
   dsimp only [oB]
   cases instB y.1 y.2.1.length i (y.2.1.getD i (bE,(0:Int),([]:List ByteArray),([]:List VT),([]:List LT),([]:List TT),())) <;> rfl
  cases (List.range y.2.1.length).all (fun i=>instB y.1 y.2.1.length i (y.2.1.getD i (bE,(0:Int),([]:List ByteArray),([]:List VT),([]:List LT),([]:List TT),()))) with
  | false=>rfl
  | true =>
   simp only [if_true,oB,Bool.true_and]
   rw [loop_allS y y.2.2.1 ((0:Int),(([]:List NT),(0:Int),()),()) (unitB y.2.1.length) (b:=(y,())) (c:=(false,())) (by omega) ?hu ?hud (by omega)]
   case hud=>simp
   case hu =>
    intro i hi
    have hw:wI ((y.2.1.length:Int)-1)=(y.2.1.length:Int)-1:=wrap_id (by omega) (by omega)
    dsimp only
    rw [if_pos (decide_eq_true (lt_cast hi)),if_pos (inB_nat.2 hi),tN,e_i_inRange,hw,e_i_prog N _ () (h.unS _ (mem_getD (d:=((0:Int),(([]:List NT),(0:Int),()),())) hi)) hN]
    simp only [or_someB,oB,Bool.decide_eq_true]
    rw [show (decide ((y.2.2.1.getD i ((0:Int),(([]:List NT),(0:Int),()),())).1≥0) && decide ((y.2.2.1.getD i ((0:Int),(([]:List NT),(0:Int),()),())).1≤(y.2.1.length:Int)-1))=inI (y.2.2.1.getD i ((0:Int),(([]:List NT),(0:Int),()),())).1 0 ((y.2.1.length:Int)-1) from rfl]
    unfold unitB
    cases inI (y.2.2.1.getD i ((0:Int),(([]:List NT),(0:Int),()),())).1 0 ((y.2.1.length:Int)-1) <;> cases progB (y.2.2.1.getD i ((0:Int),(([]:List NT),(0:Int),()),())).2.1 <;> rfl
   cases y.2.2.1.all (unitB y.2.1.length) with
   | false=>rfl
   | true =>
    simp only [if_true,oB,Bool.true_and]
    rw [loop_allS y y.1 ((0:Int),bE,(0:Int),(0:Int),([]:List ByteArray),([]:List VT),()) (cfnB y.2.2.1) (b:=()) (c:=(false,())) (by omega) ?hf ?hfd (by omega)]
    case hfd=>simp
    case hf =>
     intro i hi
     dsimp only
     rw [if_pos (decide_eq_true (lt_cast hi)),if_pos (inB_nat.2 hi),tN,e_lambda N y _ _ () h3 h.unS]
     dsimp only [oB]
     unfold cfnB
     cases decide ((y.1.getD i ((0:Int),bE,(0:Int),(0:Int),([]:List ByteArray),([]:List VT),())).1=2) <;> cases lamB y.2.2.1 (y.1.getD i ((0:Int),bE,(0:Int),(0:Int),([]:List ByteArray),([]:List VT),())).2.2.1 (y.1.getD i ((0:Int),bE,(0:Int),(0:Int),([]:List ByteArray),([]:List VT),())).2.2.2.1 <;> rfl
    cases y.1.all (cfnB y.2.2.1) <;> rfl
theorem e_s_sys (N:Nat) (y:YT) (u:Unit) (h:SmY y) (hN:big≤N):s_SysOk N (y,u)=some (sysB y,()):=by
 have hb:big=1048577:=rfl
 have h1:=h.heap.1
 have h2:=h.ins
 have h3:=h.un
 unfold s_SysOk sysB
 dsimp only
 rw [e_s_l1In,e_s_HeapOk N (y.1,()) h.heap hN]
 simp only [or_someB,oB,Bool.decide_eq_true]
 have q1:decide ((y.2.2.1.length:Int)>60)=!decide ((y.2.2.1.length:Int)≤60):=by rw [← decide_not];exact decide_eq_decide.2 (by omega)
 have q2:decide ((y.2.2.2.1.length:Int)>40)=!decide ((y.2.2.2.1.length:Int)≤40):=by rw [← decide_not];exact decide_eq_decide.2 (by omega)
 rw [q1,q2,show (decide ((y.2.1.length:Int)≥1) && decide ((y.2.1.length:Int)≤12))=inI (y.2.1.length:Int) 1 12 from rfl]
 by_cases hc:(heapOk y.1 && (inI (y.2.1.length:Int) 1 12 && (decide ((y.2.2.1.length:Int)≤60) && decide ((y.2.2.2.1.length:Int)≤40))))=true
 rotate_left
 ·revert hc
  cases heapOk y.1 <;> cases inI (y.2.1.length:Int) 1 12 <;> cases decide ((y.2.2.1.length:Int)≤60) <;> cases decide ((y.2.2.2.1.length:Int)≤40) <;> simp
 ·simp only [bA] at hc
  obtain ⟨c1,c2,c3,c4⟩:=hc
  rw [c1,c2,c3,c4]
  simp only [bN,Bool.or_self,bF,if_false,Bool.true_and]
  rw [iter_all (fun i=>(y,(i:Int),())) (fun i=>instB y.1 y.2.1.length i (y.2.1.getD i (bE,(0:Int),([]:List ByteArray),([]:List VT),([]:List LT),([]:List TT),()))) (n:=y.2.1.length) (b:=(y,())) (c:=(false,())) ?hi ?hid (by omega) (x0:=(y,0,())) rfl]
  case hid=>simp
  case hi =>
   intro i hi
   dsimp only
   rw [if_pos (decide_eq_true (lt_cast hi)),e_s_inst N y i () hi (h.insS _ (mem_getD (d:=(bE,(0:Int),([]:List ByteArray),([]:List VT),([]:List LT),([]:List TT),())) hi)) h2 hN,wrap_nat (by omega)]
   dsimp only [oB]
   cases instB y.1 y.2.1.length i (y.2.1.getD i (bE,(0:Int),([]:List ByteArray),([]:List VT),([]:List LT),([]:List TT),())) <;> rfl
  cases (List.range y.2.1.length).all (fun i=>instB y.1 y.2.1.length i (y.2.1.getD i (bE,(0:Int),([]:List ByteArray),([]:List VT),([]:List LT),([]:List TT),()))) with
  | false=>rfl
  | true =>
   simp only [if_true,oB,Bool.true_and]
   rw [loop_allS y y.2.2.1 ((0:Int),(([]:List NT),(0:Int),()),()) (unitB y.2.1.length) (b:=(y,())) (c:=(false,())) (by omega) ?hu ?hud (by omega)]
   case hud=>simp
   case hu =>
    intro i hi
    dsimp only
    rw [if_pos (decide_eq_true (lt_cast hi)),tN,e_s_prog N _ () (h.unS _ (mem_getD (d:=((0:Int),(([]:List NT),(0:Int),()),())) hi)) hN]
    simp only [inB_nat,hi,if_true,oB]
    have r1:decide ((y.2.2.1.getD i ((0:Int),(([]:List NT),(0:Int),()),())).1<0)=!decide ((y.2.2.1.getD i ((0:Int),(([]:List NT),(0:Int),()),())).1≥0):=by rw [← decide_not];exact decide_eq_decide.2 (by omega)
    have r2:decide ((y.2.2.1.getD i ((0:Int),(([]:List NT),(0:Int),()),())).1≥(y.2.1.length:Int))=!decide ((y.2.2.1.getD i ((0:Int),(([]:List NT),(0:Int),()),())).1≤(y.2.1.length:Int)-1):=by rw [← decide_not];exact decide_eq_decide.2 (by omega)
    rw [r1,r2]
    unfold unitB inI
    cases decide ((y.2.2.1.getD i ((0:Int),(([]:List NT),(0:Int),()),())).1≥0) <;> cases decide ((y.2.2.1.getD i ((0:Int),(([]:List NT),(0:Int),()),())).1≤(y.2.1.length:Int)-1) <;> cases progB (y.2.2.1.getD i ((0:Int),(([]:List NT),(0:Int),()),())).2.1 <;> rfl
   cases y.2.2.1.all (unitB y.2.1.length) with
   | false=>rfl
   | true =>
    simp only [if_true,oB,Bool.true_and]
    rw [loop_allS y y.1 ((0:Int),bE,(0:Int),(0:Int),([]:List ByteArray),([]:List VT),()) (cfnB y.2.2.1) (b:=()) (c:=(false,())) (by omega) ?hf ?hfd (by omega)]
    case hfd=>simp
    case hf =>
     intro i hi
     dsimp only
     rw [if_pos (decide_eq_true (lt_cast hi)),if_pos (inB_nat.2 hi),tN]
     unfold cfnB
     by_cases hk:(y.1.getD i ((0:Int),bE,(0:Int),(0:Int),([]:List ByteArray),([]:List VT),())).1=2
     ·obtain ⟨pa,pb⟩:=fn_pos c1 hi hk
      rw [if_pos (decide_eq_true hk),decide_eq_true hk,bN,Bool.false_or]
      generalize (y.1.getD i ((0:Int),bE,(0:Int),(0:Int),([]:List ByteArray),([]:List VT),())).2.2.1=a at pa
      generalize (y.1.getD i ((0:Int),bE,(0:Int),(0:Int),([]:List ByteArray),([]:List VT),())).2.2.2.1=b at pb
      unfold lamB inI
      by_cases ha:a≥(y.2.2.1.length:Int)
      ·rw [if_pos (decide_eq_true ha),decide_eq_false (show ¬ a≤(y.2.2.1.length:Int)-1 by omega)]
       simp
      ·rw [if_neg (fun hc=>ha (of_decide_eq_true hc)),if_pos (show inB a y.2.2.1.length from ⟨pa,by omega⟩)]
       rw [show (y.2.2.1.getD a.toNat ((0:Int),(([]:List NT),(0:Int),()),())).2.1.1=nodesAt y.2.2.1 a from rfl]
       have e1:decide (a≥0)=true:=decide_eq_true pa
       have e2:decide (a≤(y.2.2.1.length:Int)-1)=true:=decide_eq_true (by omega)
       have e3:decide (b≥0)=true:=decide_eq_true pb
       rw [e1,e2,e3]
       by_cases hbb:b≥((nodesAt y.2.2.1 a).length:Int)
       ·rw [if_pos (decide_eq_true hbb),decide_eq_false (show ¬ b≤((nodesAt y.2.2.1 a).length:Int)-1 by omega)]
        simp
       ·rw [if_neg (fun hc=>hbb (of_decide_eq_true hc)),if_pos (show inB a y.2.2.1.length from ⟨pa,by omega⟩),if_pos (show inB b (nodesAt y.2.2.1 a).length from ⟨pb,by omega⟩),decide_eq_true (show b≤((nodesAt y.2.2.1 a).length:Int)-1 by omega)]
        cases decide (((nodesAt y.2.2.1 a).getD b.toNat ((0:Int),(0:Int),bE,([]:List ByteArray),([]:List Int),())).1=7) <;> rfl
     ·rw [if_neg (fun hc=>hk (of_decide_eq_true hc)),decide_eq_false hk]
      rfl
    cases y.1.all (cfnB y.2.2.1) <;> rfl
end Go.Rf
namespace Go.Rf
def envB (h:List CT) (e:List BT):Bool:=e.all fun b=>isName b.1 && valueOk h b.2.1
def isNdB (us:List UT) (a b:Int):Bool:=inI a 0 ((us.length:Int)-1) && inI b 0 (((nodesAt us a).length:Int)-1)
def kindB (n:NT) (k:Nat):Bool :=
 if (decide (n.1=6) || decide (n.1=10))=true then decide ((k:Int)=0)
 else if (decide (n.1=8) || (decide (n.1=9) || decide (n.1=11)))=true then decide ((k:Int)<(n.2.2.2.2.1.length:Int)) else false
def frameB (y:YT) (f:FT):Bool:=isNdB y.2.2.1 f.1 f.2.1 && (f.2.2.1.all (valueOk y.1) && (envB y.1 f.2.2.2.1 && kindB ((nodesAt y.2.2.1 f.1).getD f.2.1.toNat ((0:Int),(0:Int),bE,([]:List ByteArray),([]:List Int),())) f.2.2.1.length))
def lastB (h:List CT) (m:MT):Bool:=if m.1=1 then zerV m.2.2.2.2.1 else if m.1=2 then valueOk h m.2.2.2.2.1 else zerV m.2.2.2.2.1 || valueOk h m.2.2.2.2.1
def machB (y:YT) (m:MT):Bool:=inI m.1 1 3 && (inI m.2.2.2.2.2.2.1 0 7 && (isNdB y.2.2.1 m.2.1 m.2.2.1 && (decide ((m.2.2.2.2.2.1.length:Int)≤120) && (envB y.1 m.2.2.2.1 && (m.2.2.2.2.2.1.all (frameB y) && lastB y.1 m)))))
structure SmE (e:List BT):Prop where
 len:e.length<big
 all:∀ b∈e,b.1.size<big∧SzV b.2.1
structure SmF (f:FT):Prop where
 vl:f.2.2.1.length<big
 vlS:∀ v∈f.2.2.1,SzV v
 env:SmE f.2.2.2.1
structure SmM (m:MT):Prop where
 env:SmE m.2.2.2.1
 val:SzV m.2.2.2.2.1
 st:m.2.2.2.2.2.1.length<big
 stS:∀ f∈m.2.2.2.2.2.1,SmF f
theorem smE {e:List BT} (h:wL w_Bind e<big):SmE e:=by
 have l1:=wL_len w_Bind e
 refine ⟨by omega,fun b m=>?_⟩
 have:=wL_mem (w:=w_Bind) m
 have e:w_Bind b=b.1.size+((b.2.1.2.2.1.size+0)+0):=rfl
 exact ⟨by omega,show b.2.1.2.2.1.size<big by omega⟩
theorem smF {f:FT} (h:w_Frame f<big):SmF f:=by
 have h:(wL w_Value f.2.2.1+(wL w_Bind f.2.2.2.1+0))<big:=h
 have l1:=wL_len w_Value f.2.2.1
 refine ⟨by omega,fun v m=>?_,smE (by omega)⟩
 have:=wL_mem (w:=w_Value) m
 have e:w_Value v=v.2.2.1.size+0:=rfl
 show v.2.2.1.size<big;omega
theorem smM {m:MT} (h:w_Machine m<big):SmM m:=by
 have h:(wL w_Bind m.2.2.2.1+((m.2.2.2.2.1.2.2.1.size+0)+(wL w_Frame m.2.2.2.2.2.1+0)))<big:=h
 have l1:=wL_len w_Frame m.2.2.2.2.2.1
 refine ⟨smE (by omega),show m.2.2.2.2.1.2.2.1.size<big by omega,by omega,fun f hf=>smF ?_⟩
 have:=wL_mem (w:=w_Frame) hf
 omega
theorem e_i_env (N:Nat) (y:YT) (e:List BT) (u:Unit) (h:SmE e) (hh:y.1.length<big) (hN:big≤N):i_Sys_envOk N (y,e,u)=some (envB y.1 e,()):=by
 have hb:big=1048577:=rfl
 have h1:=h.len
 unfold i_Sys_envOk envB
 dsimp only
 rw [loop_all e (bE,((0:Int),(0:Int),bE,()),()) (fun b=>isName b.1 && valueOk y.1 b.2.1) (b:=()) (c:=(false,())) (by omega) ?h ?hd (by omega)]
 case hd=>simp
 case h =>
  intro i hi
  have hm:=h.all _ (mem_getD (d:=(bE,((0:Int),(0:Int),bE,()),())) hi)
  dsimp only
  rw [if_pos (decide_eq_true (lt_cast hi)),if_pos (inB_nat.2 hi),tN,e_i_IsName N ((e.getD i (bE,((0:Int),(0:Int),bE,()),())).1,()) (show (e.getD i (bE,((0:Int),(0:Int),bE,()),())).1.size<_ by omega) (show (e.getD i (bE,((0:Int),(0:Int),bE,()),())).1.size<N by omega),e_i_ValueOk N (y.1,(e.getD i (bE,((0:Int),(0:Int),bE,()),())).2.1,()) hm.2 hh hN]
  dsimp only [oB]
  cases isName (e.getD i (bE,((0:Int),(0:Int),bE,()),())).1 <;> cases valueOk y.1 (e.getD i (bE,((0:Int),(0:Int),bE,()),())).2.1 <;> rfl
 cases e.all (fun b=>isName b.1 && valueOk y.1 b.2.1) <;> rfl
theorem e_s_env (N:Nat) (y:YT) (e:List BT) (u:Unit) (h:SmE e) (hN:big≤N):s_l9Env N (y,e,u)=some (envB y.1 e,()):=by
 have hb:big=1048577:=rfl
 have h1:=h.len
 unfold s_l9Env envB
 dsimp only
 rw [loop_allS y e (bE,((0:Int),(0:Int),bE,()),()) (fun b=>isName b.1 && valueOk y.1 b.2.1) (b:=()) (c:=(false,())) (by omega) ?h ?hd (by omega)]
 case hd=>simp
 case h =>
  intro i hi
  have hm:=h.all _ (mem_getD (d:=(bE,((0:Int),(0:Int),bE,()),())) hi)
  dsimp only
  rw [if_pos (decide_eq_true (lt_cast hi)),if_pos (inB_nat.2 hi),tN,e_s_IsName N ((e.getD i (bE,((0:Int),(0:Int),bE,()),())).1,()) (show (e.getD i (bE,((0:Int),(0:Int),bE,()),())).1.size<_ by omega) (show (e.getD i (bE,((0:Int),(0:Int),bE,()),())).1.size<N by omega) (by omega),e_s_ValueOk N (y.1,(e.getD i (bE,((0:Int),(0:Int),bE,()),())).2.1,()) hm.2 hN]
  simp only [inB_nat,hi,if_true,oB]
  cases isName (e.getD i (bE,((0:Int),(0:Int),bE,()),())).1 <;> cases valueOk y.1 (e.getD i (bE,((0:Int),(0:Int),bE,()),())).2.1 <;> rfl
 cases e.all (fun b=>isName b.1 && valueOk y.1 b.2.1) <;> rfl
theorem nodes_small {us:List UT} (hp:∀ u∈us,w_Prog u.2.1<big){a:Int} (ha:inI a 0 ((us.length:Int)-1)=true):(nodesAt us a).length<big∧inB a us.length:=by
 unfold inI at ha
 simp only [bA,decide_eq_true_eq] at ha
 have hm:a.toNat<us.length:=by omega
 have hpl:=hp _ (mem_getD (d:=((0:Int),(([]:List NT),(0:Int),()),())) hm)
 have hpl':wL w_Node (nodesAt us a)+0<big:=hpl
 have hl:=wL_len w_Node (nodesAt us a)
 exact ⟨by omega,ha.1,by omega⟩
theorem e_isNode (N:Nat) (y:YT) (a b:Int) (u:Unit) (hn:y.2.2.1.length<big) (hp:∀ u∈y.2.2.1,w_Prog u.2.1<big):i_Sys_isNode N (y,a,b,u)=some (isNdB y.2.2.1 a b,()):=by
 have hb:big=1048577:=rfl
 have hw:wI ((y.2.2.1.length:Int)-1)=(y.2.2.1.length:Int)-1:=wrap_id (by omega) (by omega)
 unfold i_Sys_isNode isNdB
 dsimp only
 rw [e_i_inRange,hw]
 dsimp only [oB]
 rw [show (decide (a≥0) && decide (a≤(y.2.2.1.length:Int)-1))=inI a 0 ((y.2.2.1.length:Int)-1) from rfl]
 cases ha:inI a 0 ((y.2.2.1.length:Int)-1) with
 | false=>rfl
 | true =>
  obtain ⟨h1,h2⟩:=nodes_small hp ha
  have hw2:wI (((nodesAt y.2.2.1 a).length:Int)-1)=((nodesAt y.2.2.1 a).length:Int)-1:=wrap_id (by omega) (by omega)
  rw [if_pos rfl,if_pos h2,show (y.2.2.1.getD a.toNat ((0:Int),(([]:List NT),(0:Int),()),())).2.1.1=nodesAt y.2.2.1 a from rfl,e_i_inRange,hw2]
  rfl
theorem e_s_at (N:Nat) (y:YT) (a b:Int) (u:Unit):s_l9At N (y,a,b,u)=some (isNdB y.2.2.1 a b,()):=by
 unfold s_l9At isNdB inI
 dsimp only
 by_cases ha:0≤a
 ·by_cases ha2:a<(y.2.2.1.length:Int)
  ·have e1:decide (a≥0)=true:=decide_eq_true ha
   have e2:decide (a<(y.2.2.1.length:Int))=true:=decide_eq_true ha2
   have e3:decide (a≤(y.2.2.1.length:Int)-1)=true:=decide_eq_true (by omega)
   rw [e1,e2,e3]
   simp only [if_true,oB,Bool.and_self,Bool.true_and]
   rw [if_pos (show inB a y.2.2.1.length from ⟨ha,ha2⟩),show (y.2.2.1.getD a.toNat ((0:Int),(([]:List NT),(0:Int),()),())).2.1.1=nodesAt y.2.2.1 a from rfl]
   have e4:decide (b<((nodesAt y.2.2.1 a).length:Int))=decide (b≤((nodesAt y.2.2.1 a).length:Int)-1):=decide_eq_decide.2 (by omega)
   rw [e4]
   cases decide (b≥0) <;> rfl
  ·have e1:decide (a≥0)=true:=decide_eq_true ha
   have e2:decide (a<(y.2.2.1.length:Int))=false:=decide_eq_false ha2
   have e3:decide (a≤(y.2.2.1.length:Int)-1)=false:=decide_eq_false (by omega)
   rw [e1,e2,e3];rfl
 ·have e1:decide (a≥0)=false:=decide_eq_false ha
  rw [e1];rfl
theorem isNd_in {us:List UT}{a b:Int} (h:isNdB us a b=true):inB a us.length∧inB b (nodesAt us a).length:=by
 unfold isNdB inI at h
 simp only [bA,decide_eq_true_eq] at h
 exact ⟨⟨h.1.1,by omega⟩,⟨h.2.1,by omega⟩⟩
theorem e_i_frame (N:Nat) (y:YT) (f:FT) (u:Unit) (h:SmF f) (hy:SmY y) (hN:big≤N):i_Sys_frameOk N (y,f,u)=some (frameB y f,()):=by
 have hb:big=1048577:=rfl
 unfold i_Sys_frameOk frameB
 dsimp only
 rw [e_isNode N y _ _ () hy.un hy.unS,e_i_valuesOk N (y.1,f.2.2.1,()) hy.heap.1 h.vl h.vlS hN,e_i_env N y _ () h.env hy.heap.1 hN]
 dsimp only [oB]
 cases hnd:isNdB y.2.2.1 f.1 f.2.1 with
 | false=>rfl
 | true =>
  obtain ⟨h1,h2⟩:=isNd_in hnd
  cases f.2.2.1.all (valueOk y.1) with
  | false=>rfl
  | true =>
   cases envB y.1 f.2.2.2.1 with
   | false=>rfl
   | true =>
    simp only [bN,bF,if_false,Bool.true_and]
    rw [if_pos h1,show (y.2.2.1.getD f.1.toNat ((0:Int),(([]:List NT),(0:Int),()),())).2.1.1=nodesAt y.2.2.1 f.1 from rfl,if_pos h2]
    generalize (nodesAt y.2.2.1 f.1).getD f.2.1.toNat ((0:Int),(0:Int),bE,([]:List ByteArray),([]:List Int),())=n
    unfold kindB
    by_cases k6:n.1=6
    ·simp [k6]
    ·by_cases k10:n.1=10
     ·simp [k10]
     ·by_cases k8:n.1=8
      ·simp [k8]
      ·by_cases k9:n.1=9
       ·simp [k9]
       ·by_cases k11:n.1=11
        ·simp [k11]
        ·simp [k6,k10,k8,k9,k11]
theorem e_s_frame (N:Nat) (y:YT) (f:FT) (u:Unit) (h:SmF f) (hN:big≤N):s_l9Frame N (y,f,u)=some (frameB y f,()):=by
 have hb:big=1048577:=rfl
 have hvl:=h.vl
 unfold s_l9Frame frameB
 dsimp only
 rw [e_s_at,e_s_env N y _ () h.env hN]
 simp only [or_someB,oB]
 cases hnd:isNdB y.2.2.1 f.1 f.2.1 with
 | false=>rfl
 | true =>
  obtain ⟨h1,h2⟩:=isNd_in hnd
  cases envB y.1 f.2.2.2.1 with
  | false=>cases f.2.2.1.all (valueOk y.1) <;> rfl
  | true =>
   simp only [bN,Bool.or_self,bF,if_false,Bool.true_and]
   rw [loop_all f.2.2.1 ((0:Int),(0:Int),bE,()) (valueOk y.1) (b:=()) (c:=(false,())) (by omega) ?h ?hd (by omega)]
   case hd=>simp
   case h =>
    intro i hi
    dsimp only
    rw [if_pos (decide_eq_true (lt_cast hi)),if_pos (inB_nat.2 hi),tN,e_s_ValueOk N (y.1,f.2.2.1.getD i ((0:Int),(0:Int),bE,()),()) (h.vlS _ (mem_getD (d:=((0:Int),(0:Int),bE,())) hi)) hN]
    dsimp only [oB]
    cases valueOk y.1 (f.2.2.1.getD i ((0:Int),(0:Int),bE,())) <;> rfl
   cases f.2.2.1.all (valueOk y.1) with
   | false=>rfl
   | true =>
    simp only [if_true,oB,Bool.true_and]
    rw [if_pos h1,show (y.2.2.1.getD f.1.toNat ((0:Int),(([]:List NT),(0:Int),()),())).2.1.1=nodesAt y.2.2.1 f.1 from rfl,if_pos h2]
    generalize (nodesAt y.2.2.1 f.1).getD f.2.1.toNat ((0:Int),(0:Int),bE,([]:List ByteArray),([]:List Int),())=n
    unfold kindB
    by_cases k6:n.1=6
    ·simp [k6]
    ·by_cases k10:n.1=10
     ·simp [k10]
     ·by_cases k8:n.1=8
      ·simp [k8]
      ·by_cases k9:n.1=9
       ·simp [k9]
       ·by_cases k11:n.1=11
        ·simp [k11]
        ·simp [k6,k10,k8,k9,k11]
theorem e_i_mach (N:Nat) (y:YT) (m:MT) (u:Unit) (h:SmM m) (hy:SmY y) (hN:big≤N):i_Sys_machineOk N (y,m,u)=some (machB y m,()):=by
 have hb:big=1048577:=rfl
 have hst:=h.st
 unfold i_Sys_machineOk machB
 dsimp only
 rw [e_i_inRange,e_i_inRange,e_isNode N y _ _ () hy.un hy.unS,e_i_env N y _ () h.env hy.heap.1 hN]
 simp only [or_someB,oB,Bool.decide_eq_true]
 rw [show (decide (m.1≥1) && decide (m.1≤3))=inI m.1 1 3 from rfl,show (decide (m.2.2.2.2.2.2.1≥0) && decide (m.2.2.2.2.2.2.1≤7))=inI m.2.2.2.2.2.2.1 0 7 from rfl]
 have q1:decide ((m.2.2.2.2.2.1.length:Int)>120)=!decide ((m.2.2.2.2.2.1.length:Int)≤120):=by rw [← decide_not];exact decide_eq_decide.2 (by omega)
 rw [q1]
 cases inI m.1 1 3 with
 | false=>rfl
 | true =>
 cases inI m.2.2.2.2.2.2.1 0 7 with
 | false=>rfl
 | true =>
 cases isNdB y.2.2.1 m.2.1 m.2.2.1 with
 | false=>rfl
 | true =>
 cases decide ((m.2.2.2.2.2.1.length:Int)≤120) with
 | false=>rfl
 | true =>
 cases envB y.1 m.2.2.2.1 with
 | false=>rfl
 | true =>
  simp only [bN,Bool.or_self,bF,if_false,Bool.true_and]
  rw [loop_all m.2.2.2.2.2.1 ((0:Int),(0:Int),([]:List VT),([]:List BT),()) (frameB y) (b:=()) (c:=(false,())) (by omega) ?h ?hd (by omega)]
  case hd=>simp
  case h =>
   intro i hi
   dsimp only
   rw [if_pos (decide_eq_true (lt_cast hi)),if_pos (inB_nat.2 hi),tN,e_i_frame N y _ () (h.stS _ (mem_getD (d:=((0:Int),(0:Int),([]:List VT),([]:List BT),())) hi)) hy hN]
   dsimp only [oB]
   cases frameB y (m.2.2.2.2.2.1.getD i ((0:Int),(0:Int),([]:List VT),([]:List BT),())) <;> rfl
  cases m.2.2.2.2.2.1.all (frameB y) with
  | false=>rfl
  | true =>
   simp only [if_true,oB,Bool.true_and]
   rw [e_i_ValueOk N (y.1,m.2.2.2.2.1,()) h.val hy.heap.1 hN]
   rw [show (decide (m.2.2.2.2.1.1=0) && (decide (m.2.2.2.2.1.2.1=0) && (decide (m.2.2.2.2.1.2.2.1=bE) && true)))=zerV m.2.2.2.2.1 from rfl]
   unfold lastB
   by_cases k1:m.1=1
   ·simp [k1]
   ·by_cases k2:m.1=2
    ·simp [k2]
    ·simp only [k1,k2,decide_false,bF,if_false,oB]
     cases zerV m.2.2.2.2.1 <;> rfl
theorem e_s_mach (N:Nat) (y:YT) (m:MT) (u:Unit) (h:SmM m) (hy:SmY y) (hN:big≤N):s_MachineOk N (y,m,u)=some (sysB y && machB y m,()):=by
 have hb:big=1048577:=rfl
 have hst:=h.st
 unfold s_MachineOk machB
 dsimp only
 rw [e_s_sys N y () hy hN,e_s_l1In,e_s_at,e_s_env N y _ () h.env hN]
 simp only [or_someB,oB,Bool.decide_eq_true]
 rw [show (decide (m.2.2.2.2.2.2.1≥0) && decide (m.2.2.2.2.2.2.1≤7))=inI m.2.2.2.2.2.2.1 0 7 from rfl]
 have q1:decide ((m.2.2.2.2.2.1.length:Int)>120)=!decide ((m.2.2.2.2.2.1.length:Int)≤120):=by rw [← decide_not];exact decide_eq_decide.2 (by omega)
 rw [q1]
 have side:∀ b:Bool,(b && false)=false:=by intro b;cases b <;> rfl
 cases sysB y with
 | false=>rfl
 | true =>
 cases inI m.2.2.2.2.2.2.1 0 7 with
 | false=>cases inI m.1 1 3 <;> rfl
 | true =>
 cases isNdB y.2.2.1 m.2.1 m.2.2.1 with
 | false=>cases inI m.1 1 3 <;> rfl
 | true =>
 cases decide ((m.2.2.2.2.2.1.length:Int)≤120) with
 | false=>cases inI m.1 1 3 <;> rfl
 | true =>
 cases envB y.1 m.2.2.2.1 with
 | false=>cases inI m.1 1 3 <;> rfl
 | true =>
  simp only [bN,Bool.or_self,bF,if_false,Bool.true_and]
  rw [iter_all (fun i=>(y,m,(i:Int),())) (fun i=>frameB y (m.2.2.2.2.2.1.getD i ((0:Int),(0:Int),([]:List VT),([]:List BT),()))) (n:=m.2.2.2.2.2.1.length) (b:=(y,m,())) (c:=(false,())) ?h ?hd (by omega) (x0:=(y,m,0,())) rfl]
  case hd=>simp
  case h =>
   intro i hi
   dsimp only
   rw [if_pos (decide_eq_true (lt_cast hi)),if_pos (inB_nat.2 hi),tN,e_s_frame N y _ () (h.stS _ (mem_getD (d:=((0:Int),(0:Int),([]:List VT),([]:List BT),())) hi)) hN,wrap_nat (by omega)]
   dsimp only [oB]
   cases frameB y (m.2.2.2.2.2.1.getD i ((0:Int),(0:Int),([]:List VT),([]:List BT),())) <;> rfl
  rw [range_all_getD m.2.2.2.2.2.1 ((0:Int),(0:Int),([]:List VT),([]:List BT),()) (frameB y)]
  cases m.2.2.2.2.2.1.all (frameB y) with
  | false=>cases inI m.1 1 3 <;> rfl
  | true =>
   simp only [if_true,oB,Bool.true_and]
   rw [e_s_ValueOk N (y.1,m.2.2.2.2.1,()) h.val hN]
   rw [show (decide (m.2.2.2.2.1.1=0) && (decide (m.2.2.2.2.1.2.1=0) && (decide (m.2.2.2.2.1.2.2.1=bE) && true)))=zerV m.2.2.2.2.1 from rfl]
   unfold lastB inI
   by_cases k1:m.1=1
   ·simp [k1]
   ·by_cases k2:m.1=2
    ·simp [k2]
    ·by_cases k3:m.1=3
     ·simp [k3]
      cases zerV m.2.2.2.2.1 <;> rfl
     ·have e:(decide (m.1≥1) && decide (m.1≤3))=false:=by
       rw [Bool.and_eq_false_iff]
       by_cases hge:m.1≥1
       ·exact .inr (decide_eq_false (by omega))
       ·exact .inl (decide_eq_false hge)
      rw [e]
      simp [k1,k2,k3]
end Go.Rf
namespace Go.Rf
def inAt (x:IT) (s:ByteArray):Bool:=decide (0≤idxS x.2.2.1 s) && !zerV (x.2.2.2.1.getD (idxS x.2.2.1 s).toNat ((0:Int),(0:Int),bE,()))
def entB (ins:List IT) (e:ET):Bool:=srcB e.1 && (inI e.2.1 1 1000 && (inI e.2.2.1 0 ((ins.length:Int)-1) &&
 (decide ((ins.getD e.2.2.1.toNat (bE,(0:Int),([]:List ByteArray),([]:List VT),([]:List LT),([]:List TT),())).1=e.1.1) && (decide ((ins.getD e.2.2.1.toNat (bE,(0:Int),([]:List ByteArray),([]:List VT),([]:List LT),([]:List TT),())).2.1=e.2.1) && e.1.2.2.1.all (inAt (ins.getD e.2.2.1.toNat (bE,(0:Int),([]:List ByteArray),([]:List VT),([]:List LT),([]:List TT),())))))))
def entAt (ins:List IT) (es:List ET) (i:Nat):Bool:=entB ins (es.getD i ((bE,([]:List ByteArray),([]:List ByteArray),([]:List TT),([]:List DT),([]:List DT),()),(0:Int),(0:Int),())) && (decide (i=0) || ltS (es.getD (i-1) ((bE,([]:List ByteArray),([]:List ByteArray),([]:List TT),([]:List DT),([]:List DT),()),(0:Int),(0:Int),())).1.1 (es.getD i ((bE,([]:List ByteArray),([]:List ByteArray),([]:List TT),([]:List DT),([]:List DT),()),(0:Int),(0:Int),())).1.1)
def tskAt (y:YT) (nx:Int) (ts:List KT) (i:Nat):Bool:=inI (ts.getD i ((0:Int),((0:Int),(0:Int),(0:Int),([]:List BT),((0:Int),(0:Int),bE,()),([]:List FT),(0:Int),()),())).1 1 (nx-1) && ((decide (i=0) || decide ((ts.getD (i-1) ((0:Int),((0:Int),(0:Int),(0:Int),([]:List BT),((0:Int),(0:Int),bE,()),([]:List FT),(0:Int),()),())).1<(ts.getD i ((0:Int),((0:Int),(0:Int),(0:Int),([]:List BT),((0:Int),(0:Int),bE,()),([]:List FT),(0:Int),()),())).1)) && machB y (ts.getD i ((0:Int),((0:Int),(0:Int),(0:Int),([]:List BT),((0:Int),(0:Int),bE,()),([]:List FT),(0:Int),()),())).2.1)
def srcsW (w:WT):List ST:=w.2.1.map (·.1)
def worldB (w:WT):Bool:=sysB w.1 && (decide ((w.2.1.length:Int)≤6) && (decide ((w.2.2.1.length:Int)≤6) && (inI w.2.2.2.1 1 100000 &&
 ((List.range w.2.1.length).all (entAt w.1.2.1 w.2.1) && ((List.range w.2.2.1.length).all (tskAt w.1 w.2.2.2.1 w.2.2.1) && (ordR (srcsW w)).2.1)))))
structure SmW (w:WT):Prop where
 sys:SmY w.1
 en:w.2.1.length<big
 enS:∀ e∈w.2.1,SmS e.1
 tk:w.2.2.1.length<big
 tkS:∀ t∈w.2.2.1,SmM t.2.1
theorem smW {w:WT} (h:w_World w<big):SmW w:=by
 have h:(w_Sys w.1+(wL w_Ent w.2.1+(wL w_Task w.2.2.1+0)))<big:=h
 have l1:=wL_len w_Ent w.2.1
 have l2:=wL_len w_Task w.2.2.1
 refine ⟨smY (by omega),by omega,fun e m=>smS ?_,by omega,fun t m=>smM ?_⟩
 ·have:=wL_mem (w:=w_Ent) m;have e:w_Ent e=w_Src e.1+0:=rfl;omega
 ·have:=wL_mem (w:=w_Task) m;have e:w_Task t=w_Machine t.2.1+0:=rfl;omega
theorem SmW.src {w:WT} (h:SmW w):SmL (srcsW w):=by
 refine ⟨by simp only [srcsW,List.length_map];exact h.en,fun s hs=>?_⟩
 obtain ⟨e,he,rfl⟩:=List.mem_map.1 hs
 exact h.enS e he
theorem idxS_lt {l:List ByteArray}{s:ByteArray} (h:0≤idxS l s):inB (idxS l s) l.length:=by
 unfold idxS at h ⊢
 cases e:l.findIdx? (fun a=>decide (a=s)) with
 | none=>rw [e] at h;simp at h
 | some i =>
  rw [List.findIdx?_eq_some_iff_getElem] at e
  obtain ⟨hi,_⟩:=e
  simp only [inB_nat];exact hi
theorem loop_findS {X α B C:Type}{f:X×Int×Unit→Option (Step (X×Int×Unit) B (Int×Unit))}{K:B ⊕ (Int×Unit)→Option C} (x:X) (l:List α) (d:α) (p:α→Bool){N:Nat}{b:B}
  (h:∀ i,i<l.length→f (x,(i:Int),())=some (if p (l.getD i d)=true then .ret ((i:Int),()) else .more (x,((i+1:Nat):Int),())))
  (hd:f (x,(l.length:Int),())=some (.done b)) (hN:l.length<N):(iter f N (x,0,())).bind K=match l.findIdx? p with
   | some i=>K (.inr ((i:Int),()))
   | none=>K (.inl b):=by
 cases e:l.findIdx? p with
 | none =>
  rw [List.findIdx?_eq_none_iff] at e
  rw [iter_done (fun i=>(x,(i:Int),())) (x0:=(x,0,())) (b:=b) (k:=0) (n:=l.length) (fun i _ hi=>?_) (Nat.zero_le _) hd (by omega) rfl]
  ·rfl
  ·rw [h i hi,if_neg (by rw [e _ (mem_getD hi)];simp)]
 | some i =>
  rw [List.findIdx?_eq_some_iff_getElem] at e
  obtain ⟨hi,h1,h2⟩:=e
  rw [iter_ret (fun i=>(x,(i:Int),())) (x0:=(x,0,())) (c:=((i:Int),())) (k:=0) (n:=i) (fun j _ hj=>?_) (Nat.zero_le _) ?_ (by omega) rfl]
  ·rfl
  ·rw [h i hi,if_pos ?_]
   rw [getD_lt hi];exact h1
  ·rw [h j (by omega),if_neg ?_]
   rw [getD_lt (by omega)];exact h2 j hj
theorem e_s_l8Name (N:Nat) (x:IT) (s:ByteArray) (u:Unit) (hl:x.2.2.1.length<big) (hN:big≤N):s_l8Name N (x,s,u)=some (idxS x.2.2.1 s,()):=by
 have hb:big=1048577:=rfl
 unfold s_l8Name idxS
 dsimp only
 rw [loop_findS x x.2.2.1 bE (fun a=>decide (a=s)) (b:=()) ?h ?hd (by omega)]
 case hd=>simp
 case h =>
  intro i hi
  dsimp only
  rw [if_pos (decide_eq_true (lt_cast hi)),if_pos (inB_nat.2 hi),tN,wrap_nat (by omega)]
  split <;> rfl
 cases x.2.2.1.findIdx? (fun a=>decide (a=s)) <;> rfl
theorem e_s_srcs (N:Nat) (w:WT) (u:Unit) (h:SmW w) (hN:big≤N):s_l13Srcs N (w,u)=some (srcsW w,()):=by
 have hb:big=1048577:=rfl
 have h1:=h.en
 unfold s_l13Srcs
 dsimp only
 rw [(loop_foldl (fun (s:List ST) (i:Nat)=>(w,s,(i:Int),())) (fun i s=>s.length=i) (fun s e=>s++[e.1]) (fun s=>(s,())) w.2.1 ((bE,([]:List ByteArray),([]:List ByteArray),([]:List TT),([]:List DT),([]:List DT),()),(0:Int),(0:Int),()) ?h ?hd [] (w,[],0,()) rfl rfl (by omega)).1]
 case hd=>intro s _;simp
 case h =>
  intro i s hi hs
  have hs:s.length=i:=hs
  dsimp only
  rw [if_pos (decide_eq_true (lt_cast hi)),if_pos (inB_nat.2 hi),tN,if_pos (by simp;omega),wrap_nat (by omega)]
  exact ⟨rfl,by simp;omega⟩
 have e:∀ (l:List ET) (s:List ST),l.foldl (fun s e=>s++[e.1]) s=s++l.map (·.1):=by
  intro l
  induction l with
  | nil=>intro s;simp
  | cons a l ih=>intro s;simp [ih]
 rw [e,List.nil_append]
 rfl
theorem loop_names2 {α β C D:Type}{f:List β×Int×Unit→Option (Step (List β×Int×Unit) (List β×Unit) C)}{K:(List β×Unit) ⊕ C→Option D} (l:List α) (d:α) (nm:α→β){N:Nat}
  (h:∀ i s,i<l.length→s.length=i→f (s,(i:Int),())=some (.more (s++[nm (l.getD i d)],((i+1:Nat):Int),()))) (hd:∀ s,f (s,(l.length:Int),())=some (.done (s,()))) (hN:l.length<N) :
  (iter f N ([],0,())).bind K=K (.inl (l.map nm,())):=by
 rw [iter_done (fun i=>((l.take i).map nm,(i:Int),())) (x0:=([],0,())) (b:=(l.map nm,())) (k:=0) (n:=l.length) (fun i _ hi=>?_) (Nat.zero_le _) ?_ (by omega) rfl]
 ·rfl
 ·rw [hd,List.take_length]
 ·rw [h i _ hi (by simp;omega)]
  have e:(l.take (i+1)).map nm=(l.take i).map nm++[nm (l.getD i d)]:=by
   have e2:l.take (i+1)=l.take i++[l[i]]:=by rw [List.take_add_one,List.getElem?_eq_getElem hi];rfl
   rw [e2,getD_lt hi,List.map_append];rfl
  rw [e]
theorem e_i_srcs (N:Nat) (w:WT) (u:Unit) (h:SmW w) (hN:big≤N):i_srcsOf N (w.2.1,u)=some (srcsW w,()):=by
 have hb:big=1048577:=rfl
 have h1:=h.en
 unfold i_srcsOf
 dsimp only
 rw [loop_names2 w.2.1 ((bE,([]:List ByteArray),([]:List ByteArray),([]:List TT),([]:List DT),([]:List DT),()),(0:Int),(0:Int),()) (·.1) ?h ?hd (by omega)]
 case hd=>intro s;simp
 case h =>
  intro i s hi hs
  dsimp only
  rw [if_pos (decide_eq_true (lt_cast hi)),if_pos (inB_nat.2 hi),tN,if_pos (by simp;omega),wrap_nat (by omega)]
 rfl
end Go.Rf
namespace Go.Rf
theorem inst_vals {y:YT} (h:sysB y=true){i:Nat} (hi:i<y.2.1.length):(y.2.1.getD i (bE,(0:Int),([]:List ByteArray),([]:List VT),([]:List LT),([]:List TT),())).2.2.2.1.length=(y.2.1.getD i (bE,(0:Int),([]:List ByteArray),([]:List VT),([]:List LT),([]:List TT),())).2.2.1.length:=by
 unfold sysB at h
 simp only [bA] at h
 have h1:=List.all_eq_true.1 h.2.2.2.2.1 i (List.mem_range.2 hi)
 unfold instB at h1
 simp only [bA,decide_eq_true_eq] at h1
 omega
theorem inI_in {a:Int}{n:Nat} (h:inI a 0 ((n:Int)-1)=true):inB a n:=by
 unfold inI at h
 simp only [bA,decide_eq_true_eq] at h
 exact ⟨h.1,by omega⟩
theorem inI_lo {a b:Int} (h:a<0):inI a 0 b=false:=by
 unfold inI;rw [decide_eq_false (show ¬ a≥0 by omega)];rfl
theorem inI_hi {a:Int}{n:Nat} (h:a≥(n:Int)):inI a 0 ((n:Int)-1)=false:=by
 unfold inI;rw [decide_eq_false (show ¬ a≤(n:Int)-1 by omega),Bool.and_false]
theorem inI_ok {a:Int}{n:Nat} (h:inB a n):inI a 0 ((n:Int)-1)=true:=by
 obtain ⟨h1,h2⟩:=h
 unfold inI;rw [decide_eq_true (show a≥0 from h1),decide_eq_true (show a≤(n:Int)-1 by omega)];rfl
theorem lt_flip {a b:ByteArray}:(ltS b a || decide (b=a))=!ltS a b:=by
 by_cases h:ltS a b=true
 ·have h1:=ltS_iff.1 h
  have e1:ltS b a=false:=Bool.eq_false_iff.2 (fun hc=>List.lt_irrefl _ (List.lt_trans h1 (ltS_iff.1 hc)))
  have e2:decide (b=a)=false:=decide_eq_false (fun hc=>by subst hc;exact List.lt_irrefl _ h1)
  rw [h,e1,e2];rfl
 ·have h1:¬ bS a<bS b:=fun hc=>h (ltS_iff.2 hc)
  rw [Bool.eq_false_iff.2 h]
  by_cases h2:ltS b a=true
  ·rw [h2];rfl
  ·have h3:¬ bS b<bS a:=fun hc=>h2 (ltS_iff.2 hc)
   rw [Bool.eq_false_iff.2 h2,decide_eq_true (bS_inj (List.le_antisymm (List.not_lt.1 h1) (List.not_lt.1 h3)))];rfl
theorem e_i_ent (N:Nat) (w:WT) (e:ET) (u:Unit) (h:SmW w) (he:SmS e.1) (hs:sysB w.1=true) (hN:big≤N):i_World_entOk N (w,e,u)=some (entB w.1.2.1 e,()):=by
 have hb:big=1048577:=rfl
 have hi:=h.sys.ins
 have hw:wI ((w.1.2.1.length:Int)-1)=(w.1.2.1.length:Int)-1:=wrap_id (by omega) (by omega)
 unfold i_World_entOk entB
 dsimp only
 rw [e_i_src N _ () he hN,e_i_inRange,e_i_inRange,hw]
 dsimp only [oB]
 rw [show (decide (e.2.1≥1) && decide (e.2.1≤1000))=inI e.2.1 1 1000 from rfl,show (decide (e.2.2.1≥0) && decide (e.2.2.1≤(w.1.2.1.length:Int)-1))=inI e.2.2.1 0 ((w.1.2.1.length:Int)-1) from rfl]
 cases srcB e.1 with
 | false=>rfl
 | true =>
 cases inI e.2.1 1 1000 with
 | false=>rfl
 | true =>
 cases hr:inI e.2.2.1 0 ((w.1.2.1.length:Int)-1) with
 | false=>rfl
 | true =>
 have hin:=inI_in hr
 simp only [bN,bF,if_false,Bool.true_and]
 rw [if_pos hin]
 have hlt:e.2.2.1.toNat<w.1.2.1.length:=by have h1:=hin.1;have h2:=hin.2;omega
 have hv:=inst_vals hs hlt
 have hx:=h.sys.insS _ (mem_getD (d:=(bE,(0:Int),([]:List ByteArray),([]:List VT),([]:List LT),([]:List TT),())) hlt)
 generalize w.1.2.1.getD e.2.2.1.toNat (bE,(0:Int),([]:List ByteArray),([]:List VT),([]:List LT),([]:List TT),())=x at hv hx
 have hnm:=hx.nm
 have hex:=he.ex
 cases decide (x.1=e.1.1) with
 | false=>rfl
 | true =>
 cases decide (x.2.1=e.2.1) with
 | false=>rfl
 | true =>
 simp only [bN,bF,if_false,Bool.true_and,oB]
 rw [loop_all e.1.2.2.1 bE (inAt x) (b:=()) (c:=(false,())) (by omega) ?h ?hd (by omega)]
 case hd=>simp
 case h =>
  intro i hi
  dsimp only
  rw [if_pos (decide_eq_true (lt_cast hi)),if_pos (inB_nat.2 hi),tN,e_index N x.2.2.1 _ () hx.nm hN]
  dsimp only [oB]
  unfold inAt
  by_cases hix:0≤idxS x.2.2.1 (e.1.2.2.1.getD i bE)
  ·rw [if_neg (fun hc=>by have:=of_decide_eq_true hc;omega),if_pos (show inB _ x.2.2.2.1.length by rw [hv];exact idxS_lt hix),decide_eq_true hix]
   generalize x.2.2.2.1.getD (idxS x.2.2.1 (e.1.2.2.1.getD i bE)).toNat ((0:Int),(0:Int),bE,())=v
   rw [show (decide (v.1=0) && (decide (v.2.1=0) && (decide (v.2.2.1=bE) && true)))=zerV v from rfl]
   cases zerV v <;> rfl
  ·rw [if_pos (decide_eq_true (show idxS x.2.2.1 (e.1.2.2.1.getD i bE)<0 by omega)),decide_eq_false hix]
   rfl
 cases e.1.2.2.1.all (inAt x) <;> rfl
theorem wrap_pred {i:Nat} (h:i<1048577) (h0:i≠0):wI ((i:Int)-1)=((i-1:Nat):Int):=by
 rw [wrap_id (by omega) (by omega)];omega
theorem e_i_WorldOk (N:Nat) (w:WT) (u:Unit) (h:SmW w) (hN:big≤N):i_WorldOk N (w,u)=some (worldB w,()):=by
 have hb:big=1048577:=rfl
 have h1:=h.en
 have h2:=h.tk
 unfold i_WorldOk worldB
 dsimp only
 rw [e_i_inRange,e_i_sys N _ () h.sys hN]
 simp only [or_someB,oB,Bool.decide_eq_true]
 have q1:decide ((w.2.1.length:Int)>6)=!decide ((w.2.1.length:Int)≤6):=by rw [← decide_not];exact decide_eq_decide.2 (by omega)
 have q2:decide ((w.2.2.1.length:Int)>6)=!decide ((w.2.2.1.length:Int)≤6):=by rw [← decide_not];exact decide_eq_decide.2 (by omega)
 rw [q1,q2,show (decide (w.2.2.2.1≥1) && decide (w.2.2.2.1≤100000))=inI w.2.2.2.1 1 100000 from rfl]
 cases hs:sysB w.1 with
 | false=>cases decide ((w.2.1.length:Int)≤6) <;> cases decide ((w.2.2.1.length:Int)≤6) <;> cases inI w.2.2.2.1 1 100000 <;> rfl
 | true =>
 cases decide ((w.2.1.length:Int)≤6) with
 | false=>rfl
 | true =>
 cases decide ((w.2.2.1.length:Int)≤6) with
 | false=>rfl
 | true =>
 cases hnx:inI w.2.2.2.1 1 100000 with
 | false=>rfl
 | true =>
 have hnx':=hnx
 unfold inI at hnx'
 simp only [bA,decide_eq_true_eq] at hnx'
 simp only [bN,Bool.or_self,bF,if_false,Bool.true_and]
 rw [iter_all (fun i=>((i:Int),())) (entAt w.1.2.1 w.2.1) (n:=w.2.1.length) (b:=()) (c:=(false,())) ?he ?hed (by omega) (x0:=(0,())) rfl]
 case hed=>simp
 case he =>
  intro i hi
  dsimp only
  rw [if_pos (decide_eq_true (lt_cast hi)),if_pos (inB_nat.2 hi),tN,e_i_ent N w _ () h (h.enS _ (mem_getD (d:=((bE,([]:List ByteArray),([]:List ByteArray),([]:List TT),([]:List DT),([]:List DT),()),(0:Int),(0:Int),())) hi)) hs hN,wrap_nat (by omega)]
  dsimp only [oB]
  unfold entAt
  cases entB w.1.2.1 (w.2.1.getD i ((bE,([]:List ByteArray),([]:List ByteArray),([]:List TT),([]:List DT),([]:List DT),()),(0:Int),(0:Int),())) with
  | false=>rfl
  | true =>
   simp only [bN,bF,if_false,Bool.true_and]
   by_cases h0:i=0
   ·subst h0;rfl
   ·rw [if_pos (decide_eq_true (show (i:Int)>0 by omega)),wrap_pred (by omega) h0,if_pos (inB_nat.2 (show i-1<_ by omega)),decide_eq_false h0,Bool.false_or,tN]
    rw [show Op.bytesLess (ByteArray.toList (w.2.1.getD i ((bE,([]:List ByteArray),([]:List ByteArray),([]:List TT),([]:List DT),([]:List DT),()),(0:Int),(0:Int),())).1.1) (ByteArray.toList (w.2.1.getD (i-1) ((bE,([]:List ByteArray),([]:List ByteArray),([]:List TT),([]:List DT),([]:List DT),()),(0:Int),(0:Int),())).1.1)=ltS (w.2.1.getD i ((bE,([]:List ByteArray),([]:List ByteArray),([]:List TT),([]:List DT),([]:List DT),()),(0:Int),(0:Int),())).1.1 (w.2.1.getD (i-1) ((bE,([]:List ByteArray),([]:List ByteArray),([]:List TT),([]:List DT),([]:List DT),()),(0:Int),(0:Int),())).1.1 from rfl,lt_flip]
    cases ltS (w.2.1.getD (i-1) ((bE,([]:List ByteArray),([]:List ByteArray),([]:List TT),([]:List DT),([]:List DT),()),(0:Int),(0:Int),())).1.1 (w.2.1.getD i ((bE,([]:List ByteArray),([]:List ByteArray),([]:List TT),([]:List DT),([]:List DT),()),(0:Int),(0:Int),())).1.1 <;> rfl
 cases (List.range w.2.1.length).all (entAt w.1.2.1 w.2.1) with
 | false=>rfl
 | true =>
 simp only [if_true,oB,Bool.true_and]
 have hw:wI (w.2.2.2.1-1)=w.2.2.2.1-1:=wrap_id (by omega) (by omega)
 rw [iter_all (fun i=>((i:Int),())) (tskAt w.1 w.2.2.2.1 w.2.2.1) (n:=w.2.2.1.length) (b:=()) (c:=(false,())) ?ht ?htd (by omega) (x0:=(0,())) rfl]
 case htd=>simp
 case ht =>
  intro i hi
  dsimp only
  rw [if_pos (decide_eq_true (lt_cast hi)),if_pos (inB_nat.2 hi),tN,e_i_inRange,hw,e_i_mach N w.1 _ () (h.tkS _ (mem_getD (d:=((0:Int),((0:Int),(0:Int),(0:Int),([]:List BT),((0:Int),(0:Int),bE,()),([]:List FT),(0:Int),()),())) hi)) h.sys hN,wrap_nat (by omega)]
  dsimp only [oB]
  rw [show (decide ((w.2.2.1.getD i ((0:Int),((0:Int),(0:Int),(0:Int),([]:List BT),((0:Int),(0:Int),bE,()),([]:List FT),(0:Int),()),())).1≥1) && decide ((w.2.2.1.getD i ((0:Int),((0:Int),(0:Int),(0:Int),([]:List BT),((0:Int),(0:Int),bE,()),([]:List FT),(0:Int),()),())).1≤w.2.2.2.1-1))=inI (w.2.2.1.getD i ((0:Int),((0:Int),(0:Int),(0:Int),([]:List BT),((0:Int),(0:Int),bE,()),([]:List FT),(0:Int),()),())).1 1 (w.2.2.2.1-1) from rfl]
  unfold tskAt
  cases inI (w.2.2.1.getD i ((0:Int),((0:Int),(0:Int),(0:Int),([]:List BT),((0:Int),(0:Int),bE,()),([]:List FT),(0:Int),()),())).1 1 (w.2.2.2.1-1) with
  | false=>rfl
  | true =>
   simp only [bN,bF,if_false,Bool.true_and]
   by_cases h0:i=0
   ·subst h0
    cases machB w.1 (w.2.2.1.getD 0 ((0:Int),((0:Int),(0:Int),(0:Int),([]:List BT),((0:Int),(0:Int),bE,()),([]:List FT),(0:Int),()),())).2.1 <;> rfl
   ·rw [if_pos (decide_eq_true (show (i:Int)>0 by omega)),wrap_pred (by omega) h0,if_pos (inB_nat.2 (show i-1<_ by omega)),decide_eq_false h0,Bool.false_or,tN]
    have q:decide ((w.2.2.1.getD i ((0:Int),((0:Int),(0:Int),(0:Int),([]:List BT),((0:Int),(0:Int),bE,()),([]:List FT),(0:Int),()),())).1≤(w.2.2.1.getD (i-1) ((0:Int),((0:Int),(0:Int),(0:Int),([]:List BT),((0:Int),(0:Int),bE,()),([]:List FT),(0:Int),()),())).1)=!decide ((w.2.2.1.getD (i-1) ((0:Int),((0:Int),(0:Int),(0:Int),([]:List BT),((0:Int),(0:Int),bE,()),([]:List FT),(0:Int),()),())).1<(w.2.2.1.getD i ((0:Int),((0:Int),(0:Int),(0:Int),([]:List BT),((0:Int),(0:Int),bE,()),([]:List FT),(0:Int),()),())).1):=by rw [← decide_not];exact decide_eq_decide.2 (by omega)
    rw [q]
    cases decide ((w.2.2.1.getD (i-1) ((0:Int),((0:Int),(0:Int),(0:Int),([]:List BT),((0:Int),(0:Int),bE,()),([]:List FT),(0:Int),()),())).1<(w.2.2.1.getD i ((0:Int),((0:Int),(0:Int),(0:Int),([]:List BT),((0:Int),(0:Int),bE,()),([]:List FT),(0:Int),()),())).1) <;> cases machB w.1 (w.2.2.1.getD i ((0:Int),((0:Int),(0:Int),(0:Int),([]:List BT),((0:Int),(0:Int),bE,()),([]:List FT),(0:Int),()),())).2.1 <;> rfl
 cases (List.range w.2.2.1.length).all (tskAt w.1 w.2.2.2.1 w.2.2.1) with
 | false=>rfl
 | true =>
 simp only [if_true,oB,Bool.true_and]
 rw [e_i_srcs N w () h hN]
 dsimp only [oB]
 rw [e_i_Order N _ () h.src hN]
 rfl
theorem e_s_WorldOk (N:Nat) (w:WT) (u:Unit) (h:SmW w) (hN:big≤N):s_WorldOk N (w,u)=some (worldB w,()):=by
 have hb:big=1048577:=rfl
 have h1:=h.en
 have h2:=h.tk
 have h3:=h.sys.ins
 unfold s_WorldOk worldB
 dsimp only
 rw [e_s_l1In,e_s_sys N _ () h.sys hN]
 simp only [or_someB,oB,Bool.decide_eq_true]
 have q1:decide ((w.2.1.length:Int)>6)=!decide ((w.2.1.length:Int)≤6):=by rw [← decide_not];exact decide_eq_decide.2 (by omega)
 have q2:decide ((w.2.2.1.length:Int)>6)=!decide ((w.2.2.1.length:Int)≤6):=by rw [← decide_not];exact decide_eq_decide.2 (by omega)
 rw [q1,q2,show (decide (w.2.2.2.1≥1) && decide (w.2.2.2.1≤100000))=inI w.2.2.2.1 1 100000 from rfl]
 cases hs:sysB w.1 with
 | false=>rfl
 | true =>
 cases decide ((w.2.1.length:Int)≤6) with
 | false=>rfl
 | true =>
 cases decide ((w.2.2.1.length:Int)≤6) with
 | false=>rfl
 | true =>
 cases hnx:inI w.2.2.2.1 1 100000 with
 | false=>rfl
 | true =>
 have hnx':=hnx
 unfold inI at hnx'
 simp only [bA,decide_eq_true_eq] at hnx'
 simp only [bN,Bool.or_self,bF,if_false,Bool.true_and]
 rw [iter_all (fun i=>((i:Int),())) (entAt w.1.2.1 w.2.1) (n:=w.2.1.length) (b:=()) (c:=(false,())) ?he ?hed (by omega) (x0:=(0,())) rfl]
 case hed=>simp
 case he =>
  intro i hi
  have he:=h.enS _ (mem_getD (d:=((bE,([]:List ByteArray),([]:List ByteArray),([]:List TT),([]:List DT),([]:List DT),()),(0:Int),(0:Int),())) hi)
  have hex:=he.ex
  dsimp only
  rw [if_pos (decide_eq_true (lt_cast hi)),if_pos (inB_nat.2 hi),tN]
  unfold entAt entB
  rw [e_s_src N _ () he hN,wrap_nat (by omega)]
  dsimp only [oB]
  cases srcB (w.2.1.getD i ((bE,([]:List ByteArray),([]:List ByteArray),([]:List TT),([]:List DT),([]:List DT),()),(0:Int),(0:Int),())).1 with
  | false=>rfl
  | true =>
  simp only [bN,bF,if_false,Bool.true_and]
  by_cases h0:i=0
  ·rw [if_neg (fun hc=>by have:=of_decide_eq_true hc;omega),decide_eq_true h0,Bool.true_or,Bool.and_true]
   generalize w.2.1.getD i ((bE,([]:List ByteArray),([]:List ByteArray),([]:List TT),([]:List DT),([]:List DT),()),(0:Int),(0:Int),())=e at he hex
   rw [e_s_l1In]
   dsimp only [oB]
   rw [show (decide (e.2.1≥1) && decide (e.2.1≤1000))=inI e.2.1 1 1000 from rfl]
   cases inI e.2.1 1 1000 with
   | false=>rfl
   | true =>
   simp only [bN,bF,if_false,Bool.true_and]
   by_cases hlo:e.2.2.1<0
   ·rw [if_pos (decide_eq_true hlo),inI_lo hlo];rfl
   rw [if_neg (fun hc=>hlo (of_decide_eq_true hc))]
   by_cases hhi:e.2.2.1≥(w.1.2.1.length:Int)
   ·rw [if_pos (decide_eq_true hhi),inI_hi hhi];rfl
   rw [if_neg (fun hc=>hhi (of_decide_eq_true hc))]
   have hin:inB e.2.2.1 w.1.2.1.length:=⟨by omega,by omega⟩
   have hlt:e.2.2.1.toNat<w.1.2.1.length:=by have h1:=hin.1;have h2:=hin.2;omega
   rw [if_pos hin,if_pos hin,inI_ok hin]
   have hv:=inst_vals hs hlt
   have hx:=h.sys.insS _ (mem_getD (d:=(bE,(0:Int),([]:List ByteArray),([]:List VT),([]:List LT),([]:List TT),())) hlt)
   generalize w.1.2.1.getD e.2.2.1.toNat (bE,(0:Int),([]:List ByteArray),([]:List VT),([]:List LT),([]:List TT),())=x at hv hx
   have hnm:=hx.nm
   cases decide (x.1=e.1.1) with
   | false=>rfl
   | true =>
   cases decide (x.2.1=e.2.1) with
   | false=>rfl
   | true =>
   simp only [bN,bF,if_false,Bool.true_and]
   rw [loop_all e.1.2.2.1 bE (inAt x) (b:=()) (c:=(false,())) (by omega) ?h ?hd (by omega)]
   case hd=>simp
   case h =>
    intro j hj
    dsimp only
    rw [if_pos (decide_eq_true (lt_cast hj)),if_pos hin,if_pos (inB_nat.2 hj),tN,e_s_l8Name N x _ () hx.nm hN]
    dsimp only [oB]
    unfold inAt
    by_cases hix:0≤idxS x.2.2.1 (e.1.2.2.1.getD j bE)
    ·rw [if_neg (fun hc=>by have:=of_decide_eq_true hc;omega),if_pos hin,if_pos (show inB _ x.2.2.2.1.length by rw [hv];exact idxS_lt hix),decide_eq_true hix]
     generalize x.2.2.2.1.getD (idxS x.2.2.1 (e.1.2.2.1.getD j bE)).toNat ((0:Int),(0:Int),bE,())=v
     rw [show (decide (v.1=0) && (decide (v.2.1=0) && (decide (v.2.2.1=bE) && true)))=zerV v from rfl]
     cases zerV v <;> rfl
    ·rw [if_pos (decide_eq_true (show idxS x.2.2.1 (e.1.2.2.1.getD j bE)<0 by omega)),decide_eq_false hix]
     rfl
   cases e.1.2.2.1.all (inAt x) <;> rfl
  ·rw [if_pos (decide_eq_true (show (i:Int)>0 by omega)),wrap_pred (by omega) h0,if_pos (inB_nat.2 (show i-1<_ by omega)),decide_eq_false h0,Bool.false_or,tN]
   rw [show Op.bytesLess (ByteArray.toList (w.2.1.getD (i-1) ((bE,([]:List ByteArray),([]:List ByteArray),([]:List TT),([]:List DT),([]:List DT),()),(0:Int),(0:Int),())).1.1) (ByteArray.toList (w.2.1.getD i ((bE,([]:List ByteArray),([]:List ByteArray),([]:List TT),([]:List DT),([]:List DT),()),(0:Int),(0:Int),())).1.1)=ltS (w.2.1.getD (i-1) ((bE,([]:List ByteArray),([]:List ByteArray),([]:List TT),([]:List DT),([]:List DT),()),(0:Int),(0:Int),())).1.1 (w.2.1.getD i ((bE,([]:List ByteArray),([]:List ByteArray),([]:List TT),([]:List DT),([]:List DT),()),(0:Int),(0:Int),())).1.1 from rfl]
   cases ltS (w.2.1.getD (i-1) ((bE,([]:List ByteArray),([]:List ByteArray),([]:List TT),([]:List DT),([]:List DT),()),(0:Int),(0:Int),())).1.1 (w.2.1.getD i ((bE,([]:List ByteArray),([]:List ByteArray),([]:List TT),([]:List DT),([]:List DT),()),(0:Int),(0:Int),())).1.1 with
   | false=>simp
   | true =>
   rw [Bool.and_true]
   simp only [bN,bF,if_false]
   generalize w.2.1.getD i ((bE,([]:List ByteArray),([]:List ByteArray),([]:List TT),([]:List DT),([]:List DT),()),(0:Int),(0:Int),())=e at he hex
   rw [e_s_l1In]
   dsimp only [oB]
   rw [show (decide (e.2.1≥1) && decide (e.2.1≤1000))=inI e.2.1 1 1000 from rfl]
   cases inI e.2.1 1 1000 with
   | false=>rfl
   | true =>
   simp only [bN,bF,if_false,Bool.true_and]
   by_cases hlo:e.2.2.1<0
   ·rw [if_pos (decide_eq_true hlo),inI_lo hlo];rfl
   rw [if_neg (fun hc=>hlo (of_decide_eq_true hc))]
   by_cases hhi:e.2.2.1≥(w.1.2.1.length:Int)
   ·rw [if_pos (decide_eq_true hhi),inI_hi hhi];rfl
   rw [if_neg (fun hc=>hhi (of_decide_eq_true hc))]
   have hin:inB e.2.2.1 w.1.2.1.length:=⟨by omega,by omega⟩
   have hlt:e.2.2.1.toNat<w.1.2.1.length:=by have h1:=hin.1;have h2:=hin.2;omega
   rw [if_pos hin,if_pos hin,inI_ok hin]
   have hv:=inst_vals hs hlt
   have hx:=h.sys.insS _ (mem_getD (d:=(bE,(0:Int),([]:List ByteArray),([]:List VT),([]:List LT),([]:List TT),())) hlt)
   generalize w.1.2.1.getD e.2.2.1.toNat (bE,(0:Int),([]:List ByteArray),([]:List VT),([]:List LT),([]:List TT),())=x at hv hx
   have hnm:=hx.nm
   cases decide (x.1=e.1.1) with
   | false=>rfl
   | true =>
   cases decide (x.2.1=e.2.1) with
   | false=>rfl
   | true =>
   simp only [bN,bF,if_false,Bool.true_and]
   rw [loop_all e.1.2.2.1 bE (inAt x) (b:=()) (c:=(false,())) (by omega) ?h ?hd (by omega)]
   case hd=>simp
   case h =>
    intro j hj
    dsimp only
    rw [if_pos (decide_eq_true (lt_cast hj)),if_pos hin,if_pos (inB_nat.2 hj),tN,e_s_l8Name N x _ () hx.nm hN]
    dsimp only [oB]
    unfold inAt
    by_cases hix:0≤idxS x.2.2.1 (e.1.2.2.1.getD j bE)
    ·rw [if_neg (fun hc=>by have:=of_decide_eq_true hc;omega),if_pos hin,if_pos (show inB _ x.2.2.2.1.length by rw [hv];exact idxS_lt hix),decide_eq_true hix]
     generalize x.2.2.2.1.getD (idxS x.2.2.1 (e.1.2.2.1.getD j bE)).toNat ((0:Int),(0:Int),bE,())=v
     rw [show (decide (v.1=0) && (decide (v.2.1=0) && (decide (v.2.2.1=bE) && true)))=zerV v from rfl]
     cases zerV v <;> rfl
    ·rw [if_pos (decide_eq_true (show idxS x.2.2.1 (e.1.2.2.1.getD j bE)<0 by omega)),decide_eq_false hix]
     rfl
   cases e.1.2.2.1.all (inAt x) <;> rfl
 cases (List.range w.2.1.length).all (entAt w.1.2.1 w.2.1) with
 | false=>rfl
 | true =>
 simp only [if_true,oB,Bool.true_and]
 rw [e_s_srcs N w () h hN]
 dsimp only [oB]
 rw [e_s_Order N _ () h.src hN]
 dsimp only [oB]
 cases (ordR (srcsW w)).2.1 with
 | false=>simp
 | true =>
 rw [Bool.and_true]
 simp only [bN,bF,if_false]
 have hw:wI (w.2.2.2.1-1)=w.2.2.2.1-1:=wrap_id (by omega) (by omega)
 rw [iter_all (fun i=>((i:Int),())) (tskAt w.1 w.2.2.2.1 w.2.2.1) (n:=w.2.2.1.length) (b:=()) (c:=(false,())) ?ht ?htd (by omega) (x0:=(0,())) rfl]
 case htd=>simp
 case ht =>
  intro i hi
  dsimp only
  rw [if_pos (decide_eq_true (lt_cast hi)),if_pos (inB_nat.2 hi),tN,e_s_l1In,hw,e_s_mach N w.1 _ () (h.tkS _ (mem_getD (d:=((0:Int),((0:Int),(0:Int),(0:Int),([]:List BT),((0:Int),(0:Int),bE,()),([]:List FT),(0:Int),()),())) hi)) h.sys hN,wrap_nat (by omega),hs]
  dsimp only [oB]
  rw [show (decide ((w.2.2.1.getD i ((0:Int),((0:Int),(0:Int),(0:Int),([]:List BT),((0:Int),(0:Int),bE,()),([]:List FT),(0:Int),()),())).1≥1) && decide ((w.2.2.1.getD i ((0:Int),((0:Int),(0:Int),(0:Int),([]:List BT),((0:Int),(0:Int),bE,()),([]:List FT),(0:Int),()),())).1≤w.2.2.2.1-1))=inI (w.2.2.1.getD i ((0:Int),((0:Int),(0:Int),(0:Int),([]:List BT),((0:Int),(0:Int),bE,()),([]:List FT),(0:Int),()),())).1 1 (w.2.2.2.1-1) from rfl]
  unfold tskAt
  cases inI (w.2.2.1.getD i ((0:Int),((0:Int),(0:Int),(0:Int),([]:List BT),((0:Int),(0:Int),bE,()),([]:List FT),(0:Int),()),())).1 1 (w.2.2.2.1-1) with
  | false=>rfl
  | true =>
   simp only [bN,bF,if_false,Bool.true_and]
   by_cases h0:i=0
   ·subst h0
    cases machB w.1 (w.2.2.1.getD 0 ((0:Int),((0:Int),(0:Int),(0:Int),([]:List BT),((0:Int),(0:Int),bE,()),([]:List FT),(0:Int),()),())).2.1 <;> rfl
   ·rw [if_pos (decide_eq_true (show (i:Int)>0 by omega)),wrap_pred (by omega) h0,if_pos (inB_nat.2 (show i-1<_ by omega)),decide_eq_false h0,Bool.false_or,tN]
    have q:decide ((w.2.2.1.getD (i-1) ((0:Int),((0:Int),(0:Int),(0:Int),([]:List BT),((0:Int),(0:Int),bE,()),([]:List FT),(0:Int),()),())).1≥(w.2.2.1.getD i ((0:Int),((0:Int),(0:Int),(0:Int),([]:List BT),((0:Int),(0:Int),bE,()),([]:List FT),(0:Int),()),())).1)=!decide ((w.2.2.1.getD (i-1) ((0:Int),((0:Int),(0:Int),(0:Int),([]:List BT),((0:Int),(0:Int),bE,()),([]:List FT),(0:Int),()),())).1<(w.2.2.1.getD i ((0:Int),((0:Int),(0:Int),(0:Int),([]:List BT),((0:Int),(0:Int),bE,()),([]:List FT),(0:Int),()),())).1):=by rw [← decide_not];exact decide_eq_decide.2 (by omega)
    rw [q]
    cases decide ((w.2.2.1.getD (i-1) ((0:Int),((0:Int),(0:Int),(0:Int),([]:List BT),((0:Int),(0:Int),bE,()),([]:List FT),(0:Int),()),())).1<(w.2.2.1.getD i ((0:Int),((0:Int),(0:Int),(0:Int),([]:List BT),((0:Int),(0:Int),bE,()),([]:List FT),(0:Int),()),())).1) <;> cases machB w.1 (w.2.2.1.getD i ((0:Int),((0:Int),(0:Int),(0:Int),([]:List BT),((0:Int),(0:Int),bE,()),([]:List FT),(0:Int),()),())).2.1 <;> rfl
 cases (List.range w.2.2.1.length).all (tskAt w.1 w.2.2.2.1 w.2.2.1) <;> rfl
end Go.Rf
