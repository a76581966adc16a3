/-
  Functions of the program do what their plain functions say (contracts).
-/
import Derived.Test.YtcgneindmpkhgaaGreatDoorQCon
set_option linter.unusedSimpArgs false
set_option linter.unusedVariables false
set_option autoImplicit false
namespace Go.Rf
open Go.Proofs
set_option maxRecDepth 100000
theorem hmO:Tryz.prog.follows .mixedOrders = true:=by kernel_rfl
abbrev QF:Nat→Fn→Prop:=fun t s=>Ctr Tryz.prog Vp t s
abbrev QX:Nat→Fx→Prop:=fun t s=>CtrX Tryz.prog Vp t s
abbrev QI:Nat→Inl→Prop:=fun t s=>InlOK Tryz.prog t s
theorem lkF (p:Nat×Fn) {l:List (Nat×Fn)} (h:QF p.1 p.2) (hl:∀ k x,look l k = some x→QF k x):∀ k x,look (p :: l) k = some x→QF k x:=lk (Q:=QF) p h hl
theorem lkX (p:Nat×Fx) {l:List (Nat×Fx)} (h:QX p.1 p.2) (hl:∀ k x,look l k = some x→QX k x):∀ k x,look (p :: l) k = some x→QX k x:=lk (Q:=QX) p h hl
theorem nI (k:Nat) (i:Inl) (h:(none:Option Inl) = some i):QI k i:=by cases h
noncomputable def cz (n:Nat) (a:List (Nat×Ty)) (f:List (Nat×Fn)) (x:List (Nat×Fx)):Cz:={ tab:=tabP,n:=n,V:=Vp,ann:=look a,fn:=look f,fx:=look x }
def an (j:List (Nat×List Slot×List Nat)) (l:List (Nat×LoopAn)) (r:List Slot):An:={ join:=look j,loop:=look l,ret:=r }
noncomputable def E_l_szStringS (N:Nat):=cz 28 [] [] []
def A_l_szStringS:=an [] [(0,⟨[⟨1,.val,(.int .i64)⟩,⟨5,.val,(.int .i64)⟩],[⟨1,.val,(.int .i64)⟩],[1,4,5,12,13,14,15,16,17,18,19,20,21,22,23,24,25,26]⟩)] [⟨4,.val,(.int .i64)⟩]
theorem c_l_szStringS (N:Nat):Ctr Tryz.prog Vp 48 ⟨[(.sl .lend .str),(.int .i64)],[(.int .i64)],l_szStringS N⟩ :=
 mk_ctr (E:=E_l_szStringS N) (A:=A_l_szStringS) (N:=N) (pl:=[⟨0,.val,(.sl .lend .str)⟩,⟨1,.val,(.int .i64)⟩]) ⟨tabP_ok,lk0,lk0,nI⟩ hmO Tryz.func48 (by kernel_rfl) (F:=l_szStringS N) (funext fun x=>by kernel_rfl)
noncomputable def E_l_szValue (N:Nat):=cz 13 [] [] []
def A_l_szValue:=an [] [] [⟨4,.val,(.int .i64)⟩]
theorem c_l_szValue (N:Nat):Ctr Tryz.prog Vp 140 ⟨[t103o,(.int .i64)],[(.int .i64)],l_szValue N⟩ :=
 mk_ctr (E:=E_l_szValue N) (A:=A_l_szValue) (N:=N) (pl:=[⟨0,.val,t103o⟩,⟨1,.val,(.int .i64)⟩]) ⟨tabP_ok,lk0,lk0,nI⟩ hmO Tryz.func140 (by kernel_rfl) (F:=l_szValue N) (funext fun x=>by kernel_rfl)
abbrev k_140 (N:Nat):Nat×Fn:=(140,⟨[t103o,(.int .i64)],[(.int .i64)],l_szValue N⟩)
noncomputable def E_l_szValueS (N:Nat):=cz 27 [] [k_140 N] []
def A_l_szValueS:=an [] [(0,⟨[⟨1,.val,(.int .i64)⟩,⟨5,.val,(.int .i64)⟩],[⟨1,.val,(.int .i64)⟩],[1,4,5,12,13,14,15,16,17,18,19,20,21,22,23,24,25]⟩)] [⟨4,.val,(.int .i64)⟩]
theorem c_l_szValueS (N:Nat):Ctr Tryz.prog Vp 134 ⟨[(.sl .lend t103o),(.int .i64)],[(.int .i64)],l_szValueS N⟩ :=
 mk_ctr (E:=E_l_szValueS N) (A:=A_l_szValueS) (N:=N) (pl:=[⟨0,.val,(.sl .lend t103o)⟩,⟨1,.val,(.int .i64)⟩]) ⟨tabP_ok,lkF (k_140 N) (c_l_szValue N) lk0,lk0,nI⟩ hmO Tryz.func134 (by kernel_rfl) (F:=l_szValueS N) (funext fun x=>by kernel_rfl)
abbrev k_48 (N:Nat):Nat×Fn:=(48,⟨[(.sl .lend .str),(.int .i64)],[(.int .i64)],l_szStringS N⟩)
abbrev k_134 (N:Nat):Nat×Fn:=(134,⟨[(.sl .lend t103o),(.int .i64)],[(.int .i64)],l_szValueS N⟩)
noncomputable def E_l_szCell (N:Nat):=cz 25 [] [k_48 N,k_134 N] []
def A_l_szCell:=an [] [] [⟨4,.val,(.int .i64)⟩]
theorem c_l_szCell (N:Nat):Ctr Tryz.prog Vp 86 ⟨[t64l,(.int .i64)],[(.int .i64)],l_szCell N⟩ :=
 mk_ctr (E:=E_l_szCell N) (A:=A_l_szCell) (N:=N) (pl:=[⟨0,.val,t64l⟩,⟨1,.val,(.int .i64)⟩]) ⟨tabP_ok,lkF (k_48 N) (c_l_szStringS N) (lkF (k_134 N) (c_l_szValueS N) lk0),lk0,nI⟩ hmO Tryz.func86 (by kernel_rfl) (F:=l_szCell N) (funext fun x=>by kernel_rfl)
abbrev k_86 (N:Nat):Nat×Fn:=(86,⟨[t64l,(.int .i64)],[(.int .i64)],l_szCell N⟩)
noncomputable def E_l_szCellS (N:Nat):=cz 27 [] [k_86 N] []
def A_l_szCellS:=an [] [(0,⟨[⟨1,.val,(.int .i64)⟩,⟨5,.val,(.int .i64)⟩],[⟨1,.val,(.int .i64)⟩],[1,4,5,12,13,14,15,16,17,18,19,20,21,22,23,24,25]⟩)] [⟨4,.val,(.int .i64)⟩]
theorem c_l_szCellS (N:Nat):Ctr Tryz.prog Vp 45 ⟨[(.sl .lend t64l),(.int .i64)],[(.int .i64)],l_szCellS N⟩ :=
 mk_ctr (E:=E_l_szCellS N) (A:=A_l_szCellS) (N:=N) (pl:=[⟨0,.val,(.sl .lend t64l)⟩,⟨1,.val,(.int .i64)⟩]) ⟨tabP_ok,lkF (k_86 N) (c_l_szCell N) lk0,lk0,nI⟩ hmO Tryz.func45 (by kernel_rfl) (F:=l_szCellS N) (funext fun x=>by kernel_rfl)
noncomputable def E_l_szLink (N:Nat):=cz 20 [] [] []
def A_l_szLink:=an [] [] [⟨4,.val,(.int .i64)⟩]
theorem c_l_szLink (N:Nat):Ctr Tryz.prog Vp 187 ⟨[t228o,(.int .i64)],[(.int .i64)],l_szLink N⟩ :=
 mk_ctr (E:=E_l_szLink N) (A:=A_l_szLink) (N:=N) (pl:=[⟨0,.val,t228o⟩,⟨1,.val,(.int .i64)⟩]) ⟨tabP_ok,lk0,lk0,nI⟩ hmO Tryz.func187 (by kernel_rfl) (F:=l_szLink N) (funext fun x=>by kernel_rfl)
abbrev k_187 (N:Nat):Nat×Fn:=(187,⟨[t228o,(.int .i64)],[(.int .i64)],l_szLink N⟩)
noncomputable def E_l_szLinkS (N:Nat):=cz 27 [] [k_187 N] []
def A_l_szLinkS:=an [] [(0,⟨[⟨1,.val,(.int .i64)⟩,⟨5,.val,(.int .i64)⟩],[⟨1,.val,(.int .i64)⟩],[1,4,5,12,13,14,15,16,17,18,19,20,21,22,23,24,25]⟩)] [⟨4,.val,(.int .i64)⟩]
theorem c_l_szLinkS (N:Nat):Ctr Tryz.prog Vp 135 ⟨[(.sl .lend t228o),(.int .i64)],[(.int .i64)],l_szLinkS N⟩ :=
 mk_ctr (E:=E_l_szLinkS N) (A:=A_l_szLinkS) (N:=N) (pl:=[⟨0,.val,(.sl .lend t228o)⟩,⟨1,.val,(.int .i64)⟩]) ⟨tabP_ok,lkF (k_187 N) (c_l_szLink N) lk0,lk0,nI⟩ hmO Tryz.func135 (by kernel_rfl) (F:=l_szLinkS N) (funext fun x=>by kernel_rfl)
noncomputable def E_l_szType (N:Nat):=cz 13 [] [] []
def A_l_szType:=an [] [] [⟨4,.val,(.int .i64)⟩]
theorem c_l_szType (N:Nat):Ctr Tryz.prog Vp 188 ⟨[(.pair .str (.pair (.int .i64) .unit)),(.int .i64)],[(.int .i64)],l_szType N⟩ :=
 mk_ctr (E:=E_l_szType N) (A:=A_l_szType) (N:=N) (pl:=[⟨0,.val,(.pair .str (.pair (.int .i64) .unit))⟩,⟨1,.val,(.int .i64)⟩]) ⟨tabP_ok,lk0,lk0,nI⟩ hmO Tryz.func188 (by kernel_rfl) (F:=l_szType N) (funext fun x=>by kernel_rfl)
abbrev k_188 (N:Nat):Nat×Fn:=(188,⟨[(.pair .str (.pair (.int .i64) .unit)),(.int .i64)],[(.int .i64)],l_szType N⟩)
noncomputable def E_l_szTypeS (N:Nat):=cz 27 [] [k_188 N] []
def A_l_szTypeS:=an [] [(0,⟨[⟨1,.val,(.int .i64)⟩,⟨5,.val,(.int .i64)⟩],[⟨1,.val,(.int .i64)⟩],[1,4,5,12,13,14,15,16,17,18,19,20,21,22,23,24,25]⟩)] [⟨4,.val,(.int .i64)⟩]
theorem c_l_szTypeS (N:Nat):Ctr Tryz.prog Vp 136 ⟨[(.sl .lend (.pair .str (.pair (.int .i64) .unit))),(.int .i64)],[(.int .i64)],l_szTypeS N⟩ :=
 mk_ctr (E:=E_l_szTypeS N) (A:=A_l_szTypeS) (N:=N) (pl:=[⟨0,.val,(.sl .lend (.pair .str (.pair (.int .i64) .unit)))⟩,⟨1,.val,(.int .i64)⟩]) ⟨tabP_ok,lkF (k_188 N) (c_l_szType N) lk0,lk0,nI⟩ hmO Tryz.func136 (by kernel_rfl) (F:=l_szTypeS N) (funext fun x=>by kernel_rfl)
abbrev k_135 (N:Nat):Nat×Fn:=(135,⟨[(.sl .lend t228o),(.int .i64)],[(.int .i64)],l_szLinkS N⟩)
abbrev k_136 (N:Nat):Nat×Fn:=(136,⟨[(.sl .lend (.pair .str (.pair (.int .i64) .unit))),(.int .i64)],[(.int .i64)],l_szTypeS N⟩)
noncomputable def E_l_szInst (N:Nat):=cz 37 [] [k_48 N,k_134 N,k_135 N,k_136 N] []
def A_l_szInst:=an [] [] [⟨4,.val,(.int .i64)⟩]
theorem c_l_szInst (N:Nat):Ctr Tryz.prog Vp 87 ⟨[t114l,(.int .i64)],[(.int .i64)],l_szInst N⟩ :=
 mk_ctr (E:=E_l_szInst N) (A:=A_l_szInst) (N:=N) (pl:=[⟨0,.val,t114l⟩,⟨1,.val,(.int .i64)⟩]) ⟨tabP_ok,lkF (k_48 N) (c_l_szStringS N) (lkF (k_134 N) (c_l_szValueS N) (lkF (k_135 N) (c_l_szLinkS N) (lkF (k_136 N) (c_l_szTypeS N) lk0))),lk0,nI⟩ hmO Tryz.func87 (by kernel_rfl) (F:=l_szInst N) (funext fun x=>by kernel_rfl)
abbrev k_87 (N:Nat):Nat×Fn:=(87,⟨[t114l,(.int .i64)],[(.int .i64)],l_szInst N⟩)
noncomputable def E_l_szInstS (N:Nat):=cz 27 [] [k_87 N] []
def A_l_szInstS:=an [] [(0,⟨[⟨1,.val,(.int .i64)⟩,⟨5,.val,(.int .i64)⟩],[⟨1,.val,(.int .i64)⟩],[1,4,5,12,13,14,15,16,17,18,19,20,21,22,23,24,25]⟩)] [⟨4,.val,(.int .i64)⟩]
theorem c_l_szInstS (N:Nat):Ctr Tryz.prog Vp 46 ⟨[(.sl .lend t114l),(.int .i64)],[(.int .i64)],l_szInstS N⟩ :=
 mk_ctr (E:=E_l_szInstS N) (A:=A_l_szInstS) (N:=N) (pl:=[⟨0,.val,(.sl .lend t114l)⟩,⟨1,.val,(.int .i64)⟩]) ⟨tabP_ok,lkF (k_87 N) (c_l_szInst N) lk0,lk0,nI⟩ hmO Tryz.func46 (by kernel_rfl) (F:=l_szInstS N) (funext fun x=>by kernel_rfl)
noncomputable def E_l_szIntS (N:Nat):=cz 12 [] [] []
def A_l_szIntS:=an [] [] [⟨4,.val,(.int .i64)⟩]
theorem c_l_szIntS (N:Nat):Ctr Tryz.prog Vp 227 ⟨[(.sl .lend (.int .i64)),(.int .i64)],[(.int .i64)],l_szIntS N⟩ :=
 mk_ctr (E:=E_l_szIntS N) (A:=A_l_szIntS) (N:=N) (pl:=[⟨0,.val,(.sl .lend (.int .i64))⟩,⟨1,.val,(.int .i64)⟩]) ⟨tabP_ok,lk0,lk0,nI⟩ hmO Tryz.func227 (by kernel_rfl) (F:=l_szIntS N) (funext fun x=>by kernel_rfl)
abbrev k_227 (N:Nat):Nat×Fn:=(227,⟨[(.sl .lend (.int .i64)),(.int .i64)],[(.int .i64)],l_szIntS N⟩)
noncomputable def E_l_szNode (N:Nat):=cz 25 [] [k_48 N,k_227 N] []
def A_l_szNode:=an [] [] [⟨4,.val,(.int .i64)⟩]
theorem c_l_szNode (N:Nat):Ctr Tryz.prog Vp 216 ⟨[t180l,(.int .i64)],[(.int .i64)],l_szNode N⟩ :=
 mk_ctr (E:=E_l_szNode N) (A:=A_l_szNode) (N:=N) (pl:=[⟨0,.val,t180l⟩,⟨1,.val,(.int .i64)⟩]) ⟨tabP_ok,lkF (k_48 N) (c_l_szStringS N) (lkF (k_227 N) (c_l_szIntS N) lk0),lk0,nI⟩ hmO Tryz.func216 (by kernel_rfl) (F:=l_szNode N) (funext fun x=>by kernel_rfl)
abbrev k_216 (N:Nat):Nat×Fn:=(216,⟨[t180l,(.int .i64)],[(.int .i64)],l_szNode N⟩)
noncomputable def E_l_szNodeS (N:Nat):=cz 27 [] [k_216 N] []
def A_l_szNodeS:=an [] [(0,⟨[⟨1,.val,(.int .i64)⟩,⟨5,.val,(.int .i64)⟩],[⟨1,.val,(.int .i64)⟩],[1,4,5,12,13,14,15,16,17,18,19,20,21,22,23,24,25]⟩)] [⟨4,.val,(.int .i64)⟩]
theorem c_l_szNodeS (N:Nat):Ctr Tryz.prog Vp 189 ⟨[(.sl .lend t180l),(.int .i64)],[(.int .i64)],l_szNodeS N⟩ :=
 mk_ctr (E:=E_l_szNodeS N) (A:=A_l_szNodeS) (N:=N) (pl:=[⟨0,.val,(.sl .lend t180l)⟩,⟨1,.val,(.int .i64)⟩]) ⟨tabP_ok,lkF (k_216 N) (c_l_szNode N) lk0,lk0,nI⟩ hmO Tryz.func189 (by kernel_rfl) (F:=l_szNodeS N) (funext fun x=>by kernel_rfl)
abbrev k_189 (N:Nat):Nat×Fn:=(189,⟨[(.sl .lend t180l),(.int .i64)],[(.int .i64)],l_szNodeS N⟩)
noncomputable def E_l_szProg (N:Nat):=cz 12 [] [k_189 N] []
def A_l_szProg:=an [] [] [⟨4,.val,(.int .i64)⟩]
theorem c_l_szProg (N:Nat):Ctr Tryz.prog Vp 137 ⟨[t165l,(.int .i64)],[(.int .i64)],l_szProg N⟩ :=
 mk_ctr (E:=E_l_szProg N) (A:=A_l_szProg) (N:=N) (pl:=[⟨0,.val,t165l⟩,⟨1,.val,(.int .i64)⟩]) ⟨tabP_ok,lkF (k_189 N) (c_l_szNodeS N) lk0,lk0,nI⟩ hmO Tryz.func137 (by kernel_rfl) (F:=l_szProg N) (funext fun x=>by kernel_rfl)
abbrev k_137 (N:Nat):Nat×Fn:=(137,⟨[t165l,(.int .i64)],[(.int .i64)],l_szProg N⟩)
noncomputable def E_l_szUnit (N:Nat):=cz 12 [] [k_137 N] []
def A_l_szUnit:=an [] [] [⟨4,.val,(.int .i64)⟩]
theorem c_l_szUnit (N:Nat):Ctr Tryz.prog Vp 88 ⟨[t167l,(.int .i64)],[(.int .i64)],l_szUnit N⟩ :=
 mk_ctr (E:=E_l_szUnit N) (A:=A_l_szUnit) (N:=N) (pl:=[⟨0,.val,t167l⟩,⟨1,.val,(.int .i64)⟩]) ⟨tabP_ok,lkF (k_137 N) (c_l_szProg N) lk0,lk0,nI⟩ hmO Tryz.func88 (by kernel_rfl) (F:=l_szUnit N) (funext fun x=>by kernel_rfl)
abbrev k_88 (N:Nat):Nat×Fn:=(88,⟨[t167l,(.int .i64)],[(.int .i64)],l_szUnit N⟩)
noncomputable def E_l_szUnitS (N:Nat):=cz 27 [] [k_88 N] []
def A_l_szUnitS:=an [] [(0,⟨[⟨1,.val,(.int .i64)⟩,⟨5,.val,(.int .i64)⟩],[⟨1,.val,(.int .i64)⟩],[1,4,5,12,13,14,15,16,17,18,19,20,21,22,23,24,25]⟩)] [⟨4,.val,(.int .i64)⟩]
theorem c_l_szUnitS (N:Nat):Ctr Tryz.prog Vp 47 ⟨[(.sl .lend t167l),(.int .i64)],[(.int .i64)],l_szUnitS N⟩ :=
 mk_ctr (E:=E_l_szUnitS N) (A:=A_l_szUnitS) (N:=N) (pl:=[⟨0,.val,(.sl .lend t167l)⟩,⟨1,.val,(.int .i64)⟩]) ⟨tabP_ok,lkF (k_88 N) (c_l_szUnit N) lk0,lk0,nI⟩ hmO Tryz.func47 (by kernel_rfl) (F:=l_szUnitS N) (funext fun x=>by kernel_rfl)
abbrev k_45 (N:Nat):Nat×Fn:=(45,⟨[(.sl .lend t64l),(.int .i64)],[(.int .i64)],l_szCellS N⟩)
abbrev k_46 (N:Nat):Nat×Fn:=(46,⟨[(.sl .lend t114l),(.int .i64)],[(.int .i64)],l_szInstS N⟩)
abbrev k_47 (N:Nat):Nat×Fn:=(47,⟨[(.sl .lend t167l),(.int .i64)],[(.int .i64)],l_szUnitS N⟩)
noncomputable def E_l_szSys (N:Nat):=cz 30 [] [k_45 N,k_46 N,k_47 N,k_48 N] []
def A_l_szSys:=an [] [] [⟨4,.val,(.int .i64)⟩]
theorem c_l_szSys (N:Nat):Ctr Tryz.prog Vp 23 ⟨[t26l,(.int .i64)],[(.int .i64)],l_szSys N⟩ :=
 mk_ctr (E:=E_l_szSys N) (A:=A_l_szSys) (N:=N) (pl:=[⟨0,.val,t26l⟩,⟨1,.val,(.int .i64)⟩]) ⟨tabP_ok,lkF (k_45 N) (c_l_szCellS N) (lkF (k_46 N) (c_l_szInstS N) (lkF (k_47 N) (c_l_szUnitS N) (lkF (k_48 N) (c_l_szStringS N) lk0))),lk0,nI⟩ hmO Tryz.func23 (by kernel_rfl) (F:=l_szSys N) (funext fun x=>by kernel_rfl)
noncomputable def E_l_szDef (N:Nat):=cz 19 [] [k_137 N] []
def A_l_szDef:=an [] [] [⟨4,.val,(.int .i64)⟩]
theorem c_l_szDef (N:Nat):Ctr Tryz.prog Vp 190 ⟨[t188l,(.int .i64)],[(.int .i64)],l_szDef N⟩ :=
 mk_ctr (E:=E_l_szDef N) (A:=A_l_szDef) (N:=N) (pl:=[⟨0,.val,t188l⟩,⟨1,.val,(.int .i64)⟩]) ⟨tabP_ok,lkF (k_137 N) (c_l_szProg N) lk0,lk0,nI⟩ hmO Tryz.func190 (by kernel_rfl) (F:=l_szDef N) (funext fun x=>by kernel_rfl)
abbrev k_190 (N:Nat):Nat×Fn:=(190,⟨[t188l,(.int .i64)],[(.int .i64)],l_szDef N⟩)
noncomputable def E_l_szDefS (N:Nat):=cz 27 [] [k_190 N] []
def A_l_szDefS:=an [] [(0,⟨[⟨1,.val,(.int .i64)⟩,⟨5,.val,(.int .i64)⟩],[⟨1,.val,(.int .i64)⟩],[1,4,5,12,13,14,15,16,17,18,19,20,21,22,23,24,25]⟩)] [⟨4,.val,(.int .i64)⟩]
theorem c_l_szDefS (N:Nat):Ctr Tryz.prog Vp 138 ⟨[(.sl .lend t188l),(.int .i64)],[(.int .i64)],l_szDefS N⟩ :=
 mk_ctr (E:=E_l_szDefS N) (A:=A_l_szDefS) (N:=N) (pl:=[⟨0,.val,(.sl .lend t188l)⟩,⟨1,.val,(.int .i64)⟩]) ⟨tabP_ok,lkF (k_190 N) (c_l_szDef N) lk0,lk0,nI⟩ hmO Tryz.func138 (by kernel_rfl) (F:=l_szDefS N) (funext fun x=>by kernel_rfl)
abbrev k_138 (N:Nat):Nat×Fn:=(138,⟨[(.sl .lend t188l),(.int .i64)],[(.int .i64)],l_szDefS N⟩)
noncomputable def E_l_szSrc (N:Nat):=cz 43 [] [k_48 N,k_136 N,k_138 N] []
def A_l_szSrc:=an [] [] [⟨4,.val,(.int .i64)⟩]
theorem c_l_szSrc (N:Nat):Ctr Tryz.prog Vp 89 ⟨[t75l,(.int .i64)],[(.int .i64)],l_szSrc N⟩ :=
 mk_ctr (E:=E_l_szSrc N) (A:=A_l_szSrc) (N:=N) (pl:=[⟨0,.val,t75l⟩,⟨1,.val,(.int .i64)⟩]) ⟨tabP_ok,lkF (k_48 N) (c_l_szStringS N) (lkF (k_136 N) (c_l_szTypeS N) (lkF (k_138 N) (c_l_szDefS N) lk0)),lk0,nI⟩ hmO Tryz.func89 (by kernel_rfl) (F:=l_szSrc N) (funext fun x=>by kernel_rfl)
abbrev k_89 (N:Nat):Nat×Fn:=(89,⟨[t75l,(.int .i64)],[(.int .i64)],l_szSrc N⟩)
noncomputable def E_l_szEnt (N:Nat):=cz 12 [] [k_89 N] []
def A_l_szEnt:=an [] [] [⟨4,.val,(.int .i64)⟩]
theorem c_l_szEnt (N:Nat):Ctr Tryz.prog Vp 49 ⟨[t77l,(.int .i64)],[(.int .i64)],l_szEnt N⟩ :=
 mk_ctr (E:=E_l_szEnt N) (A:=A_l_szEnt) (N:=N) (pl:=[⟨0,.val,t77l⟩,⟨1,.val,(.int .i64)⟩]) ⟨tabP_ok,lkF (k_89 N) (c_l_szSrc N) lk0,lk0,nI⟩ hmO Tryz.func49 (by kernel_rfl) (F:=l_szEnt N) (funext fun x=>by kernel_rfl)
abbrev k_49 (N:Nat):Nat×Fn:=(49,⟨[t77l,(.int .i64)],[(.int .i64)],l_szEnt N⟩)
noncomputable def E_l_szEntS (N:Nat):=cz 27 [] [k_49 N] []
def A_l_szEntS:=an [] [(0,⟨[⟨1,.val,(.int .i64)⟩,⟨5,.val,(.int .i64)⟩],[⟨1,.val,(.int .i64)⟩],[1,4,5,12,13,14,15,16,17,18,19,20,21,22,23,24,25]⟩)] [⟨4,.val,(.int .i64)⟩]
theorem c_l_szEntS (N:Nat):Ctr Tryz.prog Vp 24 ⟨[(.sl .lend t77l),(.int .i64)],[(.int .i64)],l_szEntS N⟩ :=
 mk_ctr (E:=E_l_szEntS N) (A:=A_l_szEntS) (N:=N) (pl:=[⟨0,.val,(.sl .lend t77l)⟩,⟨1,.val,(.int .i64)⟩]) ⟨tabP_ok,lkF (k_49 N) (c_l_szEnt N) lk0,lk0,nI⟩ hmO Tryz.func24 (by kernel_rfl) (F:=l_szEntS N) (funext fun x=>by kernel_rfl)
noncomputable def E_l_szBind (N:Nat):=cz 19 [] [k_140 N] []
def A_l_szBind:=an [] [] [⟨4,.val,(.int .i64)⟩]
theorem c_l_szBind (N:Nat):Ctr Tryz.prog Vp 191 ⟨[t216o,(.int .i64)],[(.int .i64)],l_szBind N⟩ :=
 mk_ctr (E:=E_l_szBind N) (A:=A_l_szBind) (N:=N) (pl:=[⟨0,.val,t216o⟩,⟨1,.val,(.int .i64)⟩]) ⟨tabP_ok,lkF (k_140 N) (c_l_szValue N) lk0,lk0,nI⟩ hmO Tryz.func191 (by kernel_rfl) (F:=l_szBind N) (funext fun x=>by kernel_rfl)
abbrev k_191 (N:Nat):Nat×Fn:=(191,⟨[t216o,(.int .i64)],[(.int .i64)],l_szBind N⟩)
noncomputable def E_l_szBindS (N:Nat):=cz 27 [] [k_191 N] []
def A_l_szBindS:=an [] [(0,⟨[⟨1,.val,(.int .i64)⟩,⟨5,.val,(.int .i64)⟩],[⟨1,.val,(.int .i64)⟩],[1,4,5,12,13,14,15,16,17,18,19,20,21,22,23,24,25]⟩)] [⟨4,.val,(.int .i64)⟩]
theorem c_l_szBindS (N:Nat):Ctr Tryz.prog Vp 139 ⟨[(.sl .lend t216o),(.int .i64)],[(.int .i64)],l_szBindS N⟩ :=
 mk_ctr (E:=E_l_szBindS N) (A:=A_l_szBindS) (N:=N) (pl:=[⟨0,.val,(.sl .lend t216o)⟩,⟨1,.val,(.int .i64)⟩]) ⟨tabP_ok,lkF (k_191 N) (c_l_szBind N) lk0,lk0,nI⟩ hmO Tryz.func139 (by kernel_rfl) (F:=l_szBindS N) (funext fun x=>by kernel_rfl)
abbrev k_139 (N:Nat):Nat×Fn:=(139,⟨[(.sl .lend t216o),(.int .i64)],[(.int .i64)],l_szBindS N⟩)
noncomputable def E_l_szFrame (N:Nat):=cz 18 [] [k_134 N,k_139 N] []
def A_l_szFrame:=an [] [] [⟨4,.val,(.int .i64)⟩]
theorem c_l_szFrame (N:Nat):Ctr Tryz.prog Vp 192 ⟨[t194l,(.int .i64)],[(.int .i64)],l_szFrame N⟩ :=
 mk_ctr (E:=E_l_szFrame N) (A:=A_l_szFrame) (N:=N) (pl:=[⟨0,.val,t194l⟩,⟨1,.val,(.int .i64)⟩]) ⟨tabP_ok,lkF (k_134 N) (c_l_szValueS N) (lkF (k_139 N) (c_l_szBindS N) lk0),lk0,nI⟩ hmO Tryz.func192 (by kernel_rfl) (F:=l_szFrame N) (funext fun x=>by kernel_rfl)
abbrev k_192 (N:Nat):Nat×Fn:=(192,⟨[t194l,(.int .i64)],[(.int .i64)],l_szFrame N⟩)
noncomputable def E_l_szFrameS (N:Nat):=cz 27 [] [k_192 N] []
def A_l_szFrameS:=an [] [(0,⟨[⟨1,.val,(.int .i64)⟩,⟨5,.val,(.int .i64)⟩],[⟨1,.val,(.int .i64)⟩],[1,4,5,12,13,14,15,16,17,18,19,20,21,22,23,24,25]⟩)] [⟨4,.val,(.int .i64)⟩]
theorem c_l_szFrameS (N:Nat):Ctr Tryz.prog Vp 141 ⟨[(.sl .lend t194l),(.int .i64)],[(.int .i64)],l_szFrameS N⟩ :=
 mk_ctr (E:=E_l_szFrameS N) (A:=A_l_szFrameS) (N:=N) (pl:=[⟨0,.val,(.sl .lend t194l)⟩,⟨1,.val,(.int .i64)⟩]) ⟨tabP_ok,lkF (k_192 N) (c_l_szFrame N) lk0,lk0,nI⟩ hmO Tryz.func141 (by kernel_rfl) (F:=l_szFrameS N) (funext fun x=>by kernel_rfl)
abbrev k_141 (N:Nat):Nat×Fn:=(141,⟨[(.sl .lend t194l),(.int .i64)],[(.int .i64)],l_szFrameS N⟩)
noncomputable def E_l_szMachine (N:Nat):=cz 24 [] [k_139 N,k_140 N,k_141 N] []
def A_l_szMachine:=an [] [] [⟨4,.val,(.int .i64)⟩]
theorem c_l_szMachine (N:Nat):Ctr Tryz.prog Vp 90 ⟨[t106l,(.int .i64)],[(.int .i64)],l_szMachine N⟩ :=
 mk_ctr (E:=E_l_szMachine N) (A:=A_l_szMachine) (N:=N) (pl:=[⟨0,.val,t106l⟩,⟨1,.val,(.int .i64)⟩]) ⟨tabP_ok,lkF (k_139 N) (c_l_szBindS N) (lkF (k_140 N) (c_l_szValue N) (lkF (k_141 N) (c_l_szFrameS N) lk0)),lk0,nI⟩ hmO Tryz.func90 (by kernel_rfl) (F:=l_szMachine N) (funext fun x=>by kernel_rfl)
abbrev k_90 (N:Nat):Nat×Fn:=(90,⟨[t106l,(.int .i64)],[(.int .i64)],l_szMachine N⟩)
noncomputable def E_l_szTask (N:Nat):=cz 12 [] [k_90 N] []
def A_l_szTask:=an [] [] [⟨4,.val,(.int .i64)⟩]
theorem c_l_szTask (N:Nat):Ctr Tryz.prog Vp 50 ⟨[t108l,(.int .i64)],[(.int .i64)],l_szTask N⟩ :=
 mk_ctr (E:=E_l_szTask N) (A:=A_l_szTask) (N:=N) (pl:=[⟨0,.val,t108l⟩,⟨1,.val,(.int .i64)⟩]) ⟨tabP_ok,lkF (k_90 N) (c_l_szMachine N) lk0,lk0,nI⟩ hmO Tryz.func50 (by kernel_rfl) (F:=l_szTask N) (funext fun x=>by kernel_rfl)
abbrev k_50 (N:Nat):Nat×Fn:=(50,⟨[t108l,(.int .i64)],[(.int .i64)],l_szTask N⟩)
noncomputable def E_l_szTaskS (N:Nat):=cz 27 [] [k_50 N] []
def A_l_szTaskS:=an [] [(0,⟨[⟨1,.val,(.int .i64)⟩,⟨5,.val,(.int .i64)⟩],[⟨1,.val,(.int .i64)⟩],[1,4,5,12,13,14,15,16,17,18,19,20,21,22,23,24,25]⟩)] [⟨4,.val,(.int .i64)⟩]
theorem c_l_szTaskS (N:Nat):Ctr Tryz.prog Vp 25 ⟨[(.sl .lend t108l),(.int .i64)],[(.int .i64)],l_szTaskS N⟩ :=
 mk_ctr (E:=E_l_szTaskS N) (A:=A_l_szTaskS) (N:=N) (pl:=[⟨0,.val,(.sl .lend t108l)⟩,⟨1,.val,(.int .i64)⟩]) ⟨tabP_ok,lkF (k_50 N) (c_l_szTask N) lk0,lk0,nI⟩ hmO Tryz.func25 (by kernel_rfl) (F:=l_szTaskS N) (funext fun x=>by kernel_rfl)
abbrev k_23 (N:Nat):Nat×Fn:=(23,⟨[t26l,(.int .i64)],[(.int .i64)],l_szSys N⟩)
abbrev k_24 (N:Nat):Nat×Fn:=(24,⟨[(.sl .lend t77l),(.int .i64)],[(.int .i64)],l_szEntS N⟩)
abbrev k_25 (N:Nat):Nat×Fn:=(25,⟨[(.sl .lend t108l),(.int .i64)],[(.int .i64)],l_szTaskS N⟩)
noncomputable def E_l_szWorld (N:Nat):=cz 24 [] [k_23 N,k_24 N,k_25 N] []
def A_l_szWorld:=an [] [] [⟨4,.val,(.int .i64)⟩]
theorem c_l_szWorld (N:Nat):Ctr Tryz.prog Vp 6 ⟨[t30l,(.int .i64)],[(.int .i64)],l_szWorld N⟩ :=
 mk_ctr (E:=E_l_szWorld N) (A:=A_l_szWorld) (N:=N) (pl:=[⟨0,.val,t30l⟩,⟨1,.val,(.int .i64)⟩]) ⟨tabP_ok,lkF (k_23 N) (c_l_szSys N) (lkF (k_24 N) (c_l_szEntS N) (lkF (k_25 N) (c_l_szTaskS N) lk0)),lk0,nI⟩ hmO Tryz.func6 (by kernel_rfl) (F:=l_szWorld N) (funext fun x=>by kernel_rfl)
noncomputable def E_s_l1In (N:Nat):=cz 15 [] [] []
def A_s_l1In:=an [] [] [⟨6,.val,.bool⟩]
theorem c_s_l1In (N:Nat):Ctr Tryz.prog Vp 52 ⟨[(.int .i64),(.int .i64),(.int .i64)],[.bool],s_l1In N⟩ :=
 mk_ctr (E:=E_s_l1In N) (A:=A_s_l1In) (N:=N) (pl:=[⟨0,.val,(.int .i64)⟩,⟨1,.val,(.int .i64)⟩,⟨2,.val,(.int .i64)⟩]) ⟨tabP_ok,lk0,lk0,nI⟩ hmO Tryz.func52 (by kernel_rfl) (F:=s_l1In N) (funext fun x=>by kernel_rfl)
noncomputable def E_s_l2Digit (N:Nat):=cz 9 [] [] []
def A_s_l2Digit:=an [] [] [⟨2,.val,.bool⟩]
theorem c_s_l2Digit (N:Nat):Ctr Tryz.prog Vp 195 ⟨[(.int .u8)],[.bool],s_l2Digit N⟩ :=
 mk_ctr (E:=E_s_l2Digit N) (A:=A_s_l2Digit) (N:=N) (pl:=[⟨0,.val,(.int .u8)⟩]) ⟨tabP_ok,lk0,lk0,nI⟩ hmO Tryz.func195 (by kernel_rfl) (F:=s_l2Digit N) (funext fun x=>by kernel_rfl)
noncomputable def E_s_l2In (N:Nat):=cz 17 [] [] []
def A_s_l2In:=an [] [(0,⟨[⟨5,.val,(.int .i64)⟩],[],[4,5,6,7,8,9,10,11,12,13,14,15,16]⟩)] [⟨4,.val,.bool⟩]
theorem c_s_l2In (N:Nat):Ctr Tryz.prog Vp 217 ⟨[(.int .u8),.str],[.bool],s_l2In N⟩ :=
 mk_ctr (E:=E_s_l2In N) (A:=A_s_l2In) (N:=N) (pl:=[⟨0,.val,(.int .u8)⟩,⟨1,.val,.str⟩]) ⟨tabP_ok,lk0,lk0,nI⟩ hmO Tryz.func217 (by kernel_rfl) (F:=s_l2In N) (funext fun x=>by kernel_rfl)
abbrev k_195 (N:Nat):Nat×Fn:=(195,⟨[(.int .u8)],[.bool],s_l2Digit N⟩)
abbrev k_217 (N:Nat):Nat×Fn:=(217,⟨[(.int .u8),.str],[.bool],s_l2In N⟩)
noncomputable def E_s_l2Sign (N:Nat):=cz 17 [] [k_195 N,k_217 N] []
def A_s_l2Sign:=an [] [] [⟨2,.val,.bool⟩]
theorem c_s_l2Sign (N:Nat):Ctr Tryz.prog Vp 196 ⟨[(.int .u8)],[.bool],s_l2Sign N⟩ :=
 mk_ctr (E:=E_s_l2Sign N) (A:=A_s_l2Sign) (N:=N) (pl:=[⟨0,.val,(.int .u8)⟩]) ⟨tabP_ok,lkF (k_195 N) (c_s_l2Digit N) (lkF (k_217 N) (c_s_l2In N) lk0),lk0,nI⟩ hmO Tryz.func196 (by kernel_rfl) (F:=s_l2Sign N) (funext fun x=>by kernel_rfl)
noncomputable def E_s_Dec (N:Nat):=cz 31 [(21,(.int .u8))] [] []
def A_s_Dec:=an [(15,([⟨5,.val,(.int .i64)⟩],[5,16,17]))] [(0,⟨[⟨0,.val,(.int .i64)⟩,⟨3,.val,.str⟩],[⟨3,.val,.str⟩],[0,3,5,10,11,12,13,14,15,16,17,18,19,20,21,22,23,24,25,26]⟩)] [⟨2,.val,.str⟩]
theorem c_s_Dec (N:Nat):Ctr Tryz.prog Vp 218 ⟨[(.int .i64)],[.str],s_Dec N⟩ :=
 mk_ctr (E:=E_s_Dec N) (A:=A_s_Dec) (N:=N) (pl:=[⟨0,.val,(.int .i64)⟩]) ⟨tabP_ok,lk0,lk0,nI⟩ hmO Tryz.func218 (by kernel_rfl) (F:=s_Dec N) (funext fun x=>by kernel_rfl)
abbrev k_218 (N:Nat):Nat×Fn:=(218,⟨[(.int .i64)],[.str],s_Dec N⟩)
noncomputable def E_s_ReadDec (N:Nat):=cz 61 [] [k_218 N] []
def A_s_ReadDec:=an [(26,([⟨4,.val,(.int .i64)⟩,⟨5,.val,(.int .i64)⟩],[4,5,27,28,29,30,31,32,33,34,35,36])),(44,([⟨4,.val,(.int .i64)⟩],[4,45,46]))] [(0,⟨[⟨4,.val,(.int .i64)⟩,⟨5,.val,(.int .i64)⟩,⟨6,.val,(.int .i64)⟩],[⟨4,.val,(.int .i64)⟩,⟨5,.val,(.int .i64)⟩],[4,5,6,7,8,9,10,11,12,13,14,15,16,17,18,19,20,21,22,23,24,25,26,27,28,29,30,31,32,33,34,35,36]⟩)] [⟨2,.val,(.int .i64)⟩,⟨3,.val,.bool⟩]
theorem c_s_ReadDec (N:Nat):Ctr Tryz.prog Vp 197 ⟨[.str],[(.int .i64),.bool],s_ReadDec N⟩ :=
 mk_ctr (E:=E_s_ReadDec N) (A:=A_s_ReadDec) (N:=N) (pl:=[⟨0,.val,.str⟩]) ⟨tabP_ok,lkF (k_218 N) (c_s_Dec N) lk0,lk0,nI⟩ hmO Tryz.func197 (by kernel_rfl) (F:=s_ReadDec N) (funext fun x=>by kernel_rfl)
abbrev k_52 (N:Nat):Nat×Fn:=(52,⟨[(.int .i64),(.int .i64),(.int .i64)],[.bool],s_l1In N⟩)
abbrev k_196 (N:Nat):Nat×Fn:=(196,⟨[(.int .u8)],[.bool],s_l2Sign N⟩)
abbrev k_197 (N:Nat):Nat×Fn:=(197,⟨[.str],[(.int .i64),.bool],s_ReadDec N⟩)
noncomputable def E_s_l2Sym (N:Nat):=cz 33 [] [k_52 N,k_195 N,k_196 N,k_197 N] []
def A_s_l2Sym:=an [] [(0,⟨[⟨3,.val,(.int .i64)⟩],[],[2,3,15,16,17,18,19,20,21,22,23,24,25]⟩)] [⟨2,.val,.bool⟩]
theorem c_s_l2Sym (N:Nat):Ctr Tryz.prog Vp 145 ⟨[.str],[.bool],s_l2Sym N⟩ :=
 mk_ctr (E:=E_s_l2Sym N) (A:=A_s_l2Sym) (N:=N) (pl:=[⟨0,.val,.str⟩]) ⟨tabP_ok,lkF (k_52 N) (c_s_l1In N) (lkF (k_195 N) (c_s_l2Digit N) (lkF (k_196 N) (c_s_l2Sign N) (lkF (k_197 N) (c_s_ReadDec N) lk0))),lk0,nI⟩ hmO Tryz.func145 (by kernel_rfl) (F:=s_l2Sym N) (funext fun x=>by kernel_rfl)
noncomputable def E_s_l3In (N:Nat):=cz 18 [] [] []
def A_s_l3In:=an [] [(0,⟨[⟨5,.val,(.int .i64)⟩],[],[4,5,6,7,8,9,10,11,12,13,14,15,16,17]⟩)] [⟨4,.val,.bool⟩]
theorem c_s_l3In (N:Nat):Ctr Tryz.prog Vp 34 ⟨[(.sl .lend .str),.str],[.bool],s_l3In N⟩ :=
 mk_ctr (E:=E_s_l3In N) (A:=A_s_l3In) (N:=N) (pl:=[⟨0,.val,(.sl .lend .str)⟩,⟨1,.val,.str⟩]) ⟨tabP_ok,lk0,lk0,nI⟩ hmO Tryz.func34 (by kernel_rfl) (F:=s_l3In N) (funext fun x=>by kernel_rfl)
abbrev k_34 (N:Nat):Nat×Fn:=(34,⟨[(.sl .lend .str),.str],[.bool],s_l3In N⟩)
noncomputable def E_s_l3Word (N:Nat):=cz 6 [(3,.str)] [k_34 N] []
def A_s_l3Word:=an [] [] [⟨2,.val,.bool⟩]
theorem c_s_l3Word (N:Nat):Ctr Tryz.prog Vp 146 ⟨[.str],[.bool],s_l3Word N⟩ :=
 mk_ctr (E:=E_s_l3Word N) (A:=A_s_l3Word) (N:=N) (pl:=[⟨0,.val,.str⟩]) ⟨tabP_ok,lkF (k_34 N) (c_s_l3In N) lk0,lk0,nI⟩ hmO Tryz.func146 (by kernel_rfl) (F:=s_l3Word N) (funext fun x=>by kernel_rfl)
noncomputable def E_s_Arity (N:Nat):=cz 24 [] [] []
def A_s_Arity:=an [(4,([⟨4,.val,.bool⟩],[4,6,7,8,9,10,11])),(12,([⟨12,.val,.bool⟩],[12,14,15,16,17,18,19,20,21]))] [] [⟨2,.val,(.int .i64)⟩]
theorem c_s_Arity (N:Nat):Ctr Tryz.prog Vp 147 ⟨[.str],[(.int .i64)],s_Arity N⟩ :=
 mk_ctr (E:=E_s_Arity N) (A:=A_s_Arity) (N:=N) (pl:=[⟨0,.val,.str⟩]) ⟨tabP_ok,lk0,lk0,nI⟩ hmO Tryz.func147 (by kernel_rfl) (F:=s_Arity N) (funext fun x=>by kernel_rfl)
abbrev k_145 (N:Nat):Nat×Fn:=(145,⟨[.str],[.bool],s_l2Sym N⟩)
abbrev k_146 (N:Nat):Nat×Fn:=(146,⟨[.str],[.bool],s_l3Word N⟩)
abbrev k_147 (N:Nat):Nat×Fn:=(147,⟨[.str],[(.int .i64)],s_Arity N⟩)
noncomputable def E_s_IsName (N:Nat):=cz 19 [] [k_145 N,k_146 N,k_147 N] []
def A_s_IsName:=an [] [] [⟨2,.val,.bool⟩]
theorem c_s_IsName (N:Nat):Ctr Tryz.prog Vp 94 ⟨[.str],[.bool],s_IsName N⟩ :=
 mk_ctr (E:=E_s_IsName N) (A:=A_s_IsName) (N:=N) (pl:=[⟨0,.val,.str⟩]) ⟨tabP_ok,lkF (k_145 N) (c_s_l2Sym N) (lkF (k_146 N) (c_s_l3Word N) (lkF (k_147 N) (c_s_Arity N) lk0)),lk0,nI⟩ hmO Tryz.func94 (by kernel_rfl) (F:=s_IsName N) (funext fun x=>by kernel_rfl)
noncomputable def E_s_l6Cell (N:Nat):=cz 24 [] [] []
def A_s_l6Cell:=an [] [] [⟨6,.val,.bool⟩]
theorem c_s_l6Cell (N:Nat):Ctr Tryz.prog Vp 151 ⟨[(.sl .lend t64l),(.int .i64),(.int .i64)],[.bool],s_l6Cell N⟩ :=
 mk_ctr (E:=E_s_l6Cell N) (A:=A_s_l6Cell) (N:=N) (pl:=[⟨0,.val,(.sl .lend t64l)⟩,⟨1,.val,(.int .i64)⟩,⟨2,.val,(.int .i64)⟩]) ⟨tabP_ok,lk0,lk0,nI⟩ hmO Tryz.func151 (by kernel_rfl) (F:=s_l6Cell N) (funext fun x=>by kernel_rfl)
abbrev k_151 (N:Nat):Nat×Fn:=(151,⟨[(.sl .lend t64l),(.int .i64),(.int .i64)],[.bool],s_l6Cell N⟩)
noncomputable def E_s_ValueOk (N:Nat):=cz 58 [] [k_52 N,k_145 N,k_151 N] []
def A_s_ValueOk:=an [] [] [⟨4,.val,.bool⟩]
theorem c_s_ValueOk (N:Nat):Ctr Tryz.prog Vp 106 ⟨[(.sl .lend t64l),t103o],[.bool],s_ValueOk N⟩ :=
 mk_ctr (E:=E_s_ValueOk N) (A:=A_s_ValueOk) (N:=N) (pl:=[⟨0,.val,(.sl .lend t64l)⟩,⟨1,.val,t103o⟩]) ⟨tabP_ok,lkF (k_52 N) (c_s_l1In N) (lkF (k_145 N) (c_s_l2Sym N) (lkF (k_151 N) (c_s_l6Cell N) lk0)),lk0,nI⟩ hmO Tryz.func106 (by kernel_rfl) (F:=s_ValueOk N) (funext fun x=>by kernel_rfl)
noncomputable def E_s_l6Points (N:Nat):=cz 6 [] [k_52 N] []
def A_s_l6Points:=an [] [] [⟨2,.val,.bool⟩]
theorem c_s_l6Points (N:Nat):Ctr Tryz.prog Vp 193 ⟨[t103o],[.bool],s_l6Points N⟩ :=
 mk_ctr (E:=E_s_l6Points N) (A:=A_s_l6Points) (N:=N) (pl:=[⟨0,.val,t103o⟩]) ⟨tabP_ok,lkF (k_52 N) (c_s_l1In N) lk0,lk0,nI⟩ hmO Tryz.func193 (by kernel_rfl) (F:=s_l6Points N) (funext fun x=>by kernel_rfl)
abbrev k_94 (N:Nat):Nat×Fn:=(94,⟨[.str],[.bool],s_IsName N⟩)
abbrev k_106 (N:Nat):Nat×Fn:=(106,⟨[(.sl .lend t64l),t103o],[.bool],s_ValueOk N⟩)
abbrev k_193 (N:Nat):Nat×Fn:=(193,⟨[t103o],[.bool],s_l6Points N⟩)
noncomputable def E_s_l6CellOk (N:Nat):=cz 144 [] [k_52 N,k_94 N,k_106 N,k_193 N] []
def A_s_l6CellOk:=an [] [(0,⟨[⟨5,.box false,t64l⟩,⟨6,.val,(.int .i64)⟩],[⟨5,.box false,t64l⟩],[4,6,12,13,14,15,16,17,18,19,20,21,22,23,24,25,26,27,28,29,30,31,32,33,34,35,36,37,38,39,40,41,42,43,44,45,46,47,48,49]⟩),(3,⟨[⟨5,.box false,t64l⟩,⟨7,.val,(.int .i64)⟩],[⟨5,.box false,t64l⟩],[4,7,81,82,83,84,85,86,87,88,89,90,91,92,93,94]⟩)] [⟨4,.val,.bool⟩]
theorem c_s_l6CellOk (N:Nat):Ctr Tryz.prog Vp 142 ⟨[(.sl .lend t64l),(.int .i64)],[.bool],s_l6CellOk N⟩ :=
 mk_ctr (E:=E_s_l6CellOk N) (A:=A_s_l6CellOk) (N:=N) (pl:=[⟨0,.val,(.sl .lend t64l)⟩,⟨1,.val,(.int .i64)⟩]) ⟨tabP_ok,lkF (k_52 N) (c_s_l1In N) (lkF (k_94 N) (c_s_IsName N) (lkF (k_106 N) (c_s_ValueOk N) (lkF (k_193 N) (c_s_l6Points N) lk0))),lk0,nI⟩ hmO Tryz.func142 (by kernel_rfl) (F:=s_l6CellOk N) (funext fun x=>by kernel_rfl)
abbrev k_142 (N:Nat):Nat×Fn:=(142,⟨[(.sl .lend t64l),(.int .i64)],[.bool],s_l6CellOk N⟩)
noncomputable def E_s_HeapOk (N:Nat):=cz 17 [] [k_142 N] []
def A_s_HeapOk:=an [] [(0,⟨[⟨3,.val,(.int .i64)⟩],[],[2,3,7,8,9,10,11,12,13,14,15,16]⟩)] [⟨2,.val,.bool⟩]
theorem c_s_HeapOk (N:Nat):Ctr Tryz.prog Vp 91 ⟨[(.sl .lend t64l)],[.bool],s_HeapOk N⟩ :=
 mk_ctr (E:=E_s_HeapOk N) (A:=A_s_HeapOk) (N:=N) (pl:=[⟨0,.val,(.sl .lend t64l)⟩]) ⟨tabP_ok,lkF (k_142 N) (c_s_l6CellOk N) lk0,lk0,nI⟩ hmO Tryz.func91 (by kernel_rfl) (F:=s_HeapOk N) (funext fun x=>by kernel_rfl)
noncomputable def E_s_l3Names (N:Nat):=cz 32 [] [k_34 N,k_94 N] []
def A_s_l3Names:=an [] [(0,⟨[⟨5,.val,(.int .i64)⟩],[],[4,5,10,11,12,13,14,15,16,17,18,19,20,21,22,23,24,25,26,27,28,29,30,31]⟩)] [⟨4,.val,.bool⟩]
theorem c_s_l3Names (N:Nat):Ctr Tryz.prog Vp 143 ⟨[(.sl .lend .str),(.int .i64)],[.bool],s_l3Names N⟩ :=
 mk_ctr (E:=E_s_l3Names N) (A:=A_s_l3Names) (N:=N) (pl:=[⟨0,.val,(.sl .lend .str)⟩,⟨1,.val,(.int .i64)⟩]) ⟨tabP_ok,lkF (k_34 N) (c_s_l3In N) (lkF (k_94 N) (c_s_IsName N) lk0),lk0,nI⟩ hmO Tryz.func143 (by kernel_rfl) (F:=s_l3Names N) (funext fun x=>by kernel_rfl)
abbrev k_143 (N:Nat):Nat×Fn:=(143,⟨[(.sl .lend .str),(.int .i64)],[.bool],s_l3Names N⟩)
noncomputable def E_s_l8InstOk (N:Nat):=cz 192 [(100,.str),(145,.str),(190,.str),(191,.str)] [k_34 N,k_52 N,k_94 N,k_106 N,k_143 N] []
def A_s_l8InstOk:An:={ join:=look [],loop:=look [(0,⟨[⟨6,.val,(.int .i64)⟩],[],[4,6,72,73,74,75,76,77,78,79,80,81,82,83,84,85,86,87,88,89,90,91,92,93,94,95,96]⟩),(2,⟨[⟨7,.own false,(.sl .own .str)⟩,⟨8,.val,(.int .i64)⟩],[],[4,7,8,9,101,102,103,104,105,106,107,108,109,110,111,112,113,114,115,116,117,118,119,120,121,122,123,124,125,126,127,128,129,130,131,132,133,134,135,136,137,138,139,140,141,142,143,144,145,146]⟩),(4,⟨[⟨10,.own false,(.sl .own .str)⟩,⟨11,.val,(.int .i64)⟩],[],[4,10,11,148,149,150,151,152,153,154,155,156,157,158,159,160,161,162,163,164,165,166,167,168,169,170,171,172,173,174,175,176,177,178,179,180,181,182,183,184,185,186,187,188,189,190,191]⟩)],ret:=[⟨4,.val,.bool⟩],frz:=look [(1,2),(2,5)] }
theorem c_s_l8InstOk (N:Nat):Ctr Tryz.prog Vp 92 ⟨[t26l,(.int .i64)],[.bool],s_l8InstOk N⟩ :=
 mk_ctr (E:=E_s_l8InstOk N) (A:=A_s_l8InstOk) (N:=N) (pl:=[⟨0,.val,t26l⟩,⟨1,.val,(.int .i64)⟩]) ⟨tabP_ok,lkF (k_34 N) (c_s_l3In N) (lkF (k_52 N) (c_s_l1In N) (lkF (k_94 N) (c_s_IsName N) (lkF (k_106 N) (c_s_ValueOk N) (lkF (k_143 N) (c_s_l3Names N) lk0)))),lk0,nI⟩ hmO Tryz.func92 (by kernel_rfl) (F:=s_l8InstOk N) (funext fun x=>by kernel_rfl)
noncomputable def E_s_l3Prim (N:Nat):=cz 91 [] [k_52 N,k_94 N,k_147 N] []
def A_s_l3Prim:=an [] [] [⟨2,.val,.bool⟩]
theorem c_s_l3Prim (N:Nat):Ctr Tryz.prog Vp 194 ⟨[t180l],[.bool],s_l3Prim N⟩ :=
 mk_ctr (E:=E_s_l3Prim N) (A:=A_s_l3Prim) (N:=N) (pl:=[⟨0,.val,t180l⟩]) ⟨tabP_ok,lkF (k_52 N) (c_s_l1In N) (lkF (k_94 N) (c_s_IsName N) (lkF (k_147 N) (c_s_Arity N) lk0)),lk0,nI⟩ hmO Tryz.func194 (by kernel_rfl) (F:=s_l3Prim N) (funext fun x=>by kernel_rfl)
abbrev k_194 (N:Nat):Nat×Fn:=(194,⟨[t180l],[.bool],s_l3Prim N⟩)
noncomputable def E_s_l3Node (N:Nat):=cz 190 [] [k_52 N,k_94 N,k_143 N,k_145 N,k_194 N] []
def A_s_l3Node:=an [] [] [⟨2,.val,.bool⟩]
theorem c_s_l3Node (N:Nat):Ctr Tryz.prog Vp 144 ⟨[t180l],[.bool],s_l3Node N⟩ :=
 mk_ctr (E:=E_s_l3Node N) (A:=A_s_l3Node) (N:=N) (pl:=[⟨0,.val,t180l⟩]) ⟨tabP_ok,lkF (k_52 N) (c_s_l1In N) (lkF (k_94 N) (c_s_IsName N) (lkF (k_143 N) (c_s_l3Names N) (lkF (k_145 N) (c_s_l2Sym N) (lkF (k_194 N) (c_s_l3Prim N) lk0)))),lk0,nI⟩ hmO Tryz.func144 (by kernel_rfl) (F:=s_l3Node N) (funext fun x=>by kernel_rfl)
abbrev k_144 (N:Nat):Nat×Fn:=(144,⟨[t180l],[.bool],s_l3Node N⟩)
noncomputable def E_s_ProgOk (N:Nat):=cz 87 [(25,(.int .i64))] [k_52 N,k_144 N] []
def A_s_ProgOk:=an [] [(2,⟨[⟨1,.box false,t165l⟩,⟨3,.own false,(.sl .own (.int .i64))⟩,⟨5,.val,(.int .i64)⟩],[⟨1,.box false,t165l⟩,⟨3,.own false,(.sl .own (.int .i64))⟩],[2,5,6,40,41,42,43,44,45,46,47,48,49,50,51,52,53,54,55,56,57,58,59,60,61,62,63,64,65,66,67,68,69,70,71,72,73,74]⟩),(0,⟨[⟨1,.box false,t165l⟩,⟨3,.own false,(.sl .own (.int .i64))⟩,⟨4,.val,(.int .i64)⟩],[⟨3,.own false,(.sl .own (.int .i64))⟩],[2,4,5,6,26,27,28,29,30,31,32,33,34,35,36,37,38,39,40,41,42,43,44,45,46,47,48,49,50,51,52,53,54,55,56,57,58,59,60,61,62,63,64,65,66,67,68,69,70,71,72,73,74]⟩),(4,⟨[⟨3,.own false,(.sl .own (.int .i64))⟩,⟨7,.val,(.int .i64)⟩],[],[2,7,75,76,77,78,79,80,81,82,83,84,85,86]⟩)] [⟨2,.val,.bool⟩]
theorem c_s_ProgOk (N:Nat):Ctr Tryz.prog Vp 93 ⟨[t165l],[.bool],s_ProgOk N⟩ :=
 mk_ctr (E:=E_s_ProgOk N) (A:=A_s_ProgOk) (N:=N) (pl:=[⟨0,.val,t165l⟩]) ⟨tabP_ok,lkF (k_52 N) (c_s_l1In N) (lkF (k_144 N) (c_s_l3Node N) lk0),lk0,nI⟩ hmO Tryz.func93 (by kernel_rfl) (F:=s_ProgOk N) (funext fun x=>by kernel_rfl)
abbrev k_91 (N:Nat):Nat×Fn:=(91,⟨[(.sl .lend t64l)],[.bool],s_HeapOk N⟩)
abbrev k_92 (N:Nat):Nat×Fn:=(92,⟨[t26l,(.int .i64)],[.bool],s_l8InstOk N⟩)
abbrev k_93 (N:Nat):Nat×Fn:=(93,⟨[t165l],[.bool],s_ProgOk N⟩)
noncomputable def E_s_SysOk (N:Nat):=cz 130 [] [k_52 N,k_91 N,k_92 N,k_93 N] []
def A_s_SysOk:=an [] [(0,⟨[⟨1,.box false,t26l⟩,⟨3,.val,(.int .i64)⟩],[⟨1,.box false,t26l⟩],[2,3,30,31,32,33,34,35,36,37,38,39,40]⟩),(2,⟨[⟨1,.box false,t26l⟩,⟨4,.val,(.int .i64)⟩],[⟨1,.box false,t26l⟩],[2,4,41,42,43,44,45,46,47,48,49,50,51,52,53,54,55,56,57,58,59,60,61,62,63,64,65,66,67,68,69,70,71,72,73,74,75,76]⟩),(4,⟨[⟨1,.box false,t26l⟩,⟨5,.val,(.int .i64)⟩],[],[2,5,6,77,78,79,80,81,82,83,84,85,86,87,88,89,90,91,92,93,94,95,96,97,98,99,100,101,102,103,104,105,106,107,108,109,110,111,112,113,114,115,116,117,118,119,120,121,122,123,124,125,126,127,128,129]⟩)] [⟨2,.val,.bool⟩]
theorem c_s_SysOk (N:Nat):Ctr Tryz.prog Vp 51 ⟨[t26l],[.bool],s_SysOk N⟩ :=
 mk_ctr (E:=E_s_SysOk N) (A:=A_s_SysOk) (N:=N) (pl:=[⟨0,.val,t26l⟩]) ⟨tabP_ok,lkF (k_52 N) (c_s_l1In N) (lkF (k_91 N) (c_s_HeapOk N) (lkF (k_92 N) (c_s_l8InstOk N) (lkF (k_93 N) (c_s_ProgOk N) lk0))),lk0,nI⟩ hmO Tryz.func51 (by kernel_rfl) (F:=s_SysOk N) (funext fun x=>by kernel_rfl)
noncomputable def E_s_l11Many (N:Nat):=cz 31 [] [] []
def A_s_l11Many:=an [] [] [⟨2,.val,.bool⟩]
theorem c_s_l11Many (N:Nat):Ctr Tryz.prog Vp 95 ⟨[t75l],[.bool],s_l11Many N⟩ :=
 mk_ctr (E:=E_s_l11Many N) (A:=A_s_l11Many) (N:=N) (pl:=[⟨0,.val,t75l⟩]) ⟨tabP_ok,lk0,lk0,nI⟩ hmO Tryz.func95 (by kernel_rfl) (F:=s_l11Many N) (funext fun x=>by kernel_rfl)
noncomputable def E_s_l11TypeNames (N:Nat):=cz 21 [(18,.str),(19,.str)] [] []
def A_s_l11TypeNames:=an [] [(0,⟨[⟨3,.own false,(.sl .own .str)⟩,⟨4,.val,(.int .i64)⟩],[⟨3,.own false,(.sl .own .str)⟩],[3,4,6,7,8,9,10,11,12,13,14,15,16,17,18,19]⟩)] [⟨2,.own false,(.sl .own .str)⟩]
theorem c_s_l11TypeNames (N:Nat):Ctr Tryz.prog Vp 99 ⟨[(.sl .lend (.pair .str (.pair (.int .i64) .unit)))],[(.sl .own .str)],s_l11TypeNames N⟩ :=
 mk_ctr (E:=E_s_l11TypeNames N) (A:=A_s_l11TypeNames) (N:=N) (pl:=[⟨0,.val,(.sl .lend (.pair .str (.pair (.int .i64) .unit)))⟩]) ⟨tabP_ok,lk0,lk0,nI⟩ hmO Tryz.func99 (by kernel_rfl) (F:=s_l11TypeNames N) (funext fun x=>by kernel_rfl)
noncomputable def E_s_l11DefNames (N:Nat):=cz 21 [(18,.str),(19,.str)] [] []
def A_s_l11DefNames:=an [] [(0,⟨[⟨3,.own false,(.sl .own .str)⟩,⟨4,.val,(.int .i64)⟩],[⟨3,.own false,(.sl .own .str)⟩],[3,4,6,7,8,9,10,11,12,13,14,15,16,17,18,19]⟩)] [⟨2,.own false,(.sl .own .str)⟩]
theorem c_s_l11DefNames (N:Nat):Ctr Tryz.prog Vp 100 ⟨[(.sl .lend t188l)],[(.sl .own .str)],s_l11DefNames N⟩ :=
 mk_ctr (E:=E_s_l11DefNames N) (A:=A_s_l11DefNames) (N:=N) (pl:=[⟨0,.val,(.sl .lend t188l)⟩]) ⟨tabP_ok,lk0,lk0,nI⟩ hmO Tryz.func100 (by kernel_rfl) (F:=s_l11DefNames N) (funext fun x=>by kernel_rfl)
noncomputable def E_s_l11Twice (N:Nat):=cz 18 [] [k_34 N] []
def A_s_l11Twice:=an [] [(0,⟨[⟨3,.val,(.int .i64)⟩],[],[2,3,4,5,6,7,8,9,10,11,12,13,14,15,16,17]⟩)] [⟨2,.val,.bool⟩]
theorem c_s_l11Twice (N:Nat):Ctr Tryz.prog Vp 148 ⟨[(.sl .lend .str)],[.bool],s_l11Twice N⟩ :=
 mk_ctr (E:=E_s_l11Twice N) (A:=A_s_l11Twice) (N:=N) (pl:=[⟨0,.val,(.sl .lend .str)⟩]) ⟨tabP_ok,lkF (k_34 N) (c_s_l3In N) lk0,lk0,nI⟩ hmO Tryz.func148 (by kernel_rfl) (F:=s_l11Twice N) (funext fun x=>by kernel_rfl)
abbrev k_99 (N:Nat):Nat×Fn:=(99,⟨[(.sl .lend (.pair .str (.pair (.int .i64) .unit)))],[(.sl .own .str)],s_l11TypeNames N⟩)
abbrev k_100 (N:Nat):Nat×Fn:=(100,⟨[(.sl .lend t188l)],[(.sl .own .str)],s_l11DefNames N⟩)
abbrev k_148 (N:Nat):Nat×Fn:=(148,⟨[(.sl .lend .str)],[.bool],s_l11Twice N⟩)
noncomputable def E_s_l11Dup (N:Nat):=cz 36 [] [k_34 N,k_99 N,k_100 N,k_148 N] []
def A_s_l11Dup:=an [] [] [⟨2,.val,.bool⟩]
theorem c_s_l11Dup (N:Nat):Ctr Tryz.prog Vp 96 ⟨[t75l],[.bool],s_l11Dup N⟩ :=
 mk_ctr (E:=E_s_l11Dup N) (A:=A_s_l11Dup) (N:=N) (pl:=[⟨0,.val,t75l⟩]) ⟨tabP_ok,lkF (k_34 N) (c_s_l3In N) (lkF (k_99 N) (c_s_l11TypeNames N) (lkF (k_100 N) (c_s_l11DefNames N) (lkF (k_148 N) (c_s_l11Twice N) lk0))),lk0,nI⟩ hmO Tryz.func96 (by kernel_rfl) (F:=s_l11Dup N) (funext fun x=>by kernel_rfl)
noncomputable def E_s_l11Lacks (N:Nat):=cz 40 [] [k_34 N,k_99 N,k_100 N] []
def A_s_l11Lacks:=an [] [(0,⟨[⟨1,.box false,t75l⟩,⟨3,.val,(.int .i64)⟩],[⟨1,.box false,t75l⟩],[2,3,5,6,7,8,9,10,11,12,13,14,15,16,17,18,19,20,21]⟩),(2,⟨[⟨1,.box false,t75l⟩,⟨4,.val,(.int .i64)⟩],[],[2,4,22,23,24,25,26,27,28,29,30,31,32,33,34,35,36,37,38,39]⟩)] [⟨2,.val,.bool⟩]
theorem c_s_l11Lacks (N:Nat):Ctr Tryz.prog Vp 97 ⟨[t75l],[.bool],s_l11Lacks N⟩ :=
 mk_ctr (E:=E_s_l11Lacks N) (A:=A_s_l11Lacks) (N:=N) (pl:=[⟨0,.val,t75l⟩]) ⟨tabP_ok,lkF (k_34 N) (c_s_l3In N) (lkF (k_99 N) (c_s_l11TypeNames N) (lkF (k_100 N) (c_s_l11DefNames N) lk0)),lk0,nI⟩ hmO Tryz.func97 (by kernel_rfl) (F:=s_l11Lacks N) (funext fun x=>by kernel_rfl)
noncomputable def E_s_l11All (N:Nat):=cz 16 [] [k_94 N] []
def A_s_l11All:=an [] [(0,⟨[⟨3,.val,(.int .i64)⟩],[],[2,3,4,5,6,7,8,9,10,11,12,13,14,15]⟩)] [⟨2,.val,.bool⟩]
theorem c_s_l11All (N:Nat):Ctr Tryz.prog Vp 98 ⟨[(.sl .lend .str)],[.bool],s_l11All N⟩ :=
 mk_ctr (E:=E_s_l11All N) (A:=A_s_l11All) (N:=N) (pl:=[⟨0,.val,(.sl .lend .str)⟩]) ⟨tabP_ok,lkF (k_94 N) (c_s_IsName N) lk0,lk0,nI⟩ hmO Tryz.func98 (by kernel_rfl) (F:=s_l11All N) (funext fun x=>by kernel_rfl)
abbrev k_95 (N:Nat):Nat×Fn:=(95,⟨[t75l],[.bool],s_l11Many N⟩)
abbrev k_96 (N:Nat):Nat×Fn:=(96,⟨[t75l],[.bool],s_l11Dup N⟩)
abbrev k_97 (N:Nat):Nat×Fn:=(97,⟨[t75l],[.bool],s_l11Lacks N⟩)
abbrev k_98 (N:Nat):Nat×Fn:=(98,⟨[(.sl .lend .str)],[.bool],s_l11All N⟩)
noncomputable def E_s_SrcOk (N:Nat):=cz 100 [] [k_52 N,k_93 N,k_94 N,k_95 N,k_96 N,k_97 N,k_98 N,k_99 N,k_100 N] []
def A_s_SrcOk:=an [] [(0,⟨[⟨1,.box false,t75l⟩,⟨3,.val,(.int .i64)⟩],[⟨1,.box false,t75l⟩],[2,3,55,56,57,58,59,60,61,62,63,64,65,66,67,68,69]⟩),(2,⟨[⟨1,.box false,t75l⟩,⟨4,.val,(.int .i64)⟩],[⟨1,.box false,t75l⟩],[2,4,70,71,72,73,74,75,76,77,78,79,80,81,82,83,84]⟩),(4,⟨[⟨1,.box false,t75l⟩,⟨5,.val,(.int .i64)⟩],[],[2,5,85,86,87,88,89,90,91,92,93,94,95,96,97,98,99]⟩)] [⟨2,.val,.bool⟩]
theorem c_s_SrcOk (N:Nat):Ctr Tryz.prog Vp 53 ⟨[t75l],[.bool],s_SrcOk N⟩ :=
 mk_ctr (E:=E_s_SrcOk N) (A:=A_s_SrcOk) (N:=N) (pl:=[⟨0,.val,t75l⟩]) ⟨tabP_ok,lkF (k_52 N) (c_s_l1In N) (lkF (k_93 N) (c_s_ProgOk N) (lkF (k_94 N) (c_s_IsName N) (lkF (k_95 N) (c_s_l11Many N) (lkF (k_96 N) (c_s_l11Dup N) (lkF (k_97 N) (c_s_l11Lacks N) (lkF (k_98 N) (c_s_l11All N) (lkF (k_99 N) (c_s_l11TypeNames N) (lkF (k_100 N) (c_s_l11DefNames N) lk0)))))))),lk0,nI⟩ hmO Tryz.func53 (by kernel_rfl) (F:=s_SrcOk N) (funext fun x=>by kernel_rfl)
noncomputable def E_s_l8Name (N:Nat):=cz 21 [] [] []
def A_s_l8Name:=an [] [(0,⟨[⟨2,.box false,t114l⟩,⟨5,.val,(.int .i64)⟩],[],[4,5,6,7,8,9,10,11,12,13,14,15,16,17,18,19,20]⟩)] [⟨4,.val,(.int .i64)⟩]
theorem c_s_l8Name (N:Nat):Ctr Tryz.prog Vp 54 ⟨[t114l,.str],[(.int .i64)],s_l8Name N⟩ :=
 mk_ctr (E:=E_s_l8Name N) (A:=A_s_l8Name) (N:=N) (pl:=[⟨0,.val,t114l⟩,⟨1,.val,.str⟩]) ⟨tabP_ok,lk0,lk0,nI⟩ hmO Tryz.func54 (by kernel_rfl) (F:=s_l8Name N) (funext fun x=>by kernel_rfl)
noncomputable def E_s_l12At (N:Nat):=cz 20 [] [] []
def A_s_l12At:=an [] [(0,⟨[⟨5,.val,(.int .i64)⟩],[],[4,5,6,7,8,9,10,11,12,13,14,15,16,17,18,19]⟩)] [⟨4,.val,(.int .i64)⟩]
theorem c_s_l12At (N:Nat):Ctr Tryz.prog Vp 149 ⟨[(.sl .lend t75l),.str],[(.int .i64)],s_l12At N⟩ :=
 mk_ctr (E:=E_s_l12At N) (A:=A_s_l12At) (N:=N) (pl:=[⟨0,.val,(.sl .lend t75l)⟩,⟨1,.val,.str⟩]) ⟨tabP_ok,lk0,lk0,nI⟩ hmO Tryz.func149 (by kernel_rfl) (F:=s_l12At N) (funext fun x=>by kernel_rfl)
abbrev k_53 (N:Nat):Nat×Fn:=(53,⟨[t75l],[.bool],s_SrcOk N⟩)
abbrev k_149 (N:Nat):Nat×Fn:=(149,⟨[(.sl .lend t75l),.str],[(.int .i64)],s_l12At N⟩)
noncomputable def E_s_l12Ok (N:Nat):=cz 50 [] [k_53 N,k_149 N] []
def A_s_l12Ok:=an [] [(2,⟨[⟨4,.val,(.int .i64)⟩],[],[2,4,29,30,31,32,33,34,35,36,37,38,39,40,41,42,43,44,45,46,47,48,49]⟩),(0,⟨[⟨3,.val,(.int .i64)⟩],[],[2,3,4,5,6,7,8,9,10,11,12,13,14,15,16,17,18,19,20,21,22,23,24,25,26,27,28,29,30,31,32,33,34,35,36,37,38,39,40,41,42,43,44,45,46,47,48,49]⟩)] [⟨2,.val,.bool⟩]
theorem c_s_l12Ok (N:Nat):Ctr Tryz.prog Vp 101 ⟨[(.sl .lend t75l)],[.bool],s_l12Ok N⟩ :=
 mk_ctr (E:=E_s_l12Ok N) (A:=A_s_l12Ok) (N:=N) (pl:=[⟨0,.val,(.sl .lend t75l)⟩]) ⟨tabP_ok,lkF (k_53 N) (c_s_SrcOk N) (lkF (k_149 N) (c_s_l12At N) lk0),lk0,nI⟩ hmO Tryz.func101 (by kernel_rfl) (F:=s_l12Ok N) (funext fun x=>by kernel_rfl)
noncomputable def E_s_l12All (N:Nat):=cz 19 [] [k_34 N] []
def A_s_l12All:=an [] [(0,⟨[⟨5,.val,(.int .i64)⟩],[],[4,5,6,7,8,9,10,11,12,13,14,15,16,17,18]⟩)] [⟨4,.val,.bool⟩]
theorem c_s_l12All (N:Nat):Ctr Tryz.prog Vp 150 ⟨[(.sl .lend .str),(.sl .lend .str)],[.bool],s_l12All N⟩ :=
 mk_ctr (E:=E_s_l12All N) (A:=A_s_l12All) (N:=N) (pl:=[⟨0,.val,(.sl .lend .str)⟩,⟨1,.val,(.sl .lend .str)⟩]) ⟨tabP_ok,lkF (k_34 N) (c_s_l3In N) lk0,lk0,nI⟩ hmO Tryz.func150 (by kernel_rfl) (F:=s_l12All N) (funext fun x=>by kernel_rfl)
abbrev k_150 (N:Nat):Nat×Fn:=(150,⟨[(.sl .lend .str),(.sl .lend .str)],[.bool],s_l12All N⟩)
noncomputable def E_s_l12Order (N:Nat):=cz 56 [(53,.str),(54,.str)] [k_34 N,k_150 N] []
def A_s_l12Order:=an [(46,([⟨4,.own false,(.sl .own .str)⟩,⟨5,.val,.str⟩],[5,47]))] [(2,⟨[⟨4,.own false,(.sl .own .str)⟩,⟨5,.val,.str⟩,⟨6,.val,(.int .i64)⟩],[⟨4,.own false,(.sl .own .str)⟩,⟨5,.val,.str⟩],[5,6,7,14,15,16,17,18,19,20,21,22,23,24,25,26,27,28,29,30,31,32,33,34,35,36,37,38,39,40,41,42,43,44,45,46,47]⟩),(0,⟨[⟨4,.own false,(.sl .own .str)⟩],[⟨4,.own false,(.sl .own .str)⟩],[2,3,4,5,6,7,9,10,11,12,13,14,15,16,17,18,19,20,21,22,23,24,25,26,27,28,29,30,31,32,33,34,35,36,37,38,39,40,41,42,43,44,45,46,47,48,49,50,51,52,53,54]⟩)] [⟨2,.own false,(.sl .own .str)⟩,⟨3,.val,.bool⟩]
theorem c_s_l12Order (N:Nat):CtrX Tryz.prog Vp 102 ⟨[.no],[(.sl .lend t75l)],[.val,.val],[(.sl .own .str),.bool],s_l12Order N⟩ :=
 mk_ctrX (E:=E_s_l12Order N) (A:=A_s_l12Order) (N:=N) (pl:=[⟨0,.val,(.sl .lend t75l)⟩]) (io:=[.no]) (ks:=[.val,.val]) ⟨tabP_ok,lkF (k_34 N) (c_s_l3In N) (lkF (k_150 N) (c_s_l12All N) lk0),lk0,nI⟩ hmO Tryz.func102 (by kernel_rfl) (F:=s_l12Order N) (funext fun x=>by kernel_rfl)
abbrev k_101 (N:Nat):Nat×Fn:=(101,⟨[(.sl .lend t75l)],[.bool],s_l12Ok N⟩)
abbrev k_102 (N:Nat):Nat×Fx:=(102,⟨[.no],[(.sl .lend t75l)],[.val,.val],[(.sl .own .str),.bool],s_l12Order N⟩)
noncomputable def E_s_Order (N:Nat):=cz 17 [] [k_101 N] [k_102 N]
def A_s_Order:=an [] [] [⟨2,.own false,(.sl .own .str)⟩,⟨3,.val,.bool⟩]
theorem c_s_Order (N:Nat):CtrX Tryz.prog Vp 55 ⟨[.no],[(.sl .lend t75l)],[.val,.val],[(.sl .own .str),.bool],s_Order N⟩ :=
 mk_ctrX (E:=E_s_Order N) (A:=A_s_Order) (N:=N) (pl:=[⟨0,.val,(.sl .lend t75l)⟩]) (io:=[.no]) (ks:=[.val,.val]) ⟨tabP_ok,lkF (k_101 N) (c_s_l12Ok N) lk0,lkX (k_102 N) (c_s_l12Order N) lk0,nI⟩ hmO Tryz.func55 (by kernel_rfl) (F:=s_Order N) (funext fun x=>by kernel_rfl)
noncomputable def E_s_l13Srcs (N:Nat):=cz 23 [(20,t75k),(21,t75k)] [] []
def A_s_l13Srcs:=an [] [(0,⟨[⟨1,.box false,t30k⟩,⟨3,.own false,(.sl .own t75k)⟩,⟨4,.val,(.int .i64)⟩],[⟨3,.own false,(.sl .own t75k)⟩],[3,4,6,7,8,9,10,11,12,13,14,15,16,17,18,19,20,21]⟩)] [⟨2,.own false,(.sl .own t75k)⟩]
theorem c_s_l13Srcs (N:Nat):Ctr Tryz.prog Vp 56 ⟨[t30k],[(.sl .own t75k)],s_l13Srcs N⟩ :=
 mk_ctr (E:=E_s_l13Srcs N) (A:=A_s_l13Srcs) (N:=N) (pl:=[⟨0,.val,t30k⟩]) ⟨tabP_ok,lk0,lk0,nI⟩ hmO Tryz.func56 (by kernel_rfl) (F:=s_l13Srcs N) (funext fun x=>by kernel_rfl)
noncomputable def E_s_l9At (N:Nat):=cz 32 [] [] []
def A_s_l9At:=an [] [] [⟨6,.val,.bool⟩]
theorem c_s_l9At (N:Nat):Ctr Tryz.prog Vp 103 ⟨[t26l,(.int .i64),(.int .i64)],[.bool],s_l9At N⟩ :=
 mk_ctr (E:=E_s_l9At N) (A:=A_s_l9At) (N:=N) (pl:=[⟨0,.val,t26l⟩,⟨1,.val,(.int .i64)⟩,⟨2,.val,(.int .i64)⟩]) ⟨tabP_ok,lk0,lk0,nI⟩ hmO Tryz.func103 (by kernel_rfl) (F:=s_l9At N) (funext fun x=>by kernel_rfl)
noncomputable def E_s_l9Env (N:Nat):=cz 30 [] [k_94 N,k_106 N] []
def A_s_l9Env:=an [] [(0,⟨[⟨2,.box false,t26l⟩,⟨5,.val,(.int .i64)⟩],[],[4,5,6,7,8,9,10,11,12,13,14,15,16,17,18,19,20,21,22,23,24,25,26,27,28,29]⟩)] [⟨4,.val,.bool⟩]
theorem c_s_l9Env (N:Nat):Ctr Tryz.prog Vp 104 ⟨[t26l,(.sl .lend t216o)],[.bool],s_l9Env N⟩ :=
 mk_ctr (E:=E_s_l9Env N) (A:=A_s_l9Env) (N:=N) (pl:=[⟨0,.val,t26l⟩,⟨1,.val,(.sl .lend t216o)⟩]) ⟨tabP_ok,lkF (k_94 N) (c_s_IsName N) (lkF (k_106 N) (c_s_ValueOk N) lk0),lk0,nI⟩ hmO Tryz.func104 (by kernel_rfl) (F:=s_l9Env N) (funext fun x=>by kernel_rfl)
abbrev k_103 (N:Nat):Nat×Fn:=(103,⟨[t26l,(.int .i64),(.int .i64)],[.bool],s_l9At N⟩)
abbrev k_104 (N:Nat):Nat×Fn:=(104,⟨[t26l,(.sl .lend t216o)],[.bool],s_l9Env N⟩)
noncomputable def E_s_l9Frame (N:Nat):=cz 69 [] [k_103 N,k_104 N,k_106 N] []
def A_s_l9Frame:An:={ join:=look [(51,([⟨6,.box false,t180l⟩,⟨51,.val,.bool⟩],[51,53])),(58,([⟨6,.box false,t180l⟩,⟨58,.val,.bool⟩],[58,60,61]))],loop:=look [(0,⟨[⟨5,.val,(.int .i64)⟩],[],[4,5,21,22,23,24,25,26,27,28,29,30,31,32,33,34,35,36]⟩)],ret:=[⟨4,.val,.bool⟩],frz:=look [(1,2),(3,3)] }
theorem c_s_l9Frame (N:Nat):Ctr Tryz.prog Vp 105 ⟨[t26l,t194l],[.bool],s_l9Frame N⟩ :=
 mk_ctr (E:=E_s_l9Frame N) (A:=A_s_l9Frame) (N:=N) (pl:=[⟨0,.val,t26l⟩,⟨1,.val,t194l⟩]) ⟨tabP_ok,lkF (k_103 N) (c_s_l9At N) (lkF (k_104 N) (c_s_l9Env N) (lkF (k_106 N) (c_s_ValueOk N) lk0)),lk0,nI⟩ hmO Tryz.func105 (by kernel_rfl) (F:=s_l9Frame N) (funext fun x=>by kernel_rfl)
abbrev k_51 (N:Nat):Nat×Fn:=(51,⟨[t26l],[.bool],s_SysOk N⟩)
abbrev k_105 (N:Nat):Nat×Fn:=(105,⟨[t26l,t194l],[.bool],s_l9Frame N⟩)
noncomputable def E_s_MachineOk (N:Nat):=cz 80 [] [k_51 N,k_52 N,k_103 N,k_104 N,k_105 N,k_106 N] []
def A_s_MachineOk:=an [] [(0,⟨[⟨2,.box false,t26l⟩,⟨3,.box false,t106l⟩,⟨5,.val,(.int .i64)⟩],[⟨2,.box false,t26l⟩,⟨3,.box false,t106l⟩],[4,5,37,38,39,40,41,42,43,44,45,46,47,48,49,50,51]⟩)] [⟨4,.val,.bool⟩]
theorem c_s_MachineOk (N:Nat):Ctr Tryz.prog Vp 57 ⟨[t26l,t106l],[.bool],s_MachineOk N⟩ :=
 mk_ctr (E:=E_s_MachineOk N) (A:=A_s_MachineOk) (N:=N) (pl:=[⟨0,.val,t26l⟩,⟨1,.val,t106l⟩]) ⟨tabP_ok,lkF (k_51 N) (c_s_SysOk N) (lkF (k_52 N) (c_s_l1In N) (lkF (k_103 N) (c_s_l9At N) (lkF (k_104 N) (c_s_l9Env N) (lkF (k_105 N) (c_s_l9Frame N) (lkF (k_106 N) (c_s_ValueOk N) lk0))))),lk0,nI⟩ hmO Tryz.func57 (by kernel_rfl) (F:=s_MachineOk N) (funext fun x=>by kernel_rfl)
abbrev k_54 (N:Nat):Nat×Fn:=(54,⟨[t114l,.str],[(.int .i64)],s_l8Name N⟩)
abbrev k_56 (N:Nat):Nat×Fn:=(56,⟨[t30k],[(.sl .own t75k)],s_l13Srcs N⟩)
abbrev k_57 (N:Nat):Nat×Fn:=(57,⟨[t26l,t106l],[.bool],s_MachineOk N⟩)
abbrev k_55 (N:Nat):Nat×Fx:=(55,⟨[.no],[(.sl .lend t75l)],[.val,.val],[(.sl .own .str),.bool],s_Order N⟩)
noncomputable def E_s_WorldOk (N:Nat):=cz 204 [] [k_51 N,k_52 N,k_53 N,k_54 N,k_56 N,k_57 N] [k_55 N]
def A_s_WorldOk:An:={ join:=look [],loop:=look [(2,⟨[⟨5,.val,(.int .i64)⟩],[],[2,5,6,114,115,116,117,118,119,120,121,122,123,124,125,126,127,128,129,130,131,132,133,134,135,136,137,138,139,140,141,142,143,144,145,146,147,148,149,150,151,152]⟩),(0,⟨[⟨3,.val,(.int .i64)⟩],[],[2,3,4,5,6,33,34,35,36,37,38,39,40,41,42,43,44,45,46,47,48,49,50,51,52,53,54,55,56,57,58,59,60,61,62,63,64,65,66,67,68,69,70,71,72,73,74,75,76,77,78,79,80,81,82,83,84,85,86,87,88,89,90,91,92,93,94,95,96,97,98,99,100,101,102,103,104,105,106,107,108,109,110,111,112,113,114,115,116,117,118,119,120,121,122,123,124,125,126,127,128,129,130,131,132,133,134,135,136,137,138,139,140,141,142,143,144,145,146,147,148,149,150,151,152]⟩),(4,⟨[⟨9,.val,(.int .i64)⟩],[],[2,9,10,161,162,163,164,165,166,167,168,169,170,171,172,173,174,175,176,177,178,179,180,181,182,183,184,185,186,187,188,189,190,191,192,193,194,195,196,197,198,199,200,201,202,203]⟩)],ret:=[⟨2,.val,.bool⟩],frz:=look [(1,1),(7,4)] }
theorem c_s_WorldOk_k (N:Nat):Ctr Tryz.prog Vp 26 ⟨[t30k],[.bool],s_WorldOk N⟩ :=
 mk_ctr (E:=E_s_WorldOk N) (A:=A_s_WorldOk) (N:=N) (pl:=[⟨0,.val,t30k⟩]) ⟨tabP_ok,lkF (k_51 N) (c_s_SysOk N) (lkF (k_52 N) (c_s_l1In N) (lkF (k_53 N) (c_s_SrcOk N) (lkF (k_54 N) (c_s_l8Name N) (lkF (k_56 N) (c_s_l13Srcs N) (lkF (k_57 N) (c_s_MachineOk N) lk0))))),lkX (k_55 N) (c_s_Order N) lk0,nI⟩ hmO Tryz.func26 (by kernel_rfl) (F:=s_WorldOk N) (funext fun x=>by kernel_rfl)
theorem c_s_WorldOk (N:Nat):Ctr Tryz.prog Vp 26 ⟨[t30l],[.bool],s_WorldOk N⟩ :=
 Ctr.lent (ps:=[t30l]) (rs:=[.bool]) (F:=s_WorldOk N) rfl (c_s_WorldOk_k N)
abbrev k_26 (N:Nat):Nat×Fn:=(26,⟨[t30l],[.bool],s_WorldOk N⟩)
noncomputable def E_l_toStringS (N:Nat):=cz 22 [(7,.str)] [] []
def A_l_toStringS:=an [] [(0,⟨[⟨3,.own false,(.sl .own .str)⟩,⟨4,.val,(.int .i64)⟩],[⟨3,.own false,(.sl .own .str)⟩],[4,8,9,10,11,12,13,14,15,16,17,18,19,20]⟩)] [⟨2,.own false,(.sl .own .str)⟩]
theorem c_l_toStringS (N:Nat):Ctr Tryz.prog Vp 61 ⟨[(.sl .lend .str)],[(.sl .own .str)],l_toStringS N⟩ :=
 mk_ctr (E:=E_l_toStringS N) (A:=A_l_toStringS) (N:=N) (pl:=[⟨0,.val,(.sl .lend .str)⟩]) ⟨tabP_ok,lk0,lk0,nI⟩ hmO Tryz.func61 (by kernel_rfl) (F:=l_toStringS N) (funext fun x=>by kernel_rfl)
noncomputable def E_l_toValue (N:Nat):=cz 14 [] [] []
def A_l_toValue:=an [] [] [⟨2,.box false,t103o⟩]
theorem c_l_toValue (N:Nat):Ctr Tryz.prog Vp 158 ⟨[t103o],[t103o],l_toValue N⟩ :=
 mk_ctr (E:=E_l_toValue N) (A:=A_l_toValue) (N:=N) (pl:=[⟨0,.val,t103o⟩]) ⟨tabP_ok,lk0,lk0,nI⟩ hmO Tryz.func158 (by kernel_rfl) (F:=l_toValue N) (funext fun x=>by kernel_rfl)
abbrev k_158 (N:Nat):Nat×Fn:=(158,⟨[t103o],[t103o],l_toValue N⟩)
noncomputable def E_l_toValueS (N:Nat):=cz 23 [(7,t103o)] [k_158 N] []
def A_l_toValueS:=an [] [(0,⟨[⟨3,.own false,(.sl .own t103o)⟩,⟨4,.val,(.int .i64)⟩],[⟨3,.own false,(.sl .own t103o)⟩],[4,8,9,10,11,12,13,14,15,16,17,18,19,20,21]⟩)] [⟨2,.own false,(.sl .own t103o)⟩]
theorem c_l_toValueS (N:Nat):Ctr Tryz.prog Vp 152 ⟨[(.sl .lend t103o)],[(.sl .own t103o)],l_toValueS N⟩ :=
 mk_ctr (E:=E_l_toValueS N) (A:=A_l_toValueS) (N:=N) (pl:=[⟨0,.val,(.sl .lend t103o)⟩]) ⟨tabP_ok,lkF (k_158 N) (c_l_toValue N) lk0,lk0,nI⟩ hmO Tryz.func152 (by kernel_rfl) (F:=l_toValueS N) (funext fun x=>by kernel_rfl)
abbrev k_61 (N:Nat):Nat×Fn:=(61,⟨[(.sl .lend .str)],[(.sl .own .str)],l_toStringS N⟩)
abbrev k_152 (N:Nat):Nat×Fn:=(152,⟨[(.sl .lend t103o)],[(.sl .own t103o)],l_toValueS N⟩)
noncomputable def E_l_toCell (N:Nat):=cz 25 [] [k_61 N,k_152 N] []
def A_l_toCell:=an [] [] [⟨2,.box false,t64o⟩]
theorem c_l_toCell (N:Nat):Ctr Tryz.prog Vp 107 ⟨[t64l],[t64o],l_toCell N⟩ :=
 mk_ctr (E:=E_l_toCell N) (A:=A_l_toCell) (N:=N) (pl:=[⟨0,.val,t64l⟩]) ⟨tabP_ok,lkF (k_61 N) (c_l_toStringS N) (lkF (k_152 N) (c_l_toValueS N) lk0),lk0,nI⟩ hmO Tryz.func107 (by kernel_rfl) (F:=l_toCell N) (funext fun x=>by kernel_rfl)
abbrev k_107 (N:Nat):Nat×Fn:=(107,⟨[t64l],[t64o],l_toCell N⟩)
noncomputable def E_l_toCellS (N:Nat):=cz 23 [(7,t64o)] [k_107 N] []
def A_l_toCellS:=an [] [(0,⟨[⟨3,.own false,(.sl .own t64o)⟩,⟨4,.val,(.int .i64)⟩],[⟨3,.own false,(.sl .own t64o)⟩],[4,8,9,10,11,12,13,14,15,16,17,18,19,20,21]⟩)] [⟨2,.own false,(.sl .own t64o)⟩]
theorem c_l_toCellS (N:Nat):Ctr Tryz.prog Vp 58 ⟨[(.sl .lend t64l)],[(.sl .own t64o)],l_toCellS N⟩ :=
 mk_ctr (E:=E_l_toCellS N) (A:=A_l_toCellS) (N:=N) (pl:=[⟨0,.val,(.sl .lend t64l)⟩]) ⟨tabP_ok,lkF (k_107 N) (c_l_toCell N) lk0,lk0,nI⟩ hmO Tryz.func58 (by kernel_rfl) (F:=l_toCellS N) (funext fun x=>by kernel_rfl)
noncomputable def E_l_toLink (N:Nat):=cz 14 [] [] []
def A_l_toLink:=an [] [] [⟨2,.box false,t228o⟩]
theorem c_l_toLink (N:Nat):Ctr Tryz.prog Vp 198 ⟨[t228o],[t228o],l_toLink N⟩ :=
 mk_ctr (E:=E_l_toLink N) (A:=A_l_toLink) (N:=N) (pl:=[⟨0,.val,t228o⟩]) ⟨tabP_ok,lk0,lk0,nI⟩ hmO Tryz.func198 (by kernel_rfl) (F:=l_toLink N) (funext fun x=>by kernel_rfl)
abbrev k_198 (N:Nat):Nat×Fn:=(198,⟨[t228o],[t228o],l_toLink N⟩)
noncomputable def E_l_toLinkS (N:Nat):=cz 23 [(7,t228o)] [k_198 N] []
def A_l_toLinkS:=an [] [(0,⟨[⟨3,.own false,(.sl .own t228o)⟩,⟨4,.val,(.int .i64)⟩],[⟨3,.own false,(.sl .own t228o)⟩],[4,8,9,10,11,12,13,14,15,16,17,18,19,20,21]⟩)] [⟨2,.own false,(.sl .own t228o)⟩]
theorem c_l_toLinkS (N:Nat):Ctr Tryz.prog Vp 153 ⟨[(.sl .lend t228o)],[(.sl .own t228o)],l_toLinkS N⟩ :=
 mk_ctr (E:=E_l_toLinkS N) (A:=A_l_toLinkS) (N:=N) (pl:=[⟨0,.val,(.sl .lend t228o)⟩]) ⟨tabP_ok,lkF (k_198 N) (c_l_toLink N) lk0,lk0,nI⟩ hmO Tryz.func153 (by kernel_rfl) (F:=l_toLinkS N) (funext fun x=>by kernel_rfl)
noncomputable def E_l_toType (N:Nat):=cz 11 [] [] []
def A_l_toType:=an [] [] [⟨2,.box false,(.pair .str (.pair (.int .i64) .unit))⟩]
theorem c_l_toType (N:Nat):Ctr Tryz.prog Vp 199 ⟨[(.pair .str (.pair (.int .i64) .unit))],[(.pair .str (.pair (.int .i64) .unit))],l_toType N⟩ :=
 mk_ctr (E:=E_l_toType N) (A:=A_l_toType) (N:=N) (pl:=[⟨0,.val,(.pair .str (.pair (.int .i64) .unit))⟩]) ⟨tabP_ok,lk0,lk0,nI⟩ hmO Tryz.func199 (by kernel_rfl) (F:=l_toType N) (funext fun x=>by kernel_rfl)
abbrev k_199 (N:Nat):Nat×Fn:=(199,⟨[(.pair .str (.pair (.int .i64) .unit))],[(.pair .str (.pair (.int .i64) .unit))],l_toType N⟩)
noncomputable def E_l_toTypeS (N:Nat):=cz 23 [(7,(.pair .str (.pair (.int .i64) .unit)))] [k_199 N] []
def A_l_toTypeS:=an [] [(0,⟨[⟨3,.own false,(.sl .own (.pair .str (.pair (.int .i64) .unit)))⟩,⟨4,.val,(.int .i64)⟩],[⟨3,.own false,(.sl .own (.pair .str (.pair (.int .i64) .unit)))⟩],[4,8,9,10,11,12,13,14,15,16,17,18,19,20,21]⟩)] [⟨2,.own false,(.sl .own (.pair .str (.pair (.int .i64) .unit)))⟩]
theorem c_l_toTypeS (N:Nat):Ctr Tryz.prog Vp 154 ⟨[(.sl .lend (.pair .str (.pair (.int .i64) .unit)))],[(.sl .own (.pair .str (.pair (.int .i64) .unit)))],l_toTypeS N⟩ :=
 mk_ctr (E:=E_l_toTypeS N) (A:=A_l_toTypeS) (N:=N) (pl:=[⟨0,.val,(.sl .lend (.pair .str (.pair (.int .i64) .unit)))⟩]) ⟨tabP_ok,lkF (k_199 N) (c_l_toType N) lk0,lk0,nI⟩ hmO Tryz.func154 (by kernel_rfl) (F:=l_toTypeS N) (funext fun x=>by kernel_rfl)
abbrev k_153 (N:Nat):Nat×Fn:=(153,⟨[(.sl .lend t228o)],[(.sl .own t228o)],l_toLinkS N⟩)
abbrev k_154 (N:Nat):Nat×Fn:=(154,⟨[(.sl .lend (.pair .str (.pair (.int .i64) .unit)))],[(.sl .own (.pair .str (.pair (.int .i64) .unit)))],l_toTypeS N⟩)
noncomputable def E_l_toInst (N:Nat):=cz 27 [] [k_61 N,k_152 N,k_153 N,k_154 N] []
def A_l_toInst:=an [] [] [⟨2,.box false,t114o⟩]
theorem c_l_toInst (N:Nat):Ctr Tryz.prog Vp 108 ⟨[t114l],[t114o],l_toInst N⟩ :=
 mk_ctr (E:=E_l_toInst N) (A:=A_l_toInst) (N:=N) (pl:=[⟨0,.val,t114l⟩]) ⟨tabP_ok,lkF (k_61 N) (c_l_toStringS N) (lkF (k_152 N) (c_l_toValueS N) (lkF (k_153 N) (c_l_toLinkS N) (lkF (k_154 N) (c_l_toTypeS N) lk0))),lk0,nI⟩ hmO Tryz.func108 (by kernel_rfl) (F:=l_toInst N) (funext fun x=>by kernel_rfl)
abbrev k_108 (N:Nat):Nat×Fn:=(108,⟨[t114l],[t114o],l_toInst N⟩)
noncomputable def E_l_toInstS (N:Nat):=cz 23 [(7,t114o)] [k_108 N] []
def A_l_toInstS:=an [] [(0,⟨[⟨3,.own false,(.sl .own t114o)⟩,⟨4,.val,(.int .i64)⟩],[⟨3,.own false,(.sl .own t114o)⟩],[4,8,9,10,11,12,13,14,15,16,17,18,19,20,21]⟩)] [⟨2,.own false,(.sl .own t114o)⟩]
theorem c_l_toInstS (N:Nat):Ctr Tryz.prog Vp 59 ⟨[(.sl .lend t114l)],[(.sl .own t114o)],l_toInstS N⟩ :=
 mk_ctr (E:=E_l_toInstS N) (A:=A_l_toInstS) (N:=N) (pl:=[⟨0,.val,(.sl .lend t114l)⟩]) ⟨tabP_ok,lkF (k_108 N) (c_l_toInst N) lk0,lk0,nI⟩ hmO Tryz.func59 (by kernel_rfl) (F:=l_toInstS N) (funext fun x=>by kernel_rfl)
noncomputable def E_l_toIntS (N:Nat):=cz 22 [(7,(.int .i64))] [] []
def A_l_toIntS:=an [] [(0,⟨[⟨3,.own false,(.sl .own (.int .i64))⟩,⟨4,.val,(.int .i64)⟩],[⟨3,.own false,(.sl .own (.int .i64))⟩],[4,8,9,10,11,12,13,14,15,16,17,18,19,20]⟩)] [⟨2,.own false,(.sl .own (.int .i64))⟩]
theorem c_l_toIntS (N:Nat):Ctr Tryz.prog Vp 228 ⟨[(.sl .lend (.int .i64))],[(.sl .own (.int .i64))],l_toIntS N⟩ :=
 mk_ctr (E:=E_l_toIntS N) (A:=A_l_toIntS) (N:=N) (pl:=[⟨0,.val,(.sl .lend (.int .i64))⟩]) ⟨tabP_ok,lk0,lk0,nI⟩ hmO Tryz.func228 (by kernel_rfl) (F:=l_toIntS N) (funext fun x=>by kernel_rfl)
abbrev k_228 (N:Nat):Nat×Fn:=(228,⟨[(.sl .lend (.int .i64))],[(.sl .own (.int .i64))],l_toIntS N⟩)
noncomputable def E_l_toNode (N:Nat):=cz 22 [] [k_61 N,k_228 N] []
def A_l_toNode:=an [] [] [⟨2,.box false,t180o⟩]
theorem c_l_toNode (N:Nat):Ctr Tryz.prog Vp 219 ⟨[t180l],[t180o],l_toNode N⟩ :=
 mk_ctr (E:=E_l_toNode N) (A:=A_l_toNode) (N:=N) (pl:=[⟨0,.val,t180l⟩]) ⟨tabP_ok,lkF (k_61 N) (c_l_toStringS N) (lkF (k_228 N) (c_l_toIntS N) lk0),lk0,nI⟩ hmO Tryz.func219 (by kernel_rfl) (F:=l_toNode N) (funext fun x=>by kernel_rfl)
abbrev k_219 (N:Nat):Nat×Fn:=(219,⟨[t180l],[t180o],l_toNode N⟩)
noncomputable def E_l_toNodeS (N:Nat):=cz 23 [(7,t180o)] [k_219 N] []
def A_l_toNodeS:=an [] [(0,⟨[⟨3,.own false,(.sl .own t180o)⟩,⟨4,.val,(.int .i64)⟩],[⟨3,.own false,(.sl .own t180o)⟩],[4,8,9,10,11,12,13,14,15,16,17,18,19,20,21]⟩)] [⟨2,.own false,(.sl .own t180o)⟩]
theorem c_l_toNodeS (N:Nat):Ctr Tryz.prog Vp 200 ⟨[(.sl .lend t180l)],[(.sl .own t180o)],l_toNodeS N⟩ :=
 mk_ctr (E:=E_l_toNodeS N) (A:=A_l_toNodeS) (N:=N) (pl:=[⟨0,.val,(.sl .lend t180l)⟩]) ⟨tabP_ok,lkF (k_219 N) (c_l_toNode N) lk0,lk0,nI⟩ hmO Tryz.func200 (by kernel_rfl) (F:=l_toNodeS N) (funext fun x=>by kernel_rfl)
abbrev k_200 (N:Nat):Nat×Fn:=(200,⟨[(.sl .lend t180l)],[(.sl .own t180o)],l_toNodeS N⟩)
noncomputable def E_l_toProg (N:Nat):=cz 12 [] [k_200 N] []
def A_l_toProg:=an [] [] [⟨2,.box false,t165o⟩]
theorem c_l_toProg (N:Nat):Ctr Tryz.prog Vp 155 ⟨[t165l],[t165o],l_toProg N⟩ :=
 mk_ctr (E:=E_l_toProg N) (A:=A_l_toProg) (N:=N) (pl:=[⟨0,.val,t165l⟩]) ⟨tabP_ok,lkF (k_200 N) (c_l_toNodeS N) lk0,lk0,nI⟩ hmO Tryz.func155 (by kernel_rfl) (F:=l_toProg N) (funext fun x=>by kernel_rfl)
abbrev k_155 (N:Nat):Nat×Fn:=(155,⟨[t165l],[t165o],l_toProg N⟩)
noncomputable def E_l_toUnit (N:Nat):=cz 12 [] [k_155 N] []
def A_l_toUnit:=an [] [] [⟨2,.box false,t167o⟩]
theorem c_l_toUnit (N:Nat):Ctr Tryz.prog Vp 109 ⟨[t167l],[t167o],l_toUnit N⟩ :=
 mk_ctr (E:=E_l_toUnit N) (A:=A_l_toUnit) (N:=N) (pl:=[⟨0,.val,t167l⟩]) ⟨tabP_ok,lkF (k_155 N) (c_l_toProg N) lk0,lk0,nI⟩ hmO Tryz.func109 (by kernel_rfl) (F:=l_toUnit N) (funext fun x=>by kernel_rfl)
abbrev k_109 (N:Nat):Nat×Fn:=(109,⟨[t167l],[t167o],l_toUnit N⟩)
noncomputable def E_l_toUnitS (N:Nat):=cz 23 [(7,t167o)] [k_109 N] []
def A_l_toUnitS:=an [] [(0,⟨[⟨3,.own false,(.sl .own t167o)⟩,⟨4,.val,(.int .i64)⟩],[⟨3,.own false,(.sl .own t167o)⟩],[4,8,9,10,11,12,13,14,15,16,17,18,19,20,21]⟩)] [⟨2,.own false,(.sl .own t167o)⟩]
theorem c_l_toUnitS (N:Nat):Ctr Tryz.prog Vp 60 ⟨[(.sl .lend t167l)],[(.sl .own t167o)],l_toUnitS N⟩ :=
 mk_ctr (E:=E_l_toUnitS N) (A:=A_l_toUnitS) (N:=N) (pl:=[⟨0,.val,(.sl .lend t167l)⟩]) ⟨tabP_ok,lkF (k_109 N) (c_l_toUnit N) lk0,lk0,nI⟩ hmO Tryz.func60 (by kernel_rfl) (F:=l_toUnitS N) (funext fun x=>by kernel_rfl)
abbrev k_58 (N:Nat):Nat×Fn:=(58,⟨[(.sl .lend t64l)],[(.sl .own t64o)],l_toCellS N⟩)
abbrev k_59 (N:Nat):Nat×Fn:=(59,⟨[(.sl .lend t114l)],[(.sl .own t114o)],l_toInstS N⟩)
abbrev k_60 (N:Nat):Nat×Fn:=(60,⟨[(.sl .lend t167l)],[(.sl .own t167o)],l_toUnitS N⟩)
noncomputable def E_l_toSys (N:Nat):=cz 21 [] [k_58 N,k_59 N,k_60 N,k_61 N] []
def A_l_toSys:=an [] [] [⟨2,.box false,t26o⟩]
theorem c_l_toSys (N:Nat):Ctr Tryz.prog Vp 27 ⟨[t26l],[t26o],l_toSys N⟩ :=
 mk_ctr (E:=E_l_toSys N) (A:=A_l_toSys) (N:=N) (pl:=[⟨0,.val,t26l⟩]) ⟨tabP_ok,lkF (k_58 N) (c_l_toCellS N) (lkF (k_59 N) (c_l_toInstS N) (lkF (k_60 N) (c_l_toUnitS N) (lkF (k_61 N) (c_l_toStringS N) lk0))),lk0,nI⟩ hmO Tryz.func27 (by kernel_rfl) (F:=l_toSys N) (funext fun x=>by kernel_rfl)
noncomputable def E_l_toDef (N:Nat):=cz 12 [] [k_155 N] []
def A_l_toDef:=an [] [] [⟨2,.box false,t188o⟩]
theorem c_l_toDef (N:Nat):Ctr Tryz.prog Vp 201 ⟨[t188l],[t188o],l_toDef N⟩ :=
 mk_ctr (E:=E_l_toDef N) (A:=A_l_toDef) (N:=N) (pl:=[⟨0,.val,t188l⟩]) ⟨tabP_ok,lkF (k_155 N) (c_l_toProg N) lk0,lk0,nI⟩ hmO Tryz.func201 (by kernel_rfl) (F:=l_toDef N) (funext fun x=>by kernel_rfl)
abbrev k_201 (N:Nat):Nat×Fn:=(201,⟨[t188l],[t188o],l_toDef N⟩)
noncomputable def E_l_toDefS (N:Nat):=cz 23 [(7,t188o)] [k_201 N] []
def A_l_toDefS:=an [] [(0,⟨[⟨3,.own false,(.sl .own t188o)⟩,⟨4,.val,(.int .i64)⟩],[⟨3,.own false,(.sl .own t188o)⟩],[4,8,9,10,11,12,13,14,15,16,17,18,19,20,21]⟩)] [⟨2,.own false,(.sl .own t188o)⟩]
theorem c_l_toDefS (N:Nat):Ctr Tryz.prog Vp 156 ⟨[(.sl .lend t188l)],[(.sl .own t188o)],l_toDefS N⟩ :=
 mk_ctr (E:=E_l_toDefS N) (A:=A_l_toDefS) (N:=N) (pl:=[⟨0,.val,(.sl .lend t188l)⟩]) ⟨tabP_ok,lkF (k_201 N) (c_l_toDef N) lk0,lk0,nI⟩ hmO Tryz.func156 (by kernel_rfl) (F:=l_toDefS N) (funext fun x=>by kernel_rfl)
abbrev k_156 (N:Nat):Nat×Fn:=(156,⟨[(.sl .lend t188l)],[(.sl .own t188o)],l_toDefS N⟩)
noncomputable def E_l_toSrc (N:Nat):=cz 28 [] [k_61 N,k_154 N,k_156 N] []
def A_l_toSrc:=an [] [] [⟨2,.box false,t75o⟩]
theorem c_l_toSrc (N:Nat):Ctr Tryz.prog Vp 110 ⟨[t75l],[t75o],l_toSrc N⟩ :=
 mk_ctr (E:=E_l_toSrc N) (A:=A_l_toSrc) (N:=N) (pl:=[⟨0,.val,t75l⟩]) ⟨tabP_ok,lkF (k_61 N) (c_l_toStringS N) (lkF (k_154 N) (c_l_toTypeS N) (lkF (k_156 N) (c_l_toDefS N) lk0)),lk0,nI⟩ hmO Tryz.func110 (by kernel_rfl) (F:=l_toSrc N) (funext fun x=>by kernel_rfl)
abbrev k_110 (N:Nat):Nat×Fn:=(110,⟨[t75l],[t75o],l_toSrc N⟩)
noncomputable def E_l_toEnt (N:Nat):=cz 15 [] [k_110 N] []
def A_l_toEnt:=an [] [] [⟨2,.box false,t77o⟩]
theorem c_l_toEnt (N:Nat):Ctr Tryz.prog Vp 62 ⟨[t77l],[t77o],l_toEnt N⟩ :=
 mk_ctr (E:=E_l_toEnt N) (A:=A_l_toEnt) (N:=N) (pl:=[⟨0,.val,t77l⟩]) ⟨tabP_ok,lkF (k_110 N) (c_l_toSrc N) lk0,lk0,nI⟩ hmO Tryz.func62 (by kernel_rfl) (F:=l_toEnt N) (funext fun x=>by kernel_rfl)
abbrev k_62 (N:Nat):Nat×Fn:=(62,⟨[t77l],[t77o],l_toEnt N⟩)
noncomputable def E_l_toEntS (N:Nat):=cz 23 [(7,t77o)] [k_62 N] []
def A_l_toEntS:=an [] [(0,⟨[⟨3,.own false,(.sl .own t77o)⟩,⟨4,.val,(.int .i64)⟩],[⟨3,.own false,(.sl .own t77o)⟩],[4,8,9,10,11,12,13,14,15,16,17,18,19,20,21]⟩)] [⟨2,.own false,(.sl .own t77o)⟩]
theorem c_l_toEntS (N:Nat):Ctr Tryz.prog Vp 28 ⟨[(.sl .lend t77l)],[(.sl .own t77o)],l_toEntS N⟩ :=
 mk_ctr (E:=E_l_toEntS N) (A:=A_l_toEntS) (N:=N) (pl:=[⟨0,.val,(.sl .lend t77l)⟩]) ⟨tabP_ok,lkF (k_62 N) (c_l_toEnt N) lk0,lk0,nI⟩ hmO Tryz.func28 (by kernel_rfl) (F:=l_toEntS N) (funext fun x=>by kernel_rfl)
noncomputable def E_l_toBind (N:Nat):=cz 12 [] [k_158 N] []
def A_l_toBind:=an [] [] [⟨2,.box false,t216o⟩]
theorem c_l_toBind (N:Nat):Ctr Tryz.prog Vp 202 ⟨[t216o],[t216o],l_toBind N⟩ :=
 mk_ctr (E:=E_l_toBind N) (A:=A_l_toBind) (N:=N) (pl:=[⟨0,.val,t216o⟩]) ⟨tabP_ok,lkF (k_158 N) (c_l_toValue N) lk0,lk0,nI⟩ hmO Tryz.func202 (by kernel_rfl) (F:=l_toBind N) (funext fun x=>by kernel_rfl)
abbrev k_202 (N:Nat):Nat×Fn:=(202,⟨[t216o],[t216o],l_toBind N⟩)
noncomputable def E_l_toBindS (N:Nat):=cz 23 [(7,t216o)] [k_202 N] []
def A_l_toBindS:=an [] [(0,⟨[⟨3,.own false,(.sl .own t216o)⟩,⟨4,.val,(.int .i64)⟩],[⟨3,.own false,(.sl .own t216o)⟩],[4,8,9,10,11,12,13,14,15,16,17,18,19,20,21]⟩)] [⟨2,.own false,(.sl .own t216o)⟩]
theorem c_l_toBindS (N:Nat):Ctr Tryz.prog Vp 157 ⟨[(.sl .lend t216o)],[(.sl .own t216o)],l_toBindS N⟩ :=
 mk_ctr (E:=E_l_toBindS N) (A:=A_l_toBindS) (N:=N) (pl:=[⟨0,.val,(.sl .lend t216o)⟩]) ⟨tabP_ok,lkF (k_202 N) (c_l_toBind N) lk0,lk0,nI⟩ hmO Tryz.func157 (by kernel_rfl) (F:=l_toBindS N) (funext fun x=>by kernel_rfl)
abbrev k_157 (N:Nat):Nat×Fn:=(157,⟨[(.sl .lend t216o)],[(.sl .own t216o)],l_toBindS N⟩)
noncomputable def E_l_toFrame (N:Nat):=cz 19 [] [k_152 N,k_157 N] []
def A_l_toFrame:=an [] [] [⟨2,.box false,t194o⟩]
theorem c_l_toFrame (N:Nat):Ctr Tryz.prog Vp 203 ⟨[t194l],[t194o],l_toFrame N⟩ :=
 mk_ctr (E:=E_l_toFrame N) (A:=A_l_toFrame) (N:=N) (pl:=[⟨0,.val,t194l⟩]) ⟨tabP_ok,lkF (k_152 N) (c_l_toValueS N) (lkF (k_157 N) (c_l_toBindS N) lk0),lk0,nI⟩ hmO Tryz.func203 (by kernel_rfl) (F:=l_toFrame N) (funext fun x=>by kernel_rfl)
abbrev k_203 (N:Nat):Nat×Fn:=(203,⟨[t194l],[t194o],l_toFrame N⟩)
noncomputable def E_l_toFrameS (N:Nat):=cz 23 [(7,t194o)] [k_203 N] []
def A_l_toFrameS:=an [] [(0,⟨[⟨3,.own false,(.sl .own t194o)⟩,⟨4,.val,(.int .i64)⟩],[⟨3,.own false,(.sl .own t194o)⟩],[4,8,9,10,11,12,13,14,15,16,17,18,19,20,21]⟩)] [⟨2,.own false,(.sl .own t194o)⟩]
theorem c_l_toFrameS (N:Nat):Ctr Tryz.prog Vp 159 ⟨[(.sl .lend t194l)],[(.sl .own t194o)],l_toFrameS N⟩ :=
 mk_ctr (E:=E_l_toFrameS N) (A:=A_l_toFrameS) (N:=N) (pl:=[⟨0,.val,(.sl .lend t194l)⟩]) ⟨tabP_ok,lkF (k_203 N) (c_l_toFrame N) lk0,lk0,nI⟩ hmO Tryz.func159 (by kernel_rfl) (F:=l_toFrameS N) (funext fun x=>by kernel_rfl)
abbrev k_159 (N:Nat):Nat×Fn:=(159,⟨[(.sl .lend t194l)],[(.sl .own t194o)],l_toFrameS N⟩)
noncomputable def E_l_toMachine (N:Nat):=cz 29 [] [k_157 N,k_158 N,k_159 N] []
def A_l_toMachine:=an [] [] [⟨2,.box false,t106o⟩]
theorem c_l_toMachine (N:Nat):Ctr Tryz.prog Vp 111 ⟨[t106l],[t106o],l_toMachine N⟩ :=
 mk_ctr (E:=E_l_toMachine N) (A:=A_l_toMachine) (N:=N) (pl:=[⟨0,.val,t106l⟩]) ⟨tabP_ok,lkF (k_157 N) (c_l_toBindS N) (lkF (k_158 N) (c_l_toValue N) (lkF (k_159 N) (c_l_toFrameS N) lk0)),lk0,nI⟩ hmO Tryz.func111 (by kernel_rfl) (F:=l_toMachine N) (funext fun x=>by kernel_rfl)
abbrev k_111 (N:Nat):Nat×Fn:=(111,⟨[t106l],[t106o],l_toMachine N⟩)
noncomputable def E_l_toTask (N:Nat):=cz 12 [] [k_111 N] []
def A_l_toTask:=an [] [] [⟨2,.box false,t108o⟩]
theorem c_l_toTask (N:Nat):Ctr Tryz.prog Vp 63 ⟨[t108l],[t108o],l_toTask N⟩ :=
 mk_ctr (E:=E_l_toTask N) (A:=A_l_toTask) (N:=N) (pl:=[⟨0,.val,t108l⟩]) ⟨tabP_ok,lkF (k_111 N) (c_l_toMachine N) lk0,lk0,nI⟩ hmO Tryz.func63 (by kernel_rfl) (F:=l_toTask N) (funext fun x=>by kernel_rfl)
abbrev k_63 (N:Nat):Nat×Fn:=(63,⟨[t108l],[t108o],l_toTask N⟩)
noncomputable def E_l_toTaskS (N:Nat):=cz 23 [(7,t108o)] [k_63 N] []
def A_l_toTaskS:=an [] [(0,⟨[⟨3,.own false,(.sl .own t108o)⟩,⟨4,.val,(.int .i64)⟩],[⟨3,.own false,(.sl .own t108o)⟩],[4,8,9,10,11,12,13,14,15,16,17,18,19,20,21]⟩)] [⟨2,.own false,(.sl .own t108o)⟩]
theorem c_l_toTaskS (N:Nat):Ctr Tryz.prog Vp 29 ⟨[(.sl .lend t108l)],[(.sl .own t108o)],l_toTaskS N⟩ :=
 mk_ctr (E:=E_l_toTaskS N) (A:=A_l_toTaskS) (N:=N) (pl:=[⟨0,.val,(.sl .lend t108l)⟩]) ⟨tabP_ok,lkF (k_63 N) (c_l_toTask N) lk0,lk0,nI⟩ hmO Tryz.func29 (by kernel_rfl) (F:=l_toTaskS N) (funext fun x=>by kernel_rfl)
abbrev k_27 (N:Nat):Nat×Fn:=(27,⟨[t26l],[t26o],l_toSys N⟩)
abbrev k_28 (N:Nat):Nat×Fn:=(28,⟨[(.sl .lend t77l)],[(.sl .own t77o)],l_toEntS N⟩)
abbrev k_29 (N:Nat):Nat×Fn:=(29,⟨[(.sl .lend t108l)],[(.sl .own t108o)],l_toTaskS N⟩)
noncomputable def E_l_toWorld (N:Nat):=cz 20 [] [k_27 N,k_28 N,k_29 N] []
def A_l_toWorld:=an [] [] [⟨2,.box false,t30o⟩]
theorem c_l_toWorld (N:Nat):Ctr Tryz.prog Vp 8 ⟨[t30l],[t30o],l_toWorld N⟩ :=
 mk_ctr (E:=E_l_toWorld N) (A:=A_l_toWorld) (N:=N) (pl:=[⟨0,.val,t30l⟩]) ⟨tabP_ok,lkF (k_27 N) (c_l_toSys N) (lkF (k_28 N) (c_l_toEntS N) (lkF (k_29 N) (c_l_toTaskS N) lk0)),lk0,nI⟩ hmO Tryz.func8 (by kernel_rfl) (F:=l_toWorld N) (funext fun x=>by kernel_rfl)
abbrev k_222 (N:Nat):Nat×Fn:=(222,⟨[.str,(.int .u8)],[(.int .i64)],g_strings_IndexByte N⟩)
noncomputable def E_i_isSymByte (N:Nat):=cz 22 [] [k_222 N] []
def A_i_isSymByte:=an [] [] [⟨2,.val,.bool⟩]
theorem c_i_isSymByte (N:Nat):Ctr Tryz.prog Vp 208 ⟨[(.int .u8)],[.bool],i_isSymByte N⟩ :=
 mk_ctr (E:=E_i_isSymByte N) (A:=A_i_isSymByte) (N:=N) (pl:=[⟨0,.val,(.int .u8)⟩]) ⟨tabP_ok,lkF (k_222 N) (c_g_strings_IndexByte N) lk0,lk0,nI⟩ hmO Tryz.func208 (by kernel_rfl) (F:=i_isSymByte N) (funext fun x=>by kernel_rfl)
abbrev k_64 (N:Nat):Nat×Fn:=(64,⟨[(.int .i64),(.int .i64),(.int .i64)],[.bool],i_inRange N⟩)
abbrev k_208 (N:Nat):Nat×Fn:=(208,⟨[(.int .u8)],[.bool],i_isSymByte N⟩)
abbrev k_209 (N:Nat):Nat×Fn:=(209,⟨[.str],[(.int .i64),.bool],i_ReadDec N⟩)
noncomputable def E_i_symOk (N:Nat):=cz 38 [] [k_64 N,k_208 N,k_209 N] []
def A_i_symOk:=an [] [(0,⟨[⟨3,.val,(.int .i64)⟩],[],[2,3,6,7,8,9,10,11,12,13,14,15,16]⟩)] [⟨2,.val,.bool⟩]
theorem c_i_symOk (N:Nat):Ctr Tryz.prog Vp 175 ⟨[.str],[.bool],i_symOk N⟩ :=
 mk_ctr (E:=E_i_symOk N) (A:=A_i_symOk) (N:=N) (pl:=[⟨0,.val,.str⟩]) ⟨tabP_ok,lkF (k_64 N) (c_i_inRange N) (lkF (k_208 N) (c_i_isSymByte N) (lkF (k_209 N) (c_i_ReadDec N) lk0)),lk0,nI⟩ hmO Tryz.func175 (by kernel_rfl) (F:=i_symOk N) (funext fun x=>by kernel_rfl)
abbrev k_220 (N:Nat):Nat×Fn:=(220,⟨[.str,.str],[.bool],g_strings_Contains N⟩)
noncomputable def E_i_isOneOf (N:Nat):=cz 21 [] [k_220 N] []
def A_i_isOneOf:=an [] [] [⟨4,.val,.bool⟩]
theorem c_i_isOneOf (N:Nat):Ctr Tryz.prog Vp 204 ⟨[.str,.str],[.bool],i_isOneOf N⟩ :=
 mk_ctr (E:=E_i_isOneOf N) (A:=A_i_isOneOf) (N:=N) (pl:=[⟨0,.val,.str⟩,⟨1,.val,.str⟩]) ⟨tabP_ok,lkF (k_220 N) (c_g_strings_Contains N) lk0,lk0,nI⟩ hmO Tryz.func204 (by kernel_rfl) (F:=i_isOneOf N) (funext fun x=>by kernel_rfl)
abbrev k_204 (N:Nat):Nat×Fn:=(204,⟨[.str,.str],[.bool],i_isOneOf N⟩)
noncomputable def E_i_Arity (N:Nat):=cz 12 [] [k_204 N] []
def A_i_Arity:=an [] [] [⟨2,.val,(.int .i64)⟩]
theorem c_i_Arity (N:Nat):Ctr Tryz.prog Vp 205 ⟨[.str],[(.int .i64)],i_Arity N⟩ :=
 mk_ctr (E:=E_i_Arity N) (A:=A_i_Arity) (N:=N) (pl:=[⟨0,.val,.str⟩]) ⟨tabP_ok,lkF (k_204 N) (c_i_isOneOf N) lk0,lk0,nI⟩ hmO Tryz.func205 (by kernel_rfl) (F:=i_Arity N) (funext fun x=>by kernel_rfl)
abbrev k_175 (N:Nat):Nat×Fn:=(175,⟨[.str],[.bool],i_symOk N⟩)
abbrev k_205 (N:Nat):Nat×Fn:=(205,⟨[.str],[(.int .i64)],i_Arity N⟩)
noncomputable def E_i_IsName (N:Nat):=cz 17 [] [k_175 N,k_204 N,k_205 N] []
def A_i_IsName:=an [] [] [⟨2,.val,.bool⟩]
theorem c_i_IsName (N:Nat):Ctr Tryz.prog Vp 163 ⟨[.str],[.bool],i_IsName N⟩ :=
 mk_ctr (E:=E_i_IsName N) (A:=A_i_IsName) (N:=N) (pl:=[⟨0,.val,.str⟩]) ⟨tabP_ok,lkF (k_175 N) (c_i_symOk N) (lkF (k_204 N) (c_i_isOneOf N) (lkF (k_205 N) (c_i_Arity N) lk0)),lk0,nI⟩ hmO Tryz.func163 (by kernel_rfl) (F:=i_IsName N) (funext fun x=>by kernel_rfl)
abbrev k_163 (N:Nat):Nat×Fn:=(163,⟨[.str],[.bool],i_IsName N⟩)
noncomputable def E_i_allNames (N:Nat):=cz 15 [] [k_163 N] []
def A_i_allNames:=an [] [(0,⟨[⟨7,.val,(.int .i64)⟩],[],[2,4,7,8,9,10,11,12,13,14]⟩)] [⟨2,.val,.bool⟩]
theorem c_i_allNames (N:Nat):Ctr Tryz.prog Vp 171 ⟨[(.sl .lend .str)],[.bool],i_allNames N⟩ :=
 mk_ctr (E:=E_i_allNames N) (A:=A_i_allNames) (N:=N) (pl:=[⟨0,.val,(.sl .lend .str)⟩]) ⟨tabP_ok,lkF (k_163 N) (c_i_IsName N) lk0,lk0,nI⟩ hmO Tryz.func171 (by kernel_rfl) (F:=i_allNames N) (funext fun x=>by kernel_rfl)
abbrev k_171 (N:Nat):Nat×Fn:=(171,⟨[(.sl .lend .str)],[.bool],i_allNames N⟩)
noncomputable def E_i_cellOk (N:Nat):=cz 88 [] [k_64 N,k_171 N] []
def A_i_cellOk:=an [] [] [⟨2,.val,.bool⟩]
theorem c_i_cellOk (N:Nat):Ctr Tryz.prog Vp 160 ⟨[t64l],[.bool],i_cellOk N⟩ :=
 mk_ctr (E:=E_i_cellOk N) (A:=A_i_cellOk) (N:=N) (pl:=[⟨0,.val,t64l⟩]) ⟨tabP_ok,lkF (k_64 N) (c_i_inRange N) (lkF (k_171 N) (c_i_allNames N) lk0),lk0,nI⟩ hmO Tryz.func160 (by kernel_rfl) (F:=i_cellOk N) (funext fun x=>by kernel_rfl)
noncomputable def E_i_cellKind (N:Nat):=cz 10 [] [] []
def A_i_cellKind:=an [] [] [⟨2,.val,(.int .i64)⟩]
theorem c_i_cellKind (N:Nat):Ctr Tryz.prog Vp 176 ⟨[(.int .i64)],[(.int .i64)],i_cellKind N⟩ :=
 mk_ctr (E:=E_i_cellKind N) (A:=A_i_cellKind) (N:=N) (pl:=[⟨0,.val,(.int .i64)⟩]) ⟨tabP_ok,lk0,lk0,nI⟩ hmO Tryz.func176 (by kernel_rfl) (F:=i_cellKind N) (funext fun x=>by kernel_rfl)
abbrev k_176 (N:Nat):Nat×Fn:=(176,⟨[(.int .i64)],[(.int .i64)],i_cellKind N⟩)
noncomputable def E_i_ValueOk (N:Nat):=cz 74 [] [k_64 N,k_175 N,k_176 N] []
def A_i_ValueOk:=an [(47,([⟨3,.box false,t103o⟩,⟨47,.val,.bool⟩],[47,49,50]))] [] [⟨4,.val,.bool⟩]
theorem c_i_ValueOk (N:Nat):Ctr Tryz.prog Vp 120 ⟨[(.sl .lend t64l),t103o],[.bool],i_ValueOk N⟩ :=
 mk_ctr (E:=E_i_ValueOk N) (A:=A_i_ValueOk) (N:=N) (pl:=[⟨0,.val,(.sl .lend t64l)⟩,⟨1,.val,t103o⟩]) ⟨tabP_ok,lkF (k_64 N) (c_i_inRange N) (lkF (k_175 N) (c_i_symOk N) (lkF (k_176 N) (c_i_cellKind N) lk0)),lk0,nI⟩ hmO Tryz.func120 (by kernel_rfl) (F:=i_ValueOk N) (funext fun x=>by kernel_rfl)
abbrev k_120 (N:Nat):Nat×Fn:=(120,⟨[(.sl .lend t64l),t103o],[.bool],i_ValueOk N⟩)
noncomputable def E_i_valuesOk (N:Nat):=cz 18 [] [k_120 N] []
def A_i_valuesOk:=an [] [(0,⟨[⟨9,.val,(.int .i64)⟩],[],[4,6,9,10,11,12,13,14,15,16,17]⟩)] [⟨4,.val,.bool⟩]
theorem c_i_valuesOk (N:Nat):Ctr Tryz.prog Vp 161 ⟨[(.sl .lend t64l),(.sl .lend t103o)],[.bool],i_valuesOk N⟩ :=
 mk_ctr (E:=E_i_valuesOk N) (A:=A_i_valuesOk) (N:=N) (pl:=[⟨0,.val,(.sl .lend t64l)⟩,⟨1,.val,(.sl .lend t103o)⟩]) ⟨tabP_ok,lkF (k_120 N) (c_i_ValueOk N) lk0,lk0,nI⟩ hmO Tryz.func161 (by kernel_rfl) (F:=i_valuesOk N) (funext fun x=>by kernel_rfl)
noncomputable def E_i_areBelow (N:Nat):=cz 24 [] [k_176 N] []
def A_i_areBelow:=an [] [(0,⟨[⟨9,.val,(.int .i64)⟩],[],[4,6,9,10,11,12,13,14,15,16,17,18,19,20,21,22,23]⟩)] [⟨4,.val,.bool⟩]
theorem c_i_areBelow (N:Nat):Ctr Tryz.prog Vp 162 ⟨[(.sl .lend t103o),(.int .i64)],[.bool],i_areBelow N⟩ :=
 mk_ctr (E:=E_i_areBelow N) (A:=A_i_areBelow) (N:=N) (pl:=[⟨0,.val,(.sl .lend t103o)⟩,⟨1,.val,(.int .i64)⟩]) ⟨tabP_ok,lkF (k_176 N) (c_i_cellKind N) lk0,lk0,nI⟩ hmO Tryz.func162 (by kernel_rfl) (F:=i_areBelow N) (funext fun x=>by kernel_rfl)
abbrev k_160 (N:Nat):Nat×Fn:=(160,⟨[t64l],[.bool],i_cellOk N⟩)
abbrev k_161 (N:Nat):Nat×Fn:=(161,⟨[(.sl .lend t64l),(.sl .lend t103o)],[.bool],i_valuesOk N⟩)
abbrev k_162 (N:Nat):Nat×Fn:=(162,⟨[(.sl .lend t103o),(.int .i64)],[.bool],i_areBelow N⟩)
noncomputable def E_i_HeapOk (N:Nat):=cz 38 [] [k_160 N,k_161 N,k_162 N] []
def A_i_HeapOk:=an [] [(0,⟨[⟨10,.val,(.int .i64)⟩],[],[2,3,4,10,11,12,13,14,15,16,17,18,19,20,21,22,23,24,25,26,27,28,29,30,31,32,33,34,35,36,37]⟩)] [⟨2,.val,.bool⟩]
theorem c_i_HeapOk (N:Nat):Ctr Tryz.prog Vp 112 ⟨[(.sl .lend t64l)],[.bool],i_HeapOk N⟩ :=
 mk_ctr (E:=E_i_HeapOk N) (A:=A_i_HeapOk) (N:=N) (pl:=[⟨0,.val,(.sl .lend t64l)⟩]) ⟨tabP_ok,lkF (k_160 N) (c_i_cellOk N) (lkF (k_161 N) (c_i_valuesOk N) (lkF (k_162 N) (c_i_areBelow N) lk0)),lk0,nI⟩ hmO Tryz.func112 (by kernel_rfl) (F:=i_HeapOk N) (funext fun x=>by kernel_rfl)
noncomputable def E_g_slices_Index_string_string_ (N:Nat):=cz 19 [] [] []
def A_g_slices_Index_string_string_:=an [] [(0,⟨[⟨8,.val,(.int .i64)⟩],[],[4,5,8,9,10,11,12,13,14,15,16,17,18]⟩)] [⟨4,.val,(.int .i64)⟩]
theorem c_g_slices_Index_string_string_ (N:Nat):Ctr Tryz.prog Vp 75 ⟨[(.sl .lend .str),.str],[(.int .i64)],g_slices_Index_string_string_ N⟩ :=
 mk_ctr (E:=E_g_slices_Index_string_string_ N) (A:=A_g_slices_Index_string_string_) (N:=N) (pl:=[⟨0,.val,(.sl .lend .str)⟩,⟨1,.val,.str⟩]) ⟨tabP_ok,lk0,lk0,nI⟩ hmO Tryz.func75 (by kernel_rfl) (F:=g_slices_Index_string_string_ N) (funext fun x=>by kernel_rfl)
abbrev k_75 (N:Nat):Nat×Fn:=(75,⟨[(.sl .lend .str),.str],[(.int .i64)],g_slices_Index_string_string_ N⟩)
noncomputable def E_i_namesOk (N:Nat):=cz 29 [] [k_75 N,k_163 N] []
def A_i_namesOk:=an [] [(0,⟨[⟨9,.val,(.int .i64)⟩],[],[4,5,6,9,10,11,12,13,14,15,16,17,18,19,20,21,22,23,24]⟩)] [⟨4,.val,.bool⟩]
theorem c_i_namesOk (N:Nat):Ctr Tryz.prog Vp 164 ⟨[(.sl .lend .str),(.int .i64)],[.bool],i_namesOk N⟩ :=
 mk_ctr (E:=E_i_namesOk N) (A:=A_i_namesOk) (N:=N) (pl:=[⟨0,.val,(.sl .lend .str)⟩,⟨1,.val,(.int .i64)⟩]) ⟨tabP_ok,lkF (k_75 N) (c_g_slices_Index_string_string_ N) (lkF (k_163 N) (c_i_IsName N) lk0),lk0,nI⟩ hmO Tryz.func164 (by kernel_rfl) (F:=i_namesOk N) (funext fun x=>by kernel_rfl)
noncomputable def E_g_slices_Contains_string_string_ (N:Nat):=cz 9 [] [k_75 N] []
def A_g_slices_Contains_string_string_:=an [] [] [⟨4,.val,.bool⟩]
theorem c_g_slices_Contains_string_string_ (N:Nat):Ctr Tryz.prog Vp 35 ⟨[(.sl .lend .str),.str],[.bool],g_slices_Contains_string_string_ N⟩ :=
 mk_ctr (E:=E_g_slices_Contains_string_string_ N) (A:=A_g_slices_Contains_string_string_) (N:=N) (pl:=[⟨0,.val,(.sl .lend .str)⟩,⟨1,.val,.str⟩]) ⟨tabP_ok,lkF (k_75 N) (c_g_slices_Index_string_string_ N) lk0,lk0,nI⟩ hmO Tryz.func35 (by kernel_rfl) (F:=g_slices_Contains_string_string_ N) (funext fun x=>by kernel_rfl)
abbrev k_35 (N:Nat):Nat×Fn:=(35,⟨[(.sl .lend .str),.str],[.bool],g_slices_Contains_string_string_ N⟩)
abbrev k_164 (N:Nat):Nat×Fn:=(164,⟨[(.sl .lend .str),(.int .i64)],[.bool],i_namesOk N⟩)
noncomputable def E_i_Sys_linksOk (N:Nat):=cz 46 [(18,.str),(19,.str)] [k_35 N,k_64 N,k_163 N,k_164 N] []
def A_i_Sys_linksOk:=an [] [(0,⟨[⟨3,.box false,t114l⟩,⟨5,.own false,(.sl .own .str)⟩,⟨11,.val,(.int .i64)⟩],[⟨5,.own false,(.sl .own .str)⟩],[4,5,7,11,12,13,14,15,16,17,18,19,20,21,22,23,24,25,26,27,28,29,30,31,32,33,34,35,36,37,38,39,40,41,42,43]⟩)] [⟨4,.val,.bool⟩]
theorem c_i_Sys_linksOk (N:Nat):CtrX Tryz.prog Vp 165 ⟨[.look,.no],[t26l,t114l],[.val],[.bool],i_Sys_linksOk N⟩ :=
 mk_ctrX (E:=E_i_Sys_linksOk N) (A:=A_i_Sys_linksOk) (N:=N) (pl:=[⟨0,.look,t26l⟩,⟨1,.val,t114l⟩]) (io:=[.look,.no]) (ks:=[.val]) ⟨tabP_ok,lkF (k_35 N) (c_g_slices_Contains_string_string_ N) (lkF (k_64 N) (c_i_inRange N) (lkF (k_163 N) (c_i_IsName N) (lkF (k_164 N) (c_i_namesOk N) lk0))),lk0,nI⟩ hmO Tryz.func165 (by kernel_rfl) (F:=i_Sys_linksOk N) (funext fun x=>by kernel_rfl)
noncomputable def E_i_typesOk (N:Nat):=cz 24 [(15,.str),(16,.str)] [k_64 N,k_164 N] []
def A_i_typesOk:=an [] [(0,⟨[⟨3,.own false,(.sl .own .str)⟩,⟨8,.val,(.int .i64)⟩],[⟨3,.own false,(.sl .own .str)⟩],[2,3,5,8,9,10,11,12,13,14,15,16,17,18,19,20,21]⟩)] [⟨2,.val,.bool⟩]
theorem c_i_typesOk (N:Nat):Ctr Tryz.prog Vp 166 ⟨[(.sl .lend (.pair .str (.pair (.int .i64) .unit)))],[.bool],i_typesOk N⟩ :=
 mk_ctr (E:=E_i_typesOk N) (A:=A_i_typesOk) (N:=N) (pl:=[⟨0,.val,(.sl .lend (.pair .str (.pair (.int .i64) .unit)))⟩]) ⟨tabP_ok,lkF (k_64 N) (c_i_inRange N) (lkF (k_164 N) (c_i_namesOk N) lk0),lk0,nI⟩ hmO Tryz.func166 (by kernel_rfl) (F:=i_typesOk N) (funext fun x=>by kernel_rfl)
abbrev k_166 (N:Nat):Nat×Fn:=(166,⟨[(.sl .lend (.pair .str (.pair (.int .i64) .unit)))],[.bool],i_typesOk N⟩)
abbrev k_165 (N:Nat):Nat×Fx:=(165,⟨[.look,.no],[t26l,t114l],[.val],[.bool],i_Sys_linksOk N⟩)
noncomputable def E_i_Sys_instOk (N:Nat):=cz 85 [] [k_64 N,k_120 N,k_163 N,k_164 N,k_166 N] [k_165 N]
def A_i_Sys_instOk:An:={ join:=look [],loop:=look [(0,⟨[⟨46,.val,(.int .i64)⟩],[],[4,7,46,47,48,49,50,51,52,53,54,55,56,57,58,59,60,61,62]⟩)],ret:=[⟨4,.val,.bool⟩],frz:=look [(2,5),(7,7)] }
theorem c_i_Sys_instOk (N:Nat):CtrX Tryz.prog Vp 113 ⟨[.look,.no],[t26l,(.int .i64)],[.val],[.bool],i_Sys_instOk N⟩ :=
 mk_ctrX (E:=E_i_Sys_instOk N) (A:=A_i_Sys_instOk) (N:=N) (pl:=[⟨0,.look,t26l⟩,⟨1,.val,(.int .i64)⟩]) (io:=[.look,.no]) (ks:=[.val]) ⟨tabP_ok,lkF (k_64 N) (c_i_inRange N) (lkF (k_120 N) (c_i_ValueOk N) (lkF (k_163 N) (c_i_IsName N) (lkF (k_164 N) (c_i_namesOk N) (lkF (k_166 N) (c_i_typesOk N) lk0)))),lkX (k_165 N) (c_i_Sys_linksOk N) lk0,nI⟩ hmO Tryz.func113 (by kernel_rfl) (F:=i_Sys_instOk N) (funext fun x=>by kernel_rfl)
noncomputable def E_i_isTyped (N:Nat):=cz 13 [] [] []
def A_i_isTyped:=an [] [] [⟨2,.val,.bool⟩]
theorem c_i_isTyped (N:Nat):Ctr Tryz.prog Vp 221 ⟨[.str],[.bool],i_isTyped N⟩ :=
 mk_ctr (E:=E_i_isTyped N) (A:=A_i_isTyped) (N:=N) (pl:=[⟨0,.val,.str⟩]) ⟨tabP_ok,lk0,lk0,nI⟩ hmO Tryz.func221 (by kernel_rfl) (F:=i_isTyped N) (funext fun x=>by kernel_rfl)
abbrev k_221 (N:Nat):Nat×Fn:=(221,⟨[.str],[.bool],i_isTyped N⟩)
noncomputable def E_i_primOk (N:Nat):=cz 78 [] [k_64 N,k_163 N,k_205 N,k_221 N] []
def A_i_primOk:=an [] [] [⟨2,.val,.bool⟩]
theorem c_i_primOk (N:Nat):Ctr Tryz.prog Vp 206 ⟨[t180l],[.bool],i_primOk N⟩ :=
 mk_ctr (E:=E_i_primOk N) (A:=A_i_primOk) (N:=N) (pl:=[⟨0,.val,t180l⟩]) ⟨tabP_ok,lkF (k_64 N) (c_i_inRange N) (lkF (k_163 N) (c_i_IsName N) (lkF (k_205 N) (c_i_Arity N) (lkF (k_221 N) (c_i_isTyped N) lk0))),lk0,nI⟩ hmO Tryz.func206 (by kernel_rfl) (F:=i_primOk N) (funext fun x=>by kernel_rfl)
abbrev k_206 (N:Nat):Nat×Fn:=(206,⟨[t180l],[.bool],i_primOk N⟩)
noncomputable def E_i_nodeOk (N:Nat):=cz 168 [] [k_64 N,k_163 N,k_164 N,k_175 N,k_206 N] []
def A_i_nodeOk:=an [] [] [⟨2,.val,.bool⟩]
theorem c_i_nodeOk (N:Nat):Ctr Tryz.prog Vp 167 ⟨[t180l],[.bool],i_nodeOk N⟩ :=
 mk_ctr (E:=E_i_nodeOk N) (A:=A_i_nodeOk) (N:=N) (pl:=[⟨0,.val,t180l⟩]) ⟨tabP_ok,lkF (k_64 N) (c_i_inRange N) (lkF (k_163 N) (c_i_IsName N) (lkF (k_164 N) (c_i_namesOk N) (lkF (k_175 N) (c_i_symOk N) (lkF (k_206 N) (c_i_primOk N) lk0)))),lk0,nI⟩ hmO Tryz.func167 (by kernel_rfl) (F:=i_nodeOk N) (funext fun x=>by kernel_rfl)
abbrev k_167 (N:Nat):Nat×Fn:=(167,⟨[t180l],[.bool],i_nodeOk N⟩)
noncomputable def E_i_ProgOk (N:Nat):=cz 77 [(29,(.int .i64))] [k_64 N,k_167 N] []
def A_i_ProgOk:An:={ join:=look [],loop:=look [(2,⟨[⟨4,.own false,(.sl .own (.int .i64))⟩,⟨44,.val,(.int .i64)⟩],[⟨4,.own false,(.sl .own (.int .i64))⟩],[2,8,44,45,46,47,48,49,50,51,52,53,54,55,56,57,58,59]⟩),(0,⟨[⟨4,.own false,(.sl .own (.int .i64))⟩,⟨33,.val,(.int .i64)⟩],[⟨4,.own false,(.sl .own (.int .i64))⟩],[2,5,6,8,33,34,35,36,37,38,39,40,41,42,43,44,45,46,47,48,49,50,51,52,53,54,55,56,57,58,59,60]⟩),(4,⟨[⟨65,.val,(.int .i64)⟩],[],[2,10,65,66,67,68,69,70,71]⟩)],ret:=[⟨2,.val,.bool⟩],frz:=look [(18,4)] }
theorem c_i_ProgOk (N:Nat):Ctr Tryz.prog Vp 114 ⟨[t165l],[.bool],i_ProgOk N⟩ :=
 mk_ctr (E:=E_i_ProgOk N) (A:=A_i_ProgOk) (N:=N) (pl:=[⟨0,.val,t165l⟩]) ⟨tabP_ok,lkF (k_64 N) (c_i_inRange N) (lkF (k_167 N) (c_i_nodeOk N) lk0),lk0,nI⟩ hmO Tryz.func114 (by kernel_rfl) (F:=i_ProgOk N) (funext fun x=>by kernel_rfl)
noncomputable def E_i_Sys_isLambda (N:Nat):=cz 39 [] [k_64 N] []
def A_i_Sys_isLambda:=an [] [] [⟨6,.val,.bool⟩]
theorem c_i_Sys_isLambda (N:Nat):CtrX Tryz.prog Vp 115 ⟨[.look,.no,.no],[t26l,(.int .i64),(.int .i64)],[.val],[.bool],i_Sys_isLambda N⟩ :=
 mk_ctrX (E:=E_i_Sys_isLambda N) (A:=A_i_Sys_isLambda) (N:=N) (pl:=[⟨0,.look,t26l⟩,⟨1,.val,(.int .i64)⟩,⟨2,.val,(.int .i64)⟩]) (io:=[.look,.no,.no]) (ks:=[.val]) ⟨tabP_ok,lkF (k_64 N) (c_i_inRange N) lk0,lk0,nI⟩ hmO Tryz.func115 (by kernel_rfl) (F:=i_Sys_isLambda N) (funext fun x=>by kernel_rfl)
abbrev k_112 (N:Nat):Nat×Fn:=(112,⟨[(.sl .lend t64l)],[.bool],i_HeapOk N⟩)
abbrev k_114 (N:Nat):Nat×Fn:=(114,⟨[t165l],[.bool],i_ProgOk N⟩)
abbrev k_113 (N:Nat):Nat×Fx:=(113,⟨[.look,.no],[t26l,(.int .i64)],[.val],[.bool],i_Sys_instOk N⟩)
abbrev k_115 (N:Nat):Nat×Fx:=(115,⟨[.look,.no,.no],[t26l,(.int .i64),(.int .i64)],[.val],[.bool],i_Sys_isLambda N⟩)
noncomputable def E_i_SysOk (N:Nat):=cz 82 [] [k_64 N,k_112 N,k_114 N] [k_113 N,k_115 N]
def A_i_SysOk:=an [] [(0,⟨[⟨1,.box false,t26l⟩,⟨34,.val,(.int .i64)⟩],[⟨1,.box false,t26l⟩],[2,3,34,35,36,37,38,39,40]⟩),(2,⟨[⟨1,.box false,t26l⟩,⟨44,.val,(.int .i64)⟩],[⟨1,.box false,t26l⟩],[2,5,44,45,46,47,48,49,50,51,52,53,54,55,56,57,58,59,60,61,62]⟩),(4,⟨[⟨1,.box false,t26l⟩,⟨66,.val,(.int .i64)⟩],[],[2,7,66,67,68,69,70,71,72,73,74,75,76,77,78,79,80,81]⟩)] [⟨2,.val,.bool⟩]
theorem c_i_SysOk (N:Nat):Ctr Tryz.prog Vp 65 ⟨[t26l],[.bool],i_SysOk N⟩ :=
 mk_ctr (E:=E_i_SysOk N) (A:=A_i_SysOk) (N:=N) (pl:=[⟨0,.val,t26l⟩]) ⟨tabP_ok,lkF (k_64 N) (c_i_inRange N) (lkF (k_112 N) (c_i_HeapOk N) (lkF (k_114 N) (c_i_ProgOk N) lk0)),lkX (k_113 N) (c_i_Sys_instOk N) (lkX (k_115 N) (c_i_Sys_isLambda N) lk0),nI⟩ hmO Tryz.func65 (by kernel_rfl) (F:=i_SysOk N) (funext fun x=>by kernel_rfl)
noncomputable def E_i_Src_isFew (N:Nat):=cz 41 [] [] []
def A_i_Src_isFew:=an [] [] [⟨2,.val,.bool⟩]
theorem c_i_Src_isFew (N:Nat):CtrX Tryz.prog Vp 168 ⟨[.look],[t75l],[.val],[.bool],i_Src_isFew N⟩ :=
 mk_ctrX (E:=E_i_Src_isFew N) (A:=A_i_Src_isFew) (N:=N) (pl:=[⟨0,.look,t75l⟩]) (io:=[.look]) (ks:=[.val]) ⟨tabP_ok,lk0,lk0,nI⟩ hmO Tryz.func168 (by kernel_rfl) (F:=i_Src_isFew N) (funext fun x=>by kernel_rfl)
noncomputable def E_i_isOnce (N:Nat):=cz 18 [] [k_75 N] []
def A_i_isOnce:=an [] [(0,⟨[⟨7,.val,(.int .i64)⟩],[],[2,3,4,7,8,9,10,11,12,13,14,15,16,17]⟩)] [⟨2,.val,.bool⟩]
theorem c_i_isOnce (N:Nat):Ctr Tryz.prog Vp 123 ⟨[(.sl .lend .str)],[.bool],i_isOnce N⟩ :=
 mk_ctr (E:=E_i_isOnce N) (A:=A_i_isOnce) (N:=N) (pl:=[⟨0,.val,(.sl .lend .str)⟩]) ⟨tabP_ok,lkF (k_75 N) (c_g_slices_Index_string_string_ N) lk0,lk0,nI⟩ hmO Tryz.func123 (by kernel_rfl) (F:=i_isOnce N) (funext fun x=>by kernel_rfl)
noncomputable def E_i_namesOfDefs (N:Nat):=cz 19 [(15,.str),(16,.str)] [] []
def A_i_namesOfDefs:=an [] [(0,⟨[⟨3,.own false,(.sl .own .str)⟩,⟨8,.val,(.int .i64)⟩],[⟨3,.own false,(.sl .own .str)⟩],[3,5,8,9,10,11,12,13,14,15,16,17]⟩)] [⟨2,.own false,(.sl .own .str)⟩]
theorem c_i_namesOfDefs (N:Nat):Ctr Tryz.prog Vp 172 ⟨[(.sl .lend t188l)],[(.sl .own .str)],i_namesOfDefs N⟩ :=
 mk_ctr (E:=E_i_namesOfDefs N) (A:=A_i_namesOfDefs) (N:=N) (pl:=[⟨0,.val,(.sl .lend t188l)⟩]) ⟨tabP_ok,lk0,lk0,nI⟩ hmO Tryz.func172 (by kernel_rfl) (F:=i_namesOfDefs N) (funext fun x=>by kernel_rfl)
noncomputable def E_i_namesOfTypes (N:Nat):=cz 19 [(15,.str),(16,.str)] [] []
def A_i_namesOfTypes:=an [] [(0,⟨[⟨3,.own false,(.sl .own .str)⟩,⟨8,.val,(.int .i64)⟩],[⟨3,.own false,(.sl .own .str)⟩],[3,5,8,9,10,11,12,13,14,15,16,17]⟩)] [⟨2,.own false,(.sl .own .str)⟩]
theorem c_i_namesOfTypes (N:Nat):Ctr Tryz.prog Vp 207 ⟨[(.sl .lend (.pair .str (.pair (.int .i64) .unit)))],[(.sl .own .str)],i_namesOfTypes N⟩ :=
 mk_ctr (E:=E_i_namesOfTypes N) (A:=A_i_namesOfTypes) (N:=N) (pl:=[⟨0,.val,(.sl .lend (.pair .str (.pair (.int .i64) .unit)))⟩]) ⟨tabP_ok,lk0,lk0,nI⟩ hmO Tryz.func207 (by kernel_rfl) (F:=i_namesOfTypes N) (funext fun x=>by kernel_rfl)
abbrev k_123 (N:Nat):Nat×Fn:=(123,⟨[(.sl .lend .str)],[.bool],i_isOnce N⟩)
abbrev k_172 (N:Nat):Nat×Fn:=(172,⟨[(.sl .lend t188l)],[(.sl .own .str)],i_namesOfDefs N⟩)
abbrev k_207 (N:Nat):Nat×Fn:=(207,⟨[(.sl .lend (.pair .str (.pair (.int .i64) .unit)))],[(.sl .own .str)],i_namesOfTypes N⟩)
noncomputable def E_i_Src_isUnlike (N:Nat):=cz 51 [] [k_35 N,k_123 N,k_172 N,k_207 N] []
def A_i_Src_isUnlike:=an [] [] [⟨2,.val,.bool⟩]
theorem c_i_Src_isUnlike (N:Nat):CtrX Tryz.prog Vp 169 ⟨[.look],[t75l],[.val],[.bool],i_Src_isUnlike N⟩ :=
 mk_ctrX (E:=E_i_Src_isUnlike N) (A:=A_i_Src_isUnlike) (N:=N) (pl:=[⟨0,.look,t75l⟩]) (io:=[.look]) (ks:=[.val]) ⟨tabP_ok,lkF (k_35 N) (c_g_slices_Contains_string_string_ N) (lkF (k_123 N) (c_i_isOnce N) (lkF (k_172 N) (c_i_namesOfDefs N) (lkF (k_207 N) (c_i_namesOfTypes N) lk0))),lk0,nI⟩ hmO Tryz.func169 (by kernel_rfl) (F:=i_Src_isUnlike N) (funext fun x=>by kernel_rfl)
noncomputable def E_i_areIn (N:Nat):=cz 18 [] [k_35 N] []
def A_i_areIn:=an [] [(0,⟨[⟨9,.val,(.int .i64)⟩],[],[4,6,9,10,11,12,13,14,15,16,17]⟩)] [⟨4,.val,.bool⟩]
theorem c_i_areIn (N:Nat):Ctr Tryz.prog Vp 122 ⟨[(.sl .lend .str),(.sl .lend .str)],[.bool],i_areIn N⟩ :=
 mk_ctr (E:=E_i_areIn N) (A:=A_i_areIn) (N:=N) (pl:=[⟨0,.val,(.sl .lend .str)⟩,⟨1,.val,(.sl .lend .str)⟩]) ⟨tabP_ok,lkF (k_35 N) (c_g_slices_Contains_string_string_ N) lk0,lk0,nI⟩ hmO Tryz.func122 (by kernel_rfl) (F:=i_areIn N) (funext fun x=>by kernel_rfl)
abbrev k_122 (N:Nat):Nat×Fn:=(122,⟨[(.sl .lend .str),(.sl .lend .str)],[.bool],i_areIn N⟩)
noncomputable def E_i_Src_isFit (N:Nat):=cz 26 [] [k_122 N,k_172 N,k_207 N] []
def A_i_Src_isFit:=an [] [] [⟨2,.val,.bool⟩]
theorem c_i_Src_isFit (N:Nat):CtrX Tryz.prog Vp 170 ⟨[.look],[t75l],[.val],[.bool],i_Src_isFit N⟩ :=
 mk_ctrX (E:=E_i_Src_isFit N) (A:=A_i_Src_isFit) (N:=N) (pl:=[⟨0,.look,t75l⟩]) (io:=[.look]) (ks:=[.val]) ⟨tabP_ok,lkF (k_122 N) (c_i_areIn N) (lkF (k_172 N) (c_i_namesOfDefs N) (lkF (k_207 N) (c_i_namesOfTypes N) lk0)),lk0,nI⟩ hmO Tryz.func170 (by kernel_rfl) (F:=i_Src_isFit N) (funext fun x=>by kernel_rfl)
noncomputable def E_i_progsOk (N:Nat):=cz 16 [] [k_114 N] []
def A_i_progsOk:=an [] [(0,⟨[⟨7,.val,(.int .i64)⟩],[],[2,4,7,8,9,10,11,12,13,14,15]⟩)] [⟨2,.val,.bool⟩]
theorem c_i_progsOk (N:Nat):Ctr Tryz.prog Vp 173 ⟨[(.sl .lend t188l)],[.bool],i_progsOk N⟩ :=
 mk_ctr (E:=E_i_progsOk N) (A:=A_i_progsOk) (N:=N) (pl:=[⟨0,.val,(.sl .lend t188l)⟩]) ⟨tabP_ok,lkF (k_114 N) (c_i_ProgOk N) lk0,lk0,nI⟩ hmO Tryz.func173 (by kernel_rfl) (F:=i_progsOk N) (funext fun x=>by kernel_rfl)
abbrev k_173 (N:Nat):Nat×Fn:=(173,⟨[(.sl .lend t188l)],[.bool],i_progsOk N⟩)
abbrev k_168 (N:Nat):Nat×Fx:=(168,⟨[.look],[t75l],[.val],[.bool],i_Src_isFew N⟩)
abbrev k_169 (N:Nat):Nat×Fx:=(169,⟨[.look],[t75l],[.val],[.bool],i_Src_isUnlike N⟩)
abbrev k_170 (N:Nat):Nat×Fx:=(170,⟨[.look],[t75l],[.val],[.bool],i_Src_isFit N⟩)
noncomputable def E_i_SrcOk (N:Nat):=cz 56 [] [k_163 N,k_166 N,k_171 N,k_172 N,k_173 N] [k_168 N,k_169 N,k_170 N]
def A_i_SrcOk:=an [] [] [⟨2,.val,.bool⟩]
theorem c_i_SrcOk (N:Nat):Ctr Tryz.prog Vp 116 ⟨[t75l],[.bool],i_SrcOk N⟩ :=
 mk_ctr (E:=E_i_SrcOk N) (A:=A_i_SrcOk) (N:=N) (pl:=[⟨0,.val,t75l⟩]) ⟨tabP_ok,lkF (k_163 N) (c_i_IsName N) (lkF (k_166 N) (c_i_typesOk N) (lkF (k_171 N) (c_i_allNames N) (lkF (k_172 N) (c_i_namesOfDefs N) (lkF (k_173 N) (c_i_progsOk N) lk0)))),lkX (k_168 N) (c_i_Src_isFew N) (lkX (k_169 N) (c_i_Src_isUnlike N) (lkX (k_170 N) (c_i_Src_isFit N) lk0)),nI⟩ hmO Tryz.func116 (by kernel_rfl) (F:=i_SrcOk N) (funext fun x=>by kernel_rfl)
abbrev k_116 (N:Nat):Nat×Fn:=(116,⟨[t75l],[.bool],i_SrcOk N⟩)
noncomputable def E_i_World_entOk (N:Nat):=cz 78 [] [k_64 N,k_75 N,k_116 N] []
def A_i_World_entOk:An:={ join:=look [],loop:=look [(0,⟨[⟨58,.val,(.int .i64)⟩],[],[4,7,8,58,59,60,61,62,63,64,65,66,67,68,69,70,71,72,73,74,75,76,77]⟩)],ret:=[⟨4,.val,.bool⟩],frz:=look [(1,3),(4,5)] }
theorem c_i_World_entOk (N:Nat):CtrX Tryz.prog Vp 66 ⟨[.look,.no],[t30l,t77l],[.val],[.bool],i_World_entOk N⟩ :=
 mk_ctrX (E:=E_i_World_entOk N) (A:=A_i_World_entOk) (N:=N) (pl:=[⟨0,.look,t30l⟩,⟨1,.val,t77l⟩]) (io:=[.look,.no]) (ks:=[.val]) ⟨tabP_ok,lkF (k_64 N) (c_i_inRange N) (lkF (k_75 N) (c_g_slices_Index_string_string_ N) (lkF (k_116 N) (c_i_SrcOk N) lk0)),lk0,nI⟩ hmO Tryz.func66 (by kernel_rfl) (F:=i_World_entOk N) (funext fun x=>by kernel_rfl)
noncomputable def E_i_Sys_isNode (N:Nat):=cz 30 [] [k_64 N] []
def A_i_Sys_isNode:=an [] [] [⟨6,.val,.bool⟩]
theorem c_i_Sys_isNode (N:Nat):CtrX Tryz.prog Vp 117 ⟨[.look,.no,.no],[t26l,(.int .i64),(.int .i64)],[.val],[.bool],i_Sys_isNode N⟩ :=
 mk_ctrX (E:=E_i_Sys_isNode N) (A:=A_i_Sys_isNode) (N:=N) (pl:=[⟨0,.look,t26l⟩,⟨1,.val,(.int .i64)⟩,⟨2,.val,(.int .i64)⟩]) (io:=[.look,.no,.no]) (ks:=[.val]) ⟨tabP_ok,lkF (k_64 N) (c_i_inRange N) lk0,lk0,nI⟩ hmO Tryz.func117 (by kernel_rfl) (F:=i_Sys_isNode N) (funext fun x=>by kernel_rfl)
noncomputable def E_i_Sys_envOk (N:Nat):=cz 28 [] [k_120 N,k_163 N] []
def A_i_Sys_envOk:=an [] [(0,⟨[⟨9,.val,(.int .i64)⟩],[],[4,6,9,10,11,12,13,14,15,16,17,18,19,20,21,22,23,24,25,26,27]⟩)] [⟨4,.val,.bool⟩]
theorem c_i_Sys_envOk (N:Nat):CtrX Tryz.prog Vp 118 ⟨[.look,.no],[t26l,(.sl .lend t216o)],[.val],[.bool],i_Sys_envOk N⟩ :=
 mk_ctrX (E:=E_i_Sys_envOk N) (A:=A_i_Sys_envOk) (N:=N) (pl:=[⟨0,.look,t26l⟩,⟨1,.val,(.sl .lend t216o)⟩]) (io:=[.look,.no]) (ks:=[.val]) ⟨tabP_ok,lkF (k_120 N) (c_i_ValueOk N) (lkF (k_163 N) (c_i_IsName N) lk0),lk0,nI⟩ hmO Tryz.func118 (by kernel_rfl) (F:=i_Sys_envOk N) (funext fun x=>by kernel_rfl)
abbrev k_117 (N:Nat):Nat×Fx:=(117,⟨[.look,.no,.no],[t26l,(.int .i64),(.int .i64)],[.val],[.bool],i_Sys_isNode N⟩)
abbrev k_118 (N:Nat):Nat×Fx:=(118,⟨[.look,.no],[t26l,(.sl .lend t216o)],[.val],[.bool],i_Sys_envOk N⟩)
noncomputable def E_i_Sys_frameOk (N:Nat):Cz:={ tab:=tabP,n:=60,V:=Vp,ann:=look [],fn:=look [k_161 N],fx:=look [k_117 N,k_118 N],inl:=look [(174,inlOf Tryz.f174)] }
def A_i_Sys_frameOk:An:={ join:=look [(40,([⟨40,.val,.bool⟩],[40,42])),(47,([⟨47,.val,.bool⟩],[47,49,50]))],loop:=look [],ret:=[⟨4,.val,.bool⟩],frz:=look [(1,3)] }
theorem c_i_Sys_frameOk (N:Nat):CtrX Tryz.prog Vp 119 ⟨[.look,.no],[t26l,t194l],[.val],[.bool],i_Sys_frameOk N⟩ :=
 mk_ctrX (E:=E_i_Sys_frameOk N) (A:=A_i_Sys_frameOk) (N:=N) (pl:=[⟨0,.look,t26l⟩,⟨1,.val,t194l⟩]) (io:=[.look,.no]) (ks:=[.val]) ⟨tabP_ok,lkF (k_161 N) (c_i_valuesOk N) lk0,lkX (k_117 N) (c_i_Sys_isNode N) (lkX (k_118 N) (c_i_Sys_envOk N) lk0),lk (Q:=QI) (174,inlOf Tryz.f174) (inl_ok Tryz.func174 (by kernel_rfl)) lk0⟩ hmO Tryz.func119 (by kernel_rfl) (F:=i_Sys_frameOk N) (funext fun x=>by kernel_rfl)
abbrev k_119 (N:Nat):Nat×Fx:=(119,⟨[.look,.no],[t26l,t194l],[.val],[.bool],i_Sys_frameOk N⟩)
noncomputable def E_i_Sys_machineOk (N:Nat):=cz 81 [] [k_64 N,k_120 N] [k_117 N,k_118 N,k_119 N]
def A_i_Sys_machineOk:An:={ join:=look [],loop:=look [(0,⟨[⟨42,.val,(.int .i64)⟩],[],[4,6,42,43,44,45,46,47,48,49,50]⟩)],ret:=[⟨4,.val,.bool⟩],frz:=look [(1,3)] }
theorem c_i_Sys_machineOk (N:Nat):CtrX Tryz.prog Vp 67 ⟨[.look,.no],[t26l,t106l],[.val],[.bool],i_Sys_machineOk N⟩ :=
 mk_ctrX (E:=E_i_Sys_machineOk N) (A:=A_i_Sys_machineOk) (N:=N) (pl:=[⟨0,.look,t26l⟩,⟨1,.val,t106l⟩]) (io:=[.look,.no]) (ks:=[.val]) ⟨tabP_ok,lkF (k_64 N) (c_i_inRange N) (lkF (k_120 N) (c_i_ValueOk N) lk0),lkX (k_117 N) (c_i_Sys_isNode N) (lkX (k_118 N) (c_i_Sys_envOk N) (lkX (k_119 N) (c_i_Sys_frameOk N) lk0)),nI⟩ hmO Tryz.func67 (by kernel_rfl) (F:=i_Sys_machineOk N) (funext fun x=>by kernel_rfl)
noncomputable def E_i_namesOfSrcs (N:Nat):=cz 19 [(15,.str),(16,.str)] [] []
def A_i_namesOfSrcs:=an [] [(0,⟨[⟨3,.own false,(.sl .own .str)⟩,⟨8,.val,(.int .i64)⟩],[⟨3,.own false,(.sl .own .str)⟩],[3,5,8,9,10,11,12,13,14,15,16,17]⟩)] [⟨2,.own false,(.sl .own .str)⟩]
theorem c_i_namesOfSrcs (N:Nat):Ctr Tryz.prog Vp 121 ⟨[(.sl .lend t75l)],[(.sl .own .str)],i_namesOfSrcs N⟩ :=
 mk_ctr (E:=E_i_namesOfSrcs N) (A:=A_i_namesOfSrcs) (N:=N) (pl:=[⟨0,.val,(.sl .lend t75l)⟩]) ⟨tabP_ok,lk0,lk0,nI⟩ hmO Tryz.func121 (by kernel_rfl) (F:=i_namesOfSrcs N) (funext fun x=>by kernel_rfl)
noncomputable def E_i_order (N:Nat):=cz 58 [(55,.str),(56,.str)] [k_35 N,k_122 N] []
def A_i_order:=an [(44,([⟨4,.own false,(.sl .own .str)⟩,⟨5,.val,(.int .i64)⟩],[5,45]))] [(2,⟨[⟨4,.own false,(.sl .own .str)⟩,⟨5,.val,(.int .i64)⟩,⟨15,.val,(.int .i64)⟩],[⟨4,.own false,(.sl .own .str)⟩,⟨5,.val,(.int .i64)⟩],[5,6,7,15,16,17,18,19,20,21,22,23,24,25,26,27,28,29,30,31,32,33,34,35,36,37,38,39,40,41,42,43,44,45,46]⟩),(0,⟨[⟨4,.own false,(.sl .own .str)⟩],[⟨4,.own false,(.sl .own .str)⟩],[2,3,4,5,6,7,8,9,10,11,12,13,14,15,16,17,18,19,20,21,22,23,24,25,26,27,28,29,30,31,32,33,34,35,36,37,38,39,40,41,42,43,44,45,46,47,48,49,50,51,52,53,54,55,56]⟩)] [⟨2,.own false,(.sl .own .str)⟩,⟨3,.val,.bool⟩]
theorem c_i_order (N:Nat):CtrX Tryz.prog Vp 124 ⟨[.no],[(.sl .lend t75l)],[.val,.val],[(.sl .own .str),.bool],i_order N⟩ :=
 mk_ctrX (E:=E_i_order N) (A:=A_i_order) (N:=N) (pl:=[⟨0,.val,(.sl .lend t75l)⟩]) (io:=[.no]) (ks:=[.val,.val]) ⟨tabP_ok,lkF (k_35 N) (c_g_slices_Contains_string_string_ N) (lkF (k_122 N) (c_i_areIn N) lk0),lk0,nI⟩ hmO Tryz.func124 (by kernel_rfl) (F:=i_order N) (funext fun x=>by kernel_rfl)
abbrev k_121 (N:Nat):Nat×Fn:=(121,⟨[(.sl .lend t75l)],[(.sl .own .str)],i_namesOfSrcs N⟩)
abbrev k_124 (N:Nat):Nat×Fx:=(124,⟨[.no],[(.sl .lend t75l)],[.val,.val],[(.sl .own .str),.bool],i_order N⟩)
noncomputable def E_i_Order (N:Nat):=cz 33 [] [k_116 N,k_121 N,k_122 N,k_123 N] [k_124 N]
def A_i_Order:=an [] [(0,⟨[⟨4,.own false,(.sl .own .str)⟩,⟨11,.val,(.int .i64)⟩],[⟨4,.own false,(.sl .own .str)⟩],[2,3,6,11,12,13,14,15,16,17,18,19,20,21,22,23,24,25]⟩)] [⟨2,.own false,(.sl .own .str)⟩,⟨3,.val,.bool⟩]
theorem c_i_Order (N:Nat):CtrX Tryz.prog Vp 68 ⟨[.no],[(.sl .lend t75l)],[.val,.val],[(.sl .own .str),.bool],i_Order N⟩ :=
 mk_ctrX (E:=E_i_Order N) (A:=A_i_Order) (N:=N) (pl:=[⟨0,.val,(.sl .lend t75l)⟩]) (io:=[.no]) (ks:=[.val,.val]) ⟨tabP_ok,lkF (k_116 N) (c_i_SrcOk N) (lkF (k_121 N) (c_i_namesOfSrcs N) (lkF (k_122 N) (c_i_areIn N) (lkF (k_123 N) (c_i_isOnce N) lk0))),lkX (k_124 N) (c_i_order N) lk0,nI⟩ hmO Tryz.func68 (by kernel_rfl) (F:=i_Order N) (funext fun x=>by kernel_rfl)
noncomputable def E_i_srcsOf (N:Nat):=cz 19 [(15,t75k),(16,t75k)] [] []
def A_i_srcsOf:=an [] [(0,⟨[⟨3,.own false,(.sl .own t75k)⟩,⟨8,.val,(.int .i64)⟩],[⟨3,.own false,(.sl .own t75k)⟩],[3,5,8,9,10,11,12,13,14,15,16,17]⟩)] [⟨2,.own false,(.sl .own t75k)⟩]
theorem c_i_srcsOf (N:Nat):Ctr Tryz.prog Vp 69 ⟨[(.sl .keep t77k)],[(.sl .own t75k)],i_srcsOf N⟩ :=
 mk_ctr (E:=E_i_srcsOf N) (A:=A_i_srcsOf) (N:=N) (pl:=[⟨0,.val,(.sl .keep t77k)⟩]) ⟨tabP_ok,lk0,lk0,nI⟩ hmO Tryz.func69 (by kernel_rfl) (F:=i_srcsOf N) (funext fun x=>by kernel_rfl)
abbrev k_65 (N:Nat):Nat×Fn:=(65,⟨[t26l],[.bool],i_SysOk N⟩)
abbrev k_69 (N:Nat):Nat×Fn:=(69,⟨[(.sl .keep t77k)],[(.sl .own t75k)],i_srcsOf N⟩)
abbrev k_66 (N:Nat):Nat×Fx:=(66,⟨[.look,.no],[t30l,t77l],[.val],[.bool],i_World_entOk N⟩)
abbrev k_67 (N:Nat):Nat×Fx:=(67,⟨[.look,.no],[t26l,t106l],[.val],[.bool],i_Sys_machineOk N⟩)
abbrev k_68 (N:Nat):Nat×Fx:=(68,⟨[.no],[(.sl .lend t75l)],[.val,.val],[(.sl .own .str),.bool],i_Order N⟩)
noncomputable def E_i_WorldOk (N:Nat):=cz 108 [] [k_64 N,k_65 N,k_69 N] [k_66 N,k_67 N,k_68 N]
def A_i_WorldOk:An:={ join:=look [],loop:=look [(0,⟨[⟨34,.val,(.int .i64)⟩],[],[2,3,4,34,35,36,37,38,39,40,41,42,43,44,45,46,47,48,49,50,51,52,53,54,55,56,57,58,59,60]⟩),(2,⟨[⟨64,.val,(.int .i64)⟩],[],[2,5,6,64,65,66,67,68,69,70,71,72,73,74,75,76,77,78,79,80,81,82,83,84,85,86,87,88,89,90,91,92,93,94,95,96,97,98,99]⟩)],ret:=[⟨2,.val,.bool⟩],frz:=look [(1,1),(6,4),(12,6)] }
theorem c_i_WorldOk_k (N:Nat):Ctr Tryz.prog Vp 30 ⟨[t30k],[.bool],i_WorldOk N⟩ :=
 mk_ctr (E:=E_i_WorldOk N) (A:=A_i_WorldOk) (N:=N) (pl:=[⟨0,.val,t30k⟩]) ⟨tabP_ok,lkF (k_64 N) (c_i_inRange N) (lkF (k_65 N) (c_i_SysOk N) (lkF (k_69 N) (c_i_srcsOf N) lk0)),lkX (k_66 N) (c_i_World_entOk N) (lkX (k_67 N) (c_i_Sys_machineOk N) (lkX (k_68 N) (c_i_Order N) lk0)),nI⟩ hmO Tryz.func30 (by kernel_rfl) (F:=i_WorldOk N) (funext fun x=>by kernel_rfl)
theorem c_i_WorldOk (N:Nat):Ctr Tryz.prog Vp 30 ⟨[t30l],[.bool],i_WorldOk N⟩ :=
 Ctr.lent (ps:=[t30l]) (rs:=[.bool]) (F:=i_WorldOk N) rfl (c_i_WorldOk_k N)
abbrev k_30 (N:Nat):Nat×Fn:=(30,⟨[t30l],[.bool],i_WorldOk N⟩)
noncomputable def E_l_eqStringS (N:Nat):=cz 26 [] [] []
def A_l_eqStringS:=an [] [(0,⟨[⟨5,.val,(.int .i64)⟩],[],[4,5,11,12,13,14,15,16,17,18,19,20,21,22,23,24,25]⟩)] [⟨4,.val,.bool⟩]
theorem c_l_eqStringS (N:Nat):Ctr Tryz.prog Vp 14 ⟨[(.sl .lend .str),(.sl .lend .str)],[.bool],l_eqStringS N⟩ :=
 mk_ctr (E:=E_l_eqStringS N) (A:=A_l_eqStringS) (N:=N) (pl:=[⟨0,.val,(.sl .lend .str)⟩,⟨1,.val,(.sl .lend .str)⟩]) ⟨tabP_ok,lk0,lk0,nI⟩ hmO Tryz.func14 (by kernel_rfl) (F:=l_eqStringS N) (funext fun x=>by kernel_rfl)
noncomputable def E_l_eqValue (N:Nat):=cz 20 [] [] []
def A_l_eqValue:=an [] [] [⟨4,.val,.bool⟩]
theorem c_l_eqValue (N:Nat):Ctr Tryz.prog Vp 183 ⟨[t103o,t103o],[.bool],l_eqValue N⟩ :=
 mk_ctr (E:=E_l_eqValue N) (A:=A_l_eqValue) (N:=N) (pl:=[⟨0,.val,t103o⟩,⟨1,.val,t103o⟩]) ⟨tabP_ok,lk0,lk0,nI⟩ hmO Tryz.func183 (by kernel_rfl) (F:=l_eqValue N) (funext fun x=>by kernel_rfl)
abbrev k_183 (N:Nat):Nat×Fn:=(183,⟨[t103o,t103o],[.bool],l_eqValue N⟩)
noncomputable def E_l_eqValueS (N:Nat):=cz 27 [] [k_183 N] []
def A_l_eqValueS:=an [] [(0,⟨[⟨5,.val,(.int .i64)⟩],[],[4,5,11,12,13,14,15,16,17,18,19,20,21,22,23,24,25,26]⟩)] [⟨4,.val,.bool⟩]
theorem c_l_eqValueS (N:Nat):Ctr Tryz.prog Vp 177 ⟨[(.sl .lend t103o),(.sl .lend t103o)],[.bool],l_eqValueS N⟩ :=
 mk_ctr (E:=E_l_eqValueS N) (A:=A_l_eqValueS) (N:=N) (pl:=[⟨0,.val,(.sl .lend t103o)⟩,⟨1,.val,(.sl .lend t103o)⟩]) ⟨tabP_ok,lkF (k_183 N) (c_l_eqValue N) lk0,lk0,nI⟩ hmO Tryz.func177 (by kernel_rfl) (F:=l_eqValueS N) (funext fun x=>by kernel_rfl)
abbrev k_14 (N:Nat):Nat×Fn:=(14,⟨[(.sl .lend .str),(.sl .lend .str)],[.bool],l_eqStringS N⟩)
abbrev k_177 (N:Nat):Nat×Fn:=(177,⟨[(.sl .lend t103o),(.sl .lend t103o)],[.bool],l_eqValueS N⟩)
noncomputable def E_l_eqCell (N:Nat):=cz 37 [] [k_14 N,k_177 N] []
def A_l_eqCell:=an [] [] [⟨4,.val,.bool⟩]
theorem c_l_eqCell (N:Nat):Ctr Tryz.prog Vp 125 ⟨[t64l,t64l],[.bool],l_eqCell N⟩ :=
 mk_ctr (E:=E_l_eqCell N) (A:=A_l_eqCell) (N:=N) (pl:=[⟨0,.val,t64l⟩,⟨1,.val,t64l⟩]) ⟨tabP_ok,lkF (k_14 N) (c_l_eqStringS N) (lkF (k_177 N) (c_l_eqValueS N) lk0),lk0,nI⟩ hmO Tryz.func125 (by kernel_rfl) (F:=l_eqCell N) (funext fun x=>by kernel_rfl)
abbrev k_125 (N:Nat):Nat×Fn:=(125,⟨[t64l,t64l],[.bool],l_eqCell N⟩)
noncomputable def E_l_eqCellS (N:Nat):=cz 27 [] [k_125 N] []
def A_l_eqCellS:=an [] [(0,⟨[⟨5,.val,(.int .i64)⟩],[],[4,5,11,12,13,14,15,16,17,18,19,20,21,22,23,24,25,26]⟩)] [⟨4,.val,.bool⟩]
theorem c_l_eqCellS (N:Nat):Ctr Tryz.prog Vp 70 ⟨[(.sl .lend t64l),(.sl .lend t64l)],[.bool],l_eqCellS N⟩ :=
 mk_ctr (E:=E_l_eqCellS N) (A:=A_l_eqCellS) (N:=N) (pl:=[⟨0,.val,(.sl .lend t64l)⟩,⟨1,.val,(.sl .lend t64l)⟩]) ⟨tabP_ok,lkF (k_125 N) (c_l_eqCell N) lk0,lk0,nI⟩ hmO Tryz.func70 (by kernel_rfl) (F:=l_eqCellS N) (funext fun x=>by kernel_rfl)
noncomputable def E_l_eqLink (N:Nat):=cz 20 [] [] []
def A_l_eqLink:=an [] [] [⟨4,.val,.bool⟩]
theorem c_l_eqLink (N:Nat):Ctr Tryz.prog Vp 210 ⟨[t228o,t228o],[.bool],l_eqLink N⟩ :=
 mk_ctr (E:=E_l_eqLink N) (A:=A_l_eqLink) (N:=N) (pl:=[⟨0,.val,t228o⟩,⟨1,.val,t228o⟩]) ⟨tabP_ok,lk0,lk0,nI⟩ hmO Tryz.func210 (by kernel_rfl) (F:=l_eqLink N) (funext fun x=>by kernel_rfl)
abbrev k_210 (N:Nat):Nat×Fn:=(210,⟨[t228o,t228o],[.bool],l_eqLink N⟩)
noncomputable def E_l_eqLinkS (N:Nat):=cz 27 [] [k_210 N] []
def A_l_eqLinkS:=an [] [(0,⟨[⟨5,.val,(.int .i64)⟩],[],[4,5,11,12,13,14,15,16,17,18,19,20,21,22,23,24,25,26]⟩)] [⟨4,.val,.bool⟩]
theorem c_l_eqLinkS (N:Nat):Ctr Tryz.prog Vp 178 ⟨[(.sl .lend t228o),(.sl .lend t228o)],[.bool],l_eqLinkS N⟩ :=
 mk_ctr (E:=E_l_eqLinkS N) (A:=A_l_eqLinkS) (N:=N) (pl:=[⟨0,.val,(.sl .lend t228o)⟩,⟨1,.val,(.sl .lend t228o)⟩]) ⟨tabP_ok,lkF (k_210 N) (c_l_eqLink N) lk0,lk0,nI⟩ hmO Tryz.func178 (by kernel_rfl) (F:=l_eqLinkS N) (funext fun x=>by kernel_rfl)
noncomputable def E_l_eqType (N:Nat):=cz 15 [] [] []
def A_l_eqType:=an [] [] [⟨4,.val,.bool⟩]
theorem c_l_eqType (N:Nat):Ctr Tryz.prog Vp 211 ⟨[(.pair .str (.pair (.int .i64) .unit)),(.pair .str (.pair (.int .i64) .unit))],[.bool],l_eqType N⟩ :=
 mk_ctr (E:=E_l_eqType N) (A:=A_l_eqType) (N:=N) (pl:=[⟨0,.val,(.pair .str (.pair (.int .i64) .unit))⟩,⟨1,.val,(.pair .str (.pair (.int .i64) .unit))⟩]) ⟨tabP_ok,lk0,lk0,nI⟩ hmO Tryz.func211 (by kernel_rfl) (F:=l_eqType N) (funext fun x=>by kernel_rfl)
abbrev k_211 (N:Nat):Nat×Fn:=(211,⟨[(.pair .str (.pair (.int .i64) .unit)),(.pair .str (.pair (.int .i64) .unit))],[.bool],l_eqType N⟩)
noncomputable def E_l_eqTypeS (N:Nat):=cz 27 [] [k_211 N] []
def A_l_eqTypeS:=an [] [(0,⟨[⟨5,.val,(.int .i64)⟩],[],[4,5,11,12,13,14,15,16,17,18,19,20,21,22,23,24,25,26]⟩)] [⟨4,.val,.bool⟩]
theorem c_l_eqTypeS (N:Nat):Ctr Tryz.prog Vp 179 ⟨[(.sl .lend (.pair .str (.pair (.int .i64) .unit))),(.sl .lend (.pair .str (.pair (.int .i64) .unit)))],[.bool],l_eqTypeS N⟩ :=
 mk_ctr (E:=E_l_eqTypeS N) (A:=A_l_eqTypeS) (N:=N) (pl:=[⟨0,.val,(.sl .lend (.pair .str (.pair (.int .i64) .unit)))⟩,⟨1,.val,(.sl .lend (.pair .str (.pair (.int .i64) .unit)))⟩]) ⟨tabP_ok,lkF (k_211 N) (c_l_eqType N) lk0,lk0,nI⟩ hmO Tryz.func179 (by kernel_rfl) (F:=l_eqTypeS N) (funext fun x=>by kernel_rfl)
abbrev k_178 (N:Nat):Nat×Fn:=(178,⟨[(.sl .lend t228o),(.sl .lend t228o)],[.bool],l_eqLinkS N⟩)
abbrev k_179 (N:Nat):Nat×Fn:=(179,⟨[(.sl .lend (.pair .str (.pair (.int .i64) .unit))),(.sl .lend (.pair .str (.pair (.int .i64) .unit)))],[.bool],l_eqTypeS N⟩)
noncomputable def E_l_eqInst (N:Nat):=cz 39 [] [k_14 N,k_177 N,k_178 N,k_179 N] []
def A_l_eqInst:=an [] [] [⟨4,.val,.bool⟩]
theorem c_l_eqInst (N:Nat):Ctr Tryz.prog Vp 126 ⟨[t114l,t114l],[.bool],l_eqInst N⟩ :=
 mk_ctr (E:=E_l_eqInst N) (A:=A_l_eqInst) (N:=N) (pl:=[⟨0,.val,t114l⟩,⟨1,.val,t114l⟩]) ⟨tabP_ok,lkF (k_14 N) (c_l_eqStringS N) (lkF (k_177 N) (c_l_eqValueS N) (lkF (k_178 N) (c_l_eqLinkS N) (lkF (k_179 N) (c_l_eqTypeS N) lk0))),lk0,nI⟩ hmO Tryz.func126 (by kernel_rfl) (F:=l_eqInst N) (funext fun x=>by kernel_rfl)
abbrev k_126 (N:Nat):Nat×Fn:=(126,⟨[t114l,t114l],[.bool],l_eqInst N⟩)
noncomputable def E_l_eqInstS (N:Nat):=cz 27 [] [k_126 N] []
def A_l_eqInstS:=an [] [(0,⟨[⟨5,.val,(.int .i64)⟩],[],[4,5,11,12,13,14,15,16,17,18,19,20,21,22,23,24,25,26]⟩)] [⟨4,.val,.bool⟩]
theorem c_l_eqInstS (N:Nat):Ctr Tryz.prog Vp 71 ⟨[(.sl .lend t114l),(.sl .lend t114l)],[.bool],l_eqInstS N⟩ :=
 mk_ctr (E:=E_l_eqInstS N) (A:=A_l_eqInstS) (N:=N) (pl:=[⟨0,.val,(.sl .lend t114l)⟩,⟨1,.val,(.sl .lend t114l)⟩]) ⟨tabP_ok,lkF (k_126 N) (c_l_eqInst N) lk0,lk0,nI⟩ hmO Tryz.func71 (by kernel_rfl) (F:=l_eqInstS N) (funext fun x=>by kernel_rfl)
noncomputable def E_l_eqIntS (N:Nat):=cz 26 [] [] []
def A_l_eqIntS:=an [] [(0,⟨[⟨5,.val,(.int .i64)⟩],[],[4,5,11,12,13,14,15,16,17,18,19,20,21,22,23,24,25]⟩)] [⟨4,.val,.bool⟩]
theorem c_l_eqIntS (N:Nat):Ctr Tryz.prog Vp 235 ⟨[(.sl .lend (.int .i64)),(.sl .lend (.int .i64))],[.bool],l_eqIntS N⟩ :=
 mk_ctr (E:=E_l_eqIntS N) (A:=A_l_eqIntS) (N:=N) (pl:=[⟨0,.val,(.sl .lend (.int .i64))⟩,⟨1,.val,(.sl .lend (.int .i64))⟩]) ⟨tabP_ok,lk0,lk0,nI⟩ hmO Tryz.func235 (by kernel_rfl) (F:=l_eqIntS N) (funext fun x=>by kernel_rfl)
abbrev k_235 (N:Nat):Nat×Fn:=(235,⟨[(.sl .lend (.int .i64)),(.sl .lend (.int .i64))],[.bool],l_eqIntS N⟩)
noncomputable def E_l_eqNode (N:Nat):=cz 32 [] [k_14 N,k_235 N] []
def A_l_eqNode:=an [] [] [⟨4,.val,.bool⟩]
theorem c_l_eqNode (N:Nat):Ctr Tryz.prog Vp 226 ⟨[t180l,t180l],[.bool],l_eqNode N⟩ :=
 mk_ctr (E:=E_l_eqNode N) (A:=A_l_eqNode) (N:=N) (pl:=[⟨0,.val,t180l⟩,⟨1,.val,t180l⟩]) ⟨tabP_ok,lkF (k_14 N) (c_l_eqStringS N) (lkF (k_235 N) (c_l_eqIntS N) lk0),lk0,nI⟩ hmO Tryz.func226 (by kernel_rfl) (F:=l_eqNode N) (funext fun x=>by kernel_rfl)
abbrev k_226 (N:Nat):Nat×Fn:=(226,⟨[t180l,t180l],[.bool],l_eqNode N⟩)
noncomputable def E_l_eqNodeS (N:Nat):=cz 27 [] [k_226 N] []
def A_l_eqNodeS:=an [] [(0,⟨[⟨5,.val,(.int .i64)⟩],[],[4,5,11,12,13,14,15,16,17,18,19,20,21,22,23,24,25,26]⟩)] [⟨4,.val,.bool⟩]
theorem c_l_eqNodeS (N:Nat):Ctr Tryz.prog Vp 212 ⟨[(.sl .lend t180l),(.sl .lend t180l)],[.bool],l_eqNodeS N⟩ :=
 mk_ctr (E:=E_l_eqNodeS N) (A:=A_l_eqNodeS) (N:=N) (pl:=[⟨0,.val,(.sl .lend t180l)⟩,⟨1,.val,(.sl .lend t180l)⟩]) ⟨tabP_ok,lkF (k_226 N) (c_l_eqNode N) lk0,lk0,nI⟩ hmO Tryz.func212 (by kernel_rfl) (F:=l_eqNodeS N) (funext fun x=>by kernel_rfl)
abbrev k_212 (N:Nat):Nat×Fn:=(212,⟨[(.sl .lend t180l),(.sl .lend t180l)],[.bool],l_eqNodeS N⟩)
noncomputable def E_l_eqProg (N:Nat):=cz 16 [] [k_212 N] []
def A_l_eqProg:=an [] [] [⟨4,.val,.bool⟩]
theorem c_l_eqProg (N:Nat):Ctr Tryz.prog Vp 180 ⟨[t165l,t165l],[.bool],l_eqProg N⟩ :=
 mk_ctr (E:=E_l_eqProg N) (A:=A_l_eqProg) (N:=N) (pl:=[⟨0,.val,t165l⟩,⟨1,.val,t165l⟩]) ⟨tabP_ok,lkF (k_212 N) (c_l_eqNodeS N) lk0,lk0,nI⟩ hmO Tryz.func180 (by kernel_rfl) (F:=l_eqProg N) (funext fun x=>by kernel_rfl)
abbrev k_180 (N:Nat):Nat×Fn:=(180,⟨[t165l,t165l],[.bool],l_eqProg N⟩)
noncomputable def E_l_eqUnit (N:Nat):=cz 16 [] [k_180 N] []
def A_l_eqUnit:=an [] [] [⟨4,.val,.bool⟩]
theorem c_l_eqUnit (N:Nat):Ctr Tryz.prog Vp 127 ⟨[t167l,t167l],[.bool],l_eqUnit N⟩ :=
 mk_ctr (E:=E_l_eqUnit N) (A:=A_l_eqUnit) (N:=N) (pl:=[⟨0,.val,t167l⟩,⟨1,.val,t167l⟩]) ⟨tabP_ok,lkF (k_180 N) (c_l_eqProg N) lk0,lk0,nI⟩ hmO Tryz.func127 (by kernel_rfl) (F:=l_eqUnit N) (funext fun x=>by kernel_rfl)
abbrev k_127 (N:Nat):Nat×Fn:=(127,⟨[t167l,t167l],[.bool],l_eqUnit N⟩)
noncomputable def E_l_eqUnitS (N:Nat):=cz 27 [] [k_127 N] []
def A_l_eqUnitS:=an [] [(0,⟨[⟨5,.val,(.int .i64)⟩],[],[4,5,11,12,13,14,15,16,17,18,19,20,21,22,23,24,25,26]⟩)] [⟨4,.val,.bool⟩]
theorem c_l_eqUnitS (N:Nat):Ctr Tryz.prog Vp 72 ⟨[(.sl .lend t167l),(.sl .lend t167l)],[.bool],l_eqUnitS N⟩ :=
 mk_ctr (E:=E_l_eqUnitS N) (A:=A_l_eqUnitS) (N:=N) (pl:=[⟨0,.val,(.sl .lend t167l)⟩,⟨1,.val,(.sl .lend t167l)⟩]) ⟨tabP_ok,lkF (k_127 N) (c_l_eqUnit N) lk0,lk0,nI⟩ hmO Tryz.func72 (by kernel_rfl) (F:=l_eqUnitS N) (funext fun x=>by kernel_rfl)
abbrev k_70 (N:Nat):Nat×Fn:=(70,⟨[(.sl .lend t64l),(.sl .lend t64l)],[.bool],l_eqCellS N⟩)
abbrev k_71 (N:Nat):Nat×Fn:=(71,⟨[(.sl .lend t114l),(.sl .lend t114l)],[.bool],l_eqInstS N⟩)
abbrev k_72 (N:Nat):Nat×Fn:=(72,⟨[(.sl .lend t167l),(.sl .lend t167l)],[.bool],l_eqUnitS N⟩)
noncomputable def E_l_eqSys (N:Nat):=cz 29 [] [k_14 N,k_70 N,k_71 N,k_72 N] []
def A_l_eqSys:=an [] [] [⟨4,.val,.bool⟩]
theorem c_l_eqSys (N:Nat):Ctr Tryz.prog Vp 31 ⟨[t26l,t26l],[.bool],l_eqSys N⟩ :=
 mk_ctr (E:=E_l_eqSys N) (A:=A_l_eqSys) (N:=N) (pl:=[⟨0,.val,t26l⟩,⟨1,.val,t26l⟩]) ⟨tabP_ok,lkF (k_14 N) (c_l_eqStringS N) (lkF (k_70 N) (c_l_eqCellS N) (lkF (k_71 N) (c_l_eqInstS N) (lkF (k_72 N) (c_l_eqUnitS N) lk0))),lk0,nI⟩ hmO Tryz.func31 (by kernel_rfl) (F:=l_eqSys N) (funext fun x=>by kernel_rfl)
noncomputable def E_l_eqDef (N:Nat):=cz 16 [] [k_180 N] []
def A_l_eqDef:=an [] [] [⟨4,.val,.bool⟩]
theorem c_l_eqDef (N:Nat):Ctr Tryz.prog Vp 213 ⟨[t188l,t188l],[.bool],l_eqDef N⟩ :=
 mk_ctr (E:=E_l_eqDef N) (A:=A_l_eqDef) (N:=N) (pl:=[⟨0,.val,t188l⟩,⟨1,.val,t188l⟩]) ⟨tabP_ok,lkF (k_180 N) (c_l_eqProg N) lk0,lk0,nI⟩ hmO Tryz.func213 (by kernel_rfl) (F:=l_eqDef N) (funext fun x=>by kernel_rfl)
abbrev k_213 (N:Nat):Nat×Fn:=(213,⟨[t188l,t188l],[.bool],l_eqDef N⟩)
noncomputable def E_l_eqDefS (N:Nat):=cz 27 [] [k_213 N] []
def A_l_eqDefS:=an [] [(0,⟨[⟨5,.val,(.int .i64)⟩],[],[4,5,11,12,13,14,15,16,17,18,19,20,21,22,23,24,25,26]⟩)] [⟨4,.val,.bool⟩]
theorem c_l_eqDefS (N:Nat):Ctr Tryz.prog Vp 181 ⟨[(.sl .lend t188l),(.sl .lend t188l)],[.bool],l_eqDefS N⟩ :=
 mk_ctr (E:=E_l_eqDefS N) (A:=A_l_eqDefS) (N:=N) (pl:=[⟨0,.val,(.sl .lend t188l)⟩,⟨1,.val,(.sl .lend t188l)⟩]) ⟨tabP_ok,lkF (k_213 N) (c_l_eqDef N) lk0,lk0,nI⟩ hmO Tryz.func181 (by kernel_rfl) (F:=l_eqDefS N) (funext fun x=>by kernel_rfl)
abbrev k_181 (N:Nat):Nat×Fn:=(181,⟨[(.sl .lend t188l),(.sl .lend t188l)],[.bool],l_eqDefS N⟩)
noncomputable def E_l_eqSrc (N:Nat):=cz 40 [] [k_14 N,k_179 N,k_181 N] []
def A_l_eqSrc:=an [] [] [⟨4,.val,.bool⟩]
theorem c_l_eqSrc (N:Nat):Ctr Tryz.prog Vp 128 ⟨[t75l,t75l],[.bool],l_eqSrc N⟩ :=
 mk_ctr (E:=E_l_eqSrc N) (A:=A_l_eqSrc) (N:=N) (pl:=[⟨0,.val,t75l⟩,⟨1,.val,t75l⟩]) ⟨tabP_ok,lkF (k_14 N) (c_l_eqStringS N) (lkF (k_179 N) (c_l_eqTypeS N) (lkF (k_181 N) (c_l_eqDefS N) lk0)),lk0,nI⟩ hmO Tryz.func128 (by kernel_rfl) (F:=l_eqSrc N) (funext fun x=>by kernel_rfl)
abbrev k_128 (N:Nat):Nat×Fn:=(128,⟨[t75l,t75l],[.bool],l_eqSrc N⟩)
noncomputable def E_l_eqEnt (N:Nat):=cz 21 [] [k_128 N] []
def A_l_eqEnt:=an [] [] [⟨4,.val,.bool⟩]
theorem c_l_eqEnt (N:Nat):Ctr Tryz.prog Vp 73 ⟨[t77l,t77l],[.bool],l_eqEnt N⟩ :=
 mk_ctr (E:=E_l_eqEnt N) (A:=A_l_eqEnt) (N:=N) (pl:=[⟨0,.val,t77l⟩,⟨1,.val,t77l⟩]) ⟨tabP_ok,lkF (k_128 N) (c_l_eqSrc N) lk0,lk0,nI⟩ hmO Tryz.func73 (by kernel_rfl) (F:=l_eqEnt N) (funext fun x=>by kernel_rfl)
abbrev k_73 (N:Nat):Nat×Fn:=(73,⟨[t77l,t77l],[.bool],l_eqEnt N⟩)
noncomputable def E_l_eqEntS (N:Nat):=cz 27 [] [k_73 N] []
def A_l_eqEntS:=an [] [(0,⟨[⟨5,.val,(.int .i64)⟩],[],[4,5,11,12,13,14,15,16,17,18,19,20,21,22,23,24,25,26]⟩)] [⟨4,.val,.bool⟩]
theorem c_l_eqEntS (N:Nat):Ctr Tryz.prog Vp 32 ⟨[(.sl .lend t77l),(.sl .lend t77l)],[.bool],l_eqEntS N⟩ :=
 mk_ctr (E:=E_l_eqEntS N) (A:=A_l_eqEntS) (N:=N) (pl:=[⟨0,.val,(.sl .lend t77l)⟩,⟨1,.val,(.sl .lend t77l)⟩]) ⟨tabP_ok,lkF (k_73 N) (c_l_eqEnt N) lk0,lk0,nI⟩ hmO Tryz.func32 (by kernel_rfl) (F:=l_eqEntS N) (funext fun x=>by kernel_rfl)
noncomputable def E_l_eqBind (N:Nat):=cz 16 [] [k_183 N] []
def A_l_eqBind:=an [] [] [⟨4,.val,.bool⟩]
theorem c_l_eqBind (N:Nat):Ctr Tryz.prog Vp 214 ⟨[t216o,t216o],[.bool],l_eqBind N⟩ :=
 mk_ctr (E:=E_l_eqBind N) (A:=A_l_eqBind) (N:=N) (pl:=[⟨0,.val,t216o⟩,⟨1,.val,t216o⟩]) ⟨tabP_ok,lkF (k_183 N) (c_l_eqValue N) lk0,lk0,nI⟩ hmO Tryz.func214 (by kernel_rfl) (F:=l_eqBind N) (funext fun x=>by kernel_rfl)
abbrev k_214 (N:Nat):Nat×Fn:=(214,⟨[t216o,t216o],[.bool],l_eqBind N⟩)
noncomputable def E_l_eqBindS (N:Nat):=cz 27 [] [k_214 N] []
def A_l_eqBindS:=an [] [(0,⟨[⟨5,.val,(.int .i64)⟩],[],[4,5,11,12,13,14,15,16,17,18,19,20,21,22,23,24,25,26]⟩)] [⟨4,.val,.bool⟩]
theorem c_l_eqBindS (N:Nat):Ctr Tryz.prog Vp 182 ⟨[(.sl .lend t216o),(.sl .lend t216o)],[.bool],l_eqBindS N⟩ :=
 mk_ctr (E:=E_l_eqBindS N) (A:=A_l_eqBindS) (N:=N) (pl:=[⟨0,.val,(.sl .lend t216o)⟩,⟨1,.val,(.sl .lend t216o)⟩]) ⟨tabP_ok,lkF (k_214 N) (c_l_eqBind N) lk0,lk0,nI⟩ hmO Tryz.func182 (by kernel_rfl) (F:=l_eqBindS N) (funext fun x=>by kernel_rfl)
abbrev k_182 (N:Nat):Nat×Fn:=(182,⟨[(.sl .lend t216o),(.sl .lend t216o)],[.bool],l_eqBindS N⟩)
noncomputable def E_l_eqFrame (N:Nat):=cz 27 [] [k_177 N,k_182 N] []
def A_l_eqFrame:=an [] [] [⟨4,.val,.bool⟩]
theorem c_l_eqFrame (N:Nat):Ctr Tryz.prog Vp 215 ⟨[t194l,t194l],[.bool],l_eqFrame N⟩ :=
 mk_ctr (E:=E_l_eqFrame N) (A:=A_l_eqFrame) (N:=N) (pl:=[⟨0,.val,t194l⟩,⟨1,.val,t194l⟩]) ⟨tabP_ok,lkF (k_177 N) (c_l_eqValueS N) (lkF (k_182 N) (c_l_eqBindS N) lk0),lk0,nI⟩ hmO Tryz.func215 (by kernel_rfl) (F:=l_eqFrame N) (funext fun x=>by kernel_rfl)
abbrev k_215 (N:Nat):Nat×Fn:=(215,⟨[t194l,t194l],[.bool],l_eqFrame N⟩)
noncomputable def E_l_eqFrameS (N:Nat):=cz 27 [] [k_215 N] []
def A_l_eqFrameS:=an [] [(0,⟨[⟨5,.val,(.int .i64)⟩],[],[4,5,11,12,13,14,15,16,17,18,19,20,21,22,23,24,25,26]⟩)] [⟨4,.val,.bool⟩]
theorem c_l_eqFrameS (N:Nat):Ctr Tryz.prog Vp 184 ⟨[(.sl .lend t194l),(.sl .lend t194l)],[.bool],l_eqFrameS N⟩ :=
 mk_ctr (E:=E_l_eqFrameS N) (A:=A_l_eqFrameS) (N:=N) (pl:=[⟨0,.val,(.sl .lend t194l)⟩,⟨1,.val,(.sl .lend t194l)⟩]) ⟨tabP_ok,lkF (k_215 N) (c_l_eqFrame N) lk0,lk0,nI⟩ hmO Tryz.func184 (by kernel_rfl) (F:=l_eqFrameS N) (funext fun x=>by kernel_rfl)
abbrev k_184 (N:Nat):Nat×Fn:=(184,⟨[(.sl .lend t194l),(.sl .lend t194l)],[.bool],l_eqFrameS N⟩)
noncomputable def E_l_eqMachine (N:Nat):=cz 43 [] [k_182 N,k_183 N,k_184 N] []
def A_l_eqMachine:=an [] [] [⟨4,.val,.bool⟩]
theorem c_l_eqMachine (N:Nat):Ctr Tryz.prog Vp 129 ⟨[t106l,t106l],[.bool],l_eqMachine N⟩ :=
 mk_ctr (E:=E_l_eqMachine N) (A:=A_l_eqMachine) (N:=N) (pl:=[⟨0,.val,t106l⟩,⟨1,.val,t106l⟩]) ⟨tabP_ok,lkF (k_182 N) (c_l_eqBindS N) (lkF (k_183 N) (c_l_eqValue N) (lkF (k_184 N) (c_l_eqFrameS N) lk0)),lk0,nI⟩ hmO Tryz.func129 (by kernel_rfl) (F:=l_eqMachine N) (funext fun x=>by kernel_rfl)
abbrev k_129 (N:Nat):Nat×Fn:=(129,⟨[t106l,t106l],[.bool],l_eqMachine N⟩)
noncomputable def E_l_eqTask (N:Nat):=cz 16 [] [k_129 N] []
def A_l_eqTask:=an [] [] [⟨4,.val,.bool⟩]
theorem c_l_eqTask (N:Nat):Ctr Tryz.prog Vp 74 ⟨[t108l,t108l],[.bool],l_eqTask N⟩ :=
 mk_ctr (E:=E_l_eqTask N) (A:=A_l_eqTask) (N:=N) (pl:=[⟨0,.val,t108l⟩,⟨1,.val,t108l⟩]) ⟨tabP_ok,lkF (k_129 N) (c_l_eqMachine N) lk0,lk0,nI⟩ hmO Tryz.func74 (by kernel_rfl) (F:=l_eqTask N) (funext fun x=>by kernel_rfl)
abbrev k_74 (N:Nat):Nat×Fn:=(74,⟨[t108l,t108l],[.bool],l_eqTask N⟩)
noncomputable def E_l_eqTaskS (N:Nat):=cz 27 [] [k_74 N] []
def A_l_eqTaskS:=an [] [(0,⟨[⟨5,.val,(.int .i64)⟩],[],[4,5,11,12,13,14,15,16,17,18,19,20,21,22,23,24,25,26]⟩)] [⟨4,.val,.bool⟩]
theorem c_l_eqTaskS (N:Nat):Ctr Tryz.prog Vp 33 ⟨[(.sl .lend t108l),(.sl .lend t108l)],[.bool],l_eqTaskS N⟩ :=
 mk_ctr (E:=E_l_eqTaskS N) (A:=A_l_eqTaskS) (N:=N) (pl:=[⟨0,.val,(.sl .lend t108l)⟩,⟨1,.val,(.sl .lend t108l)⟩]) ⟨tabP_ok,lkF (k_74 N) (c_l_eqTask N) lk0,lk0,nI⟩ hmO Tryz.func33 (by kernel_rfl) (F:=l_eqTaskS N) (funext fun x=>by kernel_rfl)
abbrev k_31 (N:Nat):Nat×Fn:=(31,⟨[t26l,t26l],[.bool],l_eqSys N⟩)
abbrev k_32 (N:Nat):Nat×Fn:=(32,⟨[(.sl .lend t77l),(.sl .lend t77l)],[.bool],l_eqEntS N⟩)
abbrev k_33 (N:Nat):Nat×Fn:=(33,⟨[(.sl .lend t108l),(.sl .lend t108l)],[.bool],l_eqTaskS N⟩)
noncomputable def E_l_eqWorld (N:Nat):=cz 28 [] [k_31 N,k_32 N,k_33 N] []
def A_l_eqWorld:=an [] [] [⟨4,.val,.bool⟩]
theorem c_l_eqWorld (N:Nat):Ctr Tryz.prog Vp 11 ⟨[t30l,t30l],[.bool],l_eqWorld N⟩ :=
 mk_ctr (E:=E_l_eqWorld N) (A:=A_l_eqWorld) (N:=N) (pl:=[⟨0,.val,t30l⟩,⟨1,.val,t30l⟩]) ⟨tabP_ok,lkF (k_31 N) (c_l_eqSys N) (lkF (k_32 N) (c_l_eqEntS N) (lkF (k_33 N) (c_l_eqTaskS N) lk0)),lk0,nI⟩ hmO Tryz.func11 (by kernel_rfl) (F:=l_eqWorld N) (funext fun x=>by kernel_rfl)
abbrev k_6 (N:Nat):Nat×Fn:=(6,⟨[t30l,(.int .i64)],[(.int .i64)],l_szWorld N⟩)
abbrev k_8 (N:Nat):Nat×Fn:=(8,⟨[t30l],[t30o],l_toWorld N⟩)
abbrev k_11 (N:Nat):Nat×Fn:=(11,⟨[t30l,t30l],[.bool],l_eqWorld N⟩)
noncomputable def E_s_Where (N:Nat):=cz 39 [(36,.str),(37,.str)] [k_26 N,k_34 N] []
def A_s_Where:=an [(27,([⟨2,.box false,t30l⟩,⟨5,.own false,(.sl .own .str)⟩],[5,28,29,30,31,32,33,34,35,36,37]))] [(0,⟨[⟨2,.box false,t30l⟩,⟨5,.own false,(.sl .own .str)⟩,⟨6,.val,(.int .i64)⟩],[⟨5,.own false,(.sl .own .str)⟩],[5,6,8,9,10,11,12,13,14,15,16,17,18,19,20,21,22,23,24,25,26,27,28,29,30,31,32,33,34,35,36,37]⟩)] [⟨4,.own false,(.sl .own .str)⟩]
theorem c_s_Where (N:Nat):Ctr Tryz.prog Vp 12 ⟨[t30l,.str],[(.sl .own .str)],s_Where N⟩ :=
 mk_ctr (E:=E_s_Where N) (A:=A_s_Where) (N:=N) (pl:=[⟨0,.val,t30l⟩,⟨1,.val,.str⟩]) ⟨tabP_ok,lkF (k_26 N) (c_s_WorldOk N) (lkF (k_34 N) (c_s_l3In N) lk0),lk0,nI⟩ hmO Tryz.func12 (by kernel_rfl) (F:=s_Where N) (funext fun x=>by kernel_rfl)
noncomputable def E_i_Where (N:Nat):=cz 31 [(27,.str),(28,.str)] [k_30 N,k_35 N] []
def A_i_Where:=an [(22,([⟨5,.own false,(.sl .own .str)⟩],[5,23,24,25,26,27,28]))] [(0,⟨[⟨5,.own false,(.sl .own .str)⟩,⟨14,.val,(.int .i64)⟩],[⟨5,.own false,(.sl .own .str)⟩],[5,7,14,15,16,17,18,19,20,21,22,23,24,25,26,27,28,29]⟩)] [⟨4,.own false,(.sl .own .str)⟩]
theorem c_i_Where (N:Nat):Ctr Tryz.prog Vp 13 ⟨[t30l,.str],[(.sl .own .str)],i_Where N⟩ :=
 mk_ctr (E:=E_i_Where N) (A:=A_i_Where) (N:=N) (pl:=[⟨0,.val,t30l⟩,⟨1,.val,.str⟩]) ⟨tabP_ok,lkF (k_30 N) (c_i_WorldOk N) (lkF (k_35 N) (c_g_slices_Contains_string_string_ N) lk0),lk0,nI⟩ hmO Tryz.func13 (by kernel_rfl) (F:=i_Where N) (funext fun x=>by kernel_rfl)
noncomputable def E_l_markText (N:Nat):=cz 20 [(12,(.int .u8))] [] []
def A_l_markText:=an [] [(0,⟨[⟨0,.val,(.int .i64)⟩,⟨3,.val,.str⟩],[⟨3,.val,.str⟩],[0,3,6,7,8,9,10,11,12,13,14,15,16,17]⟩)] [⟨2,.val,.str⟩]
theorem c_l_markText (N:Nat):Ctr Tryz.prog Vp 39 ⟨[(.int .i64)],[.str],l_markText N⟩ :=
 mk_ctr (E:=E_l_markText N) (A:=A_l_markText) (N:=N) (pl:=[⟨0,.val,(.int .i64)⟩]) ⟨tabP_ok,lk0,lk0,nI⟩ hmO Tryz.func39 (by kernel_rfl) (F:=l_markText N) (funext fun x=>by kernel_rfl)
abbrev k_39 (N:Nat):Nat×Fn:=(39,⟨[(.int .i64)],[.str],l_markText N⟩)
noncomputable def E_l_markStringS (N:Nat):=cz 20 [] [k_39 N] []
def A_l_markStringS:=an [] [(0,⟨[⟨0,.own true,(.sl .own .str)⟩,⟨1,.val,(.int .i64)⟩,⟨5,.val,(.int .i64)⟩],[⟨0,.own true,(.sl .own .str)⟩,⟨1,.val,(.int .i64)⟩],[1,5,6,7,8,9,10,11,12,13,14,15,16,17,18]⟩)] [⟨4,.val,(.int .i64)⟩,⟨0,.own true,(.sl .own .str)⟩]
theorem c_l_markStringS (N:Nat):CtrX Tryz.prog Vp 16 ⟨[.io true,.no],[(.sl .own .str),(.int .i64)],[.val,.io],[(.int .i64),(.sl .own .str)],l_markStringS N⟩ :=
 mk_ctrX (E:=E_l_markStringS N) (A:=A_l_markStringS) (N:=N) (pl:=[⟨0,.own true,(.sl .own .str)⟩,⟨1,.val,(.int .i64)⟩]) (io:=[.io true,.no]) (ks:=[.val,.io]) ⟨tabP_ok,lkF (k_39 N) (c_l_markText N) lk0,lk0,nI⟩ hmO Tryz.func16 (by kernel_rfl) (F:=l_markStringS N) (funext fun x=>by kernel_rfl)
noncomputable def E_l_markValueS (N:Nat):=cz 35 [] [k_39 N] []
def A_l_markValueS:=an [] [(0,⟨[⟨0,.own true,(.sl .own t103o)⟩,⟨1,.val,(.int .i64)⟩,⟨5,.val,(.int .i64)⟩],[⟨0,.own true,(.sl .own t103o)⟩,⟨1,.val,(.int .i64)⟩],[1,5,6,7,8,9,10,11,12,13,14,15,16,17,18,19,20,21,22,23,24,25,26,27,28,29,30,31,32,33]⟩)] [⟨4,.val,(.int .i64)⟩,⟨0,.own true,(.sl .own t103o)⟩]
theorem c_l_markValueS (N:Nat):CtrX Tryz.prog Vp 130 ⟨[.io true,.no],[(.sl .own t103o),(.int .i64)],[.val,.io],[(.int .i64),(.sl .own t103o)],l_markValueS N⟩ :=
 mk_ctrX (E:=E_l_markValueS N) (A:=A_l_markValueS) (N:=N) (pl:=[⟨0,.own true,(.sl .own t103o)⟩,⟨1,.val,(.int .i64)⟩]) (io:=[.io true,.no]) (ks:=[.val,.io]) ⟨tabP_ok,lkF (k_39 N) (c_l_markText N) lk0,lk0,nI⟩ hmO Tryz.func130 (by kernel_rfl) (F:=l_markValueS N) (funext fun x=>by kernel_rfl)
abbrev k_16 (N:Nat):Nat×Fx:=(16,⟨[.io true,.no],[(.sl .own .str),(.int .i64)],[.val,.io],[(.int .i64),(.sl .own .str)],l_markStringS N⟩)
abbrev k_130 (N:Nat):Nat×Fx:=(130,⟨[.io true,.no],[(.sl .own t103o),(.int .i64)],[.val,.io],[(.int .i64),(.sl .own t103o)],l_markValueS N⟩)
noncomputable def E_l_markCellS (N:Nat):=cz 56 [] [k_39 N] [k_16 N,k_130 N]
def A_l_markCellS:=an [] [(0,⟨[⟨0,.own true,(.sl .own t64o)⟩,⟨1,.val,(.int .i64)⟩,⟨5,.val,(.int .i64)⟩],[⟨0,.own true,(.sl .own t64o)⟩,⟨1,.val,(.int .i64)⟩],[1,5,6,7,8,9,10,11,12,13,14,15,16,17,18,19,20,21,22,23,24,25,26,27,28,29,30,31,32,33,34,35,36,37,38,39,40,41,42,43,44,45,46,47,48,49,50,51,52,53,54]⟩)] [⟨4,.val,(.int .i64)⟩,⟨0,.own true,(.sl .own t64o)⟩]
theorem c_l_markCellS (N:Nat):CtrX Tryz.prog Vp 76 ⟨[.io true,.no],[(.sl .own t64o),(.int .i64)],[.val,.io],[(.int .i64),(.sl .own t64o)],l_markCellS N⟩ :=
 mk_ctrX (E:=E_l_markCellS N) (A:=A_l_markCellS) (N:=N) (pl:=[⟨0,.own true,(.sl .own t64o)⟩,⟨1,.val,(.int .i64)⟩]) (io:=[.io true,.no]) (ks:=[.val,.io]) ⟨tabP_ok,lkF (k_39 N) (c_l_markText N) lk0,lkX (k_16 N) (c_l_markStringS N) (lkX (k_130 N) (c_l_markValueS N) lk0),nI⟩ hmO Tryz.func76 (by kernel_rfl) (F:=l_markCellS N) (funext fun x=>by kernel_rfl)
noncomputable def E_l_markTypeS (N:Nat):=cz 28 [] [k_39 N] []
def A_l_markTypeS:=an [] [(0,⟨[⟨0,.own true,(.sl .own (.pair .str (.pair (.int .i64) .unit)))⟩,⟨1,.val,(.int .i64)⟩,⟨5,.val,(.int .i64)⟩],[⟨0,.own true,(.sl .own (.pair .str (.pair (.int .i64) .unit)))⟩,⟨1,.val,(.int .i64)⟩],[1,5,6,7,8,9,10,11,12,13,14,15,16,17,18,19,20,21,22,23,24,25,26]⟩)] [⟨4,.val,(.int .i64)⟩,⟨0,.own true,(.sl .own (.pair .str (.pair (.int .i64) .unit)))⟩]
theorem c_l_markTypeS (N:Nat):CtrX Tryz.prog Vp 79 ⟨[.io true,.no],[(.sl .own (.pair .str (.pair (.int .i64) .unit))),(.int .i64)],[.val,.io],[(.int .i64),(.sl .own (.pair .str (.pair (.int .i64) .unit)))],l_markTypeS N⟩ :=
 mk_ctrX (E:=E_l_markTypeS N) (A:=A_l_markTypeS) (N:=N) (pl:=[⟨0,.own true,(.sl .own (.pair .str (.pair (.int .i64) .unit)))⟩,⟨1,.val,(.int .i64)⟩]) (io:=[.io true,.no]) (ks:=[.val,.io]) ⟨tabP_ok,lkF (k_39 N) (c_l_markText N) lk0,lk0,nI⟩ hmO Tryz.func79 (by kernel_rfl) (F:=l_markTypeS N) (funext fun x=>by kernel_rfl)
noncomputable def E_l_markLinkS (N:Nat):=cz 36 [] [k_39 N] []
def A_l_markLinkS:=an [] [(0,⟨[⟨0,.own true,(.sl .own t228o)⟩,⟨1,.val,(.int .i64)⟩,⟨5,.val,(.int .i64)⟩],[⟨0,.own true,(.sl .own t228o)⟩,⟨1,.val,(.int .i64)⟩],[1,5,6,7,8,9,10,11,12,13,14,15,16,17,18,19,20,21,22,23,24,25,26,27,28,29,30,31,32,33,34]⟩)] [⟨4,.val,(.int .i64)⟩,⟨0,.own true,(.sl .own t228o)⟩]
theorem c_l_markLinkS (N:Nat):CtrX Tryz.prog Vp 131 ⟨[.io true,.no],[(.sl .own t228o),(.int .i64)],[.val,.io],[(.int .i64),(.sl .own t228o)],l_markLinkS N⟩ :=
 mk_ctrX (E:=E_l_markLinkS N) (A:=A_l_markLinkS) (N:=N) (pl:=[⟨0,.own true,(.sl .own t228o)⟩,⟨1,.val,(.int .i64)⟩]) (io:=[.io true,.no]) (ks:=[.val,.io]) ⟨tabP_ok,lkF (k_39 N) (c_l_markText N) lk0,lk0,nI⟩ hmO Tryz.func131 (by kernel_rfl) (F:=l_markLinkS N) (funext fun x=>by kernel_rfl)
abbrev k_79 (N:Nat):Nat×Fx:=(79,⟨[.io true,.no],[(.sl .own (.pair .str (.pair (.int .i64) .unit))),(.int .i64)],[.val,.io],[(.int .i64),(.sl .own (.pair .str (.pair (.int .i64) .unit)))],l_markTypeS N⟩)
abbrev k_131 (N:Nat):Nat×Fx:=(131,⟨[.io true,.no],[(.sl .own t228o),(.int .i64)],[.val,.io],[(.int .i64),(.sl .own t228o)],l_markLinkS N⟩)
noncomputable def E_l_markInstS (N:Nat):=cz 56 [] [k_39 N] [k_16 N,k_79 N,k_130 N,k_131 N]
def A_l_markInstS:=an [] [(0,⟨[⟨0,.own true,(.sl .own t114o)⟩,⟨1,.val,(.int .i64)⟩,⟨5,.val,(.int .i64)⟩],[⟨0,.own true,(.sl .own t114o)⟩,⟨1,.val,(.int .i64)⟩],[1,5,6,7,8,9,10,11,12,13,14,15,16,17,18,19,20,21,22,23,24,25,26,27,28,29,30,31,32,33,34,35,36,37,38,39,40,41,42,43,44,45,46,47,48,49,50,51,52,53,54]⟩)] [⟨4,.val,(.int .i64)⟩,⟨0,.own true,(.sl .own t114o)⟩]
theorem c_l_markInstS (N:Nat):CtrX Tryz.prog Vp 77 ⟨[.io true,.no],[(.sl .own t114o),(.int .i64)],[.val,.io],[(.int .i64),(.sl .own t114o)],l_markInstS N⟩ :=
 mk_ctrX (E:=E_l_markInstS N) (A:=A_l_markInstS) (N:=N) (pl:=[⟨0,.own true,(.sl .own t114o)⟩,⟨1,.val,(.int .i64)⟩]) (io:=[.io true,.no]) (ks:=[.val,.io]) ⟨tabP_ok,lkF (k_39 N) (c_l_markText N) lk0,lkX (k_16 N) (c_l_markStringS N) (lkX (k_79 N) (c_l_markTypeS N) (lkX (k_130 N) (c_l_markValueS N) (lkX (k_131 N) (c_l_markLinkS N) lk0))),nI⟩ hmO Tryz.func77 (by kernel_rfl) (F:=l_markInstS N) (funext fun x=>by kernel_rfl)
noncomputable def E_l_markIntS (N:Nat):=cz 19 [] [] []
def A_l_markIntS:=an [] [(0,⟨[⟨0,.own true,(.sl .own (.int .i64))⟩,⟨1,.val,(.int .i64)⟩,⟨5,.val,(.int .i64)⟩],[⟨0,.own true,(.sl .own (.int .i64))⟩,⟨1,.val,(.int .i64)⟩],[1,5,6,7,8,9,10,11,12,13,14,15,16,17]⟩)] [⟨4,.val,(.int .i64)⟩,⟨0,.own true,(.sl .own (.int .i64))⟩]
theorem c_l_markIntS (N:Nat):CtrX Tryz.prog Vp 185 ⟨[.io true,.no],[(.sl .own (.int .i64)),(.int .i64)],[.val,.io],[(.int .i64),(.sl .own (.int .i64))],l_markIntS N⟩ :=
 mk_ctrX (E:=E_l_markIntS N) (A:=A_l_markIntS) (N:=N) (pl:=[⟨0,.own true,(.sl .own (.int .i64))⟩,⟨1,.val,(.int .i64)⟩]) (io:=[.io true,.no]) (ks:=[.val,.io]) ⟨tabP_ok,lk0,lk0,nI⟩ hmO Tryz.func185 (by kernel_rfl) (F:=l_markIntS N) (funext fun x=>by kernel_rfl)
abbrev k_185 (N:Nat):Nat×Fx:=(185,⟨[.io true,.no],[(.sl .own (.int .i64)),(.int .i64)],[.val,.io],[(.int .i64),(.sl .own (.int .i64))],l_markIntS N⟩)
noncomputable def E_l_markNodeS (N:Nat):=cz 49 [] [k_39 N] [k_16 N,k_185 N]
def A_l_markNodeS:=an [] [(0,⟨[⟨0,.own true,(.sl .own t180o)⟩,⟨1,.val,(.int .i64)⟩,⟨5,.val,(.int .i64)⟩],[⟨0,.own true,(.sl .own t180o)⟩,⟨1,.val,(.int .i64)⟩],[1,5,6,7,8,9,10,11,12,13,14,15,16,17,18,19,20,21,22,23,24,25,26,27,28,29,30,31,32,33,34,35,36,37,38,39,40,41,42,43,44,45,46,47]⟩)] [⟨4,.val,(.int .i64)⟩,⟨0,.own true,(.sl .own t180o)⟩]
theorem c_l_markNodeS (N:Nat):CtrX Tryz.prog Vp 132 ⟨[.io true,.no],[(.sl .own t180o),(.int .i64)],[.val,.io],[(.int .i64),(.sl .own t180o)],l_markNodeS N⟩ :=
 mk_ctrX (E:=E_l_markNodeS N) (A:=A_l_markNodeS) (N:=N) (pl:=[⟨0,.own true,(.sl .own t180o)⟩,⟨1,.val,(.int .i64)⟩]) (io:=[.io true,.no]) (ks:=[.val,.io]) ⟨tabP_ok,lkF (k_39 N) (c_l_markText N) lk0,lkX (k_16 N) (c_l_markStringS N) (lkX (k_185 N) (c_l_markIntS N) lk0),nI⟩ hmO Tryz.func132 (by kernel_rfl) (F:=l_markNodeS N) (funext fun x=>by kernel_rfl)
abbrev k_132 (N:Nat):Nat×Fx:=(132,⟨[.io true,.no],[(.sl .own t180o),(.int .i64)],[.val,.io],[(.int .i64),(.sl .own t180o)],l_markNodeS N⟩)
noncomputable def E_l_markUnitS (N:Nat):=cz 36 [] [] [k_132 N]
def A_l_markUnitS:=an [] [(0,⟨[⟨0,.own true,(.sl .own t167o)⟩,⟨1,.val,(.int .i64)⟩,⟨5,.val,(.int .i64)⟩],[⟨0,.own true,(.sl .own t167o)⟩,⟨1,.val,(.int .i64)⟩],[1,5,6,7,8,9,10,11,12,13,14,15,16,17,18,19,20,21,22,23,24,25,26,27,28,29,30,31,32,33,34]⟩)] [⟨4,.val,(.int .i64)⟩,⟨0,.own true,(.sl .own t167o)⟩]
theorem c_l_markUnitS (N:Nat):CtrX Tryz.prog Vp 78 ⟨[.io true,.no],[(.sl .own t167o),(.int .i64)],[.val,.io],[(.int .i64),(.sl .own t167o)],l_markUnitS N⟩ :=
 mk_ctrX (E:=E_l_markUnitS N) (A:=A_l_markUnitS) (N:=N) (pl:=[⟨0,.own true,(.sl .own t167o)⟩,⟨1,.val,(.int .i64)⟩]) (io:=[.io true,.no]) (ks:=[.val,.io]) ⟨tabP_ok,lk0,lkX (k_132 N) (c_l_markNodeS N) lk0,nI⟩ hmO Tryz.func78 (by kernel_rfl) (F:=l_markUnitS N) (funext fun x=>by kernel_rfl)
abbrev k_76 (N:Nat):Nat×Fx:=(76,⟨[.io true,.no],[(.sl .own t64o),(.int .i64)],[.val,.io],[(.int .i64),(.sl .own t64o)],l_markCellS N⟩)
abbrev k_77 (N:Nat):Nat×Fx:=(77,⟨[.io true,.no],[(.sl .own t114o),(.int .i64)],[.val,.io],[(.int .i64),(.sl .own t114o)],l_markInstS N⟩)
abbrev k_78 (N:Nat):Nat×Fx:=(78,⟨[.io true,.no],[(.sl .own t167o),(.int .i64)],[.val,.io],[(.int .i64),(.sl .own t167o)],l_markUnitS N⟩)
noncomputable def E_l_markSys (N:Nat):=cz 22 [] [] [k_16 N,k_76 N,k_77 N,k_78 N]
def A_l_markSys:=an [] [] [⟨4,.val,(.int .i64)⟩]
theorem c_l_markSys (N:Nat):Ctr Tryz.prog Vp 36 ⟨[t26o,(.int .i64)],[(.int .i64)],l_markSys N⟩ :=
 mk_ctr (E:=E_l_markSys N) (A:=A_l_markSys) (N:=N) (pl:=[⟨0,.own false,t26o⟩,⟨1,.val,(.int .i64)⟩]) ⟨tabP_ok,lk0,lkX (k_16 N) (c_l_markStringS N) (lkX (k_76 N) (c_l_markCellS N) (lkX (k_77 N) (c_l_markInstS N) (lkX (k_78 N) (c_l_markUnitS N) lk0))),nI⟩ hmO Tryz.func36 (by kernel_rfl) (F:=l_markSys N) (funext fun x=>by kernel_rfl)
noncomputable def E_l_markDefS (N:Nat):=cz 37 [] [k_39 N] [k_132 N]
def A_l_markDefS:=an [] [(0,⟨[⟨0,.own true,(.sl .own t188o)⟩,⟨1,.val,(.int .i64)⟩,⟨5,.val,(.int .i64)⟩],[⟨0,.own true,(.sl .own t188o)⟩,⟨1,.val,(.int .i64)⟩],[1,5,6,7,8,9,10,11,12,13,14,15,16,17,18,19,20,21,22,23,24,25,26,27,28,29,30,31,32,33,34,35]⟩)] [⟨4,.val,(.int .i64)⟩,⟨0,.own true,(.sl .own t188o)⟩]
theorem c_l_markDefS (N:Nat):CtrX Tryz.prog Vp 80 ⟨[.io true,.no],[(.sl .own t188o),(.int .i64)],[.val,.io],[(.int .i64),(.sl .own t188o)],l_markDefS N⟩ :=
 mk_ctrX (E:=E_l_markDefS N) (A:=A_l_markDefS) (N:=N) (pl:=[⟨0,.own true,(.sl .own t188o)⟩,⟨1,.val,(.int .i64)⟩]) (io:=[.io true,.no]) (ks:=[.val,.io]) ⟨tabP_ok,lkF (k_39 N) (c_l_markText N) lk0,lkX (k_132 N) (c_l_markNodeS N) lk0,nI⟩ hmO Tryz.func80 (by kernel_rfl) (F:=l_markDefS N) (funext fun x=>by kernel_rfl)
abbrev k_80 (N:Nat):Nat×Fx:=(80,⟨[.io true,.no],[(.sl .own t188o),(.int .i64)],[.val,.io],[(.int .i64),(.sl .own t188o)],l_markDefS N⟩)
noncomputable def E_l_markEntS (N:Nat):=cz 76 [] [k_39 N] [k_16 N,k_79 N,k_80 N]
def A_l_markEntS:=an [] [(0,⟨[⟨0,.own true,(.sl .own t77o)⟩,⟨1,.val,(.int .i64)⟩,⟨5,.val,(.int .i64)⟩],[⟨0,.own true,(.sl .own t77o)⟩,⟨1,.val,(.int .i64)⟩],[1,5,6,7,8,9,10,11,12,13,14,15,16,17,18,19,20,21,22,23,24,25,26,27,28,29,30,31,32,33,34,35,36,37,38,39,40,41,42,43,44,45,46,47,48,49,50,51,52,53,54,55,56,57,58,59,60,61,62,63,64,65,66,67,68,69,70,71,72,73,74]⟩)] [⟨4,.val,(.int .i64)⟩,⟨0,.own true,(.sl .own t77o)⟩]
theorem c_l_markEntS (N:Nat):CtrX Tryz.prog Vp 37 ⟨[.io true,.no],[(.sl .own t77o),(.int .i64)],[.val,.io],[(.int .i64),(.sl .own t77o)],l_markEntS N⟩ :=
 mk_ctrX (E:=E_l_markEntS N) (A:=A_l_markEntS) (N:=N) (pl:=[⟨0,.own true,(.sl .own t77o)⟩,⟨1,.val,(.int .i64)⟩]) (io:=[.io true,.no]) (ks:=[.val,.io]) ⟨tabP_ok,lkF (k_39 N) (c_l_markText N) lk0,lkX (k_16 N) (c_l_markStringS N) (lkX (k_79 N) (c_l_markTypeS N) (lkX (k_80 N) (c_l_markDefS N) lk0)),nI⟩ hmO Tryz.func37 (by kernel_rfl) (F:=l_markEntS N) (funext fun x=>by kernel_rfl)
noncomputable def E_l_markBindS (N:Nat):=cz 46 [] [k_39 N] []
def A_l_markBindS:=an [] [(0,⟨[⟨0,.own true,(.sl .own t216o)⟩,⟨1,.val,(.int .i64)⟩,⟨5,.val,(.int .i64)⟩],[⟨0,.own true,(.sl .own t216o)⟩,⟨1,.val,(.int .i64)⟩],[1,5,6,7,8,9,10,11,12,13,14,15,16,17,18,19,20,21,22,23,24,25,26,27,28,29,30,31,32,33,34,35,36,37,38,39,40,41,42,43,44]⟩)] [⟨4,.val,(.int .i64)⟩,⟨0,.own true,(.sl .own t216o)⟩]
theorem c_l_markBindS (N:Nat):CtrX Tryz.prog Vp 81 ⟨[.io true,.no],[(.sl .own t216o),(.int .i64)],[.val,.io],[(.int .i64),(.sl .own t216o)],l_markBindS N⟩ :=
 mk_ctrX (E:=E_l_markBindS N) (A:=A_l_markBindS) (N:=N) (pl:=[⟨0,.own true,(.sl .own t216o)⟩,⟨1,.val,(.int .i64)⟩]) (io:=[.io true,.no]) (ks:=[.val,.io]) ⟨tabP_ok,lkF (k_39 N) (c_l_markText N) lk0,lk0,nI⟩ hmO Tryz.func81 (by kernel_rfl) (F:=l_markBindS N) (funext fun x=>by kernel_rfl)
abbrev k_81 (N:Nat):Nat×Fx:=(81,⟨[.io true,.no],[(.sl .own t216o),(.int .i64)],[.val,.io],[(.int .i64),(.sl .own t216o)],l_markBindS N⟩)
noncomputable def E_l_markFrameS (N:Nat):=cz 41 [] [] [k_81 N,k_130 N]
def A_l_markFrameS:=an [] [(0,⟨[⟨0,.own true,(.sl .own t194o)⟩,⟨1,.val,(.int .i64)⟩,⟨5,.val,(.int .i64)⟩],[⟨0,.own true,(.sl .own t194o)⟩,⟨1,.val,(.int .i64)⟩],[1,5,6,7,8,9,10,11,12,13,14,15,16,17,18,19,20,21,22,23,24,25,26,27,28,29,30,31,32,33,34,35,36,37,38,39]⟩)] [⟨4,.val,(.int .i64)⟩,⟨0,.own true,(.sl .own t194o)⟩]
theorem c_l_markFrameS (N:Nat):CtrX Tryz.prog Vp 82 ⟨[.io true,.no],[(.sl .own t194o),(.int .i64)],[.val,.io],[(.int .i64),(.sl .own t194o)],l_markFrameS N⟩ :=
 mk_ctrX (E:=E_l_markFrameS N) (A:=A_l_markFrameS) (N:=N) (pl:=[⟨0,.own true,(.sl .own t194o)⟩,⟨1,.val,(.int .i64)⟩]) (io:=[.io true,.no]) (ks:=[.val,.io]) ⟨tabP_ok,lk0,lkX (k_81 N) (c_l_markBindS N) (lkX (k_130 N) (c_l_markValueS N) lk0),nI⟩ hmO Tryz.func82 (by kernel_rfl) (F:=l_markFrameS N) (funext fun x=>by kernel_rfl)
abbrev k_82 (N:Nat):Nat×Fx:=(82,⟨[.io true,.no],[(.sl .own t194o),(.int .i64)],[.val,.io],[(.int .i64),(.sl .own t194o)],l_markFrameS N⟩)
noncomputable def E_l_markTaskS (N:Nat):=cz 96 [] [k_39 N] [k_81 N,k_82 N]
def A_l_markTaskS:=an [] [(0,⟨[⟨0,.own true,(.sl .own t108o)⟩,⟨1,.val,(.int .i64)⟩,⟨5,.val,(.int .i64)⟩],[⟨0,.own true,(.sl .own t108o)⟩,⟨1,.val,(.int .i64)⟩],[1,5,6,7,8,9,10,11,12,13,14,15,16,17,18,19,20,21,22,23,24,25,26,27,28,29,30,31,32,33,34,35,36,37,38,39,40,41,42,43,44,45,46,47,48,49,50,51,52,53,54,55,56,57,58,59,60,61,62,63,64,65,66,67,68,69,70,71,72,73,74,75,76,77,78,79,80,81,82,83,84,85,86,87,88,89,90,91,92,93,94]⟩)] [⟨4,.val,(.int .i64)⟩,⟨0,.own true,(.sl .own t108o)⟩]
theorem c_l_markTaskS (N:Nat):CtrX Tryz.prog Vp 38 ⟨[.io true,.no],[(.sl .own t108o),(.int .i64)],[.val,.io],[(.int .i64),(.sl .own t108o)],l_markTaskS N⟩ :=
 mk_ctrX (E:=E_l_markTaskS N) (A:=A_l_markTaskS) (N:=N) (pl:=[⟨0,.own true,(.sl .own t108o)⟩,⟨1,.val,(.int .i64)⟩]) (io:=[.io true,.no]) (ks:=[.val,.io]) ⟨tabP_ok,lkF (k_39 N) (c_l_markText N) lk0,lkX (k_81 N) (c_l_markBindS N) (lkX (k_82 N) (c_l_markFrameS N) lk0),nI⟩ hmO Tryz.func38 (by kernel_rfl) (F:=l_markTaskS N) (funext fun x=>by kernel_rfl)
abbrev k_36 (N:Nat):Nat×Fn:=(36,⟨[t26o,(.int .i64)],[(.int .i64)],l_markSys N⟩)
abbrev k_37 (N:Nat):Nat×Fx:=(37,⟨[.io true,.no],[(.sl .own t77o),(.int .i64)],[.val,.io],[(.int .i64),(.sl .own t77o)],l_markEntS N⟩)
abbrev k_38 (N:Nat):Nat×Fx:=(38,⟨[.io true,.no],[(.sl .own t108o),(.int .i64)],[.val,.io],[(.int .i64),(.sl .own t108o)],l_markTaskS N⟩)
noncomputable def E_l_markWorld (N:Nat):=cz 18 [] [k_36 N] [k_37 N,k_38 N]
def A_l_markWorld:=an [] [] [⟨4,.val,(.int .i64)⟩]
theorem c_l_markWorld (N:Nat):Ctr Tryz.prog Vp 15 ⟨[t30o,(.int .i64)],[(.int .i64)],l_markWorld N⟩ :=
 mk_ctr (E:=E_l_markWorld N) (A:=A_l_markWorld) (N:=N) (pl:=[⟨0,.own false,t30o⟩,⟨1,.val,(.int .i64)⟩]) ⟨tabP_ok,lkF (k_36 N) (c_l_markSys N) lk0,lkX (k_37 N) (c_l_markEntS N) (lkX (k_38 N) (c_l_markTaskS N) lk0),nI⟩ hmO Tryz.func15 (by kernel_rfl) (F:=l_markWorld N) (funext fun x=>by kernel_rfl)
noncomputable def E_l_heldStringS (N:Nat):=cz 22 [] [k_39 N] []
def A_l_heldStringS:=an [] [(0,⟨[⟨1,.val,(.int .i64)⟩,⟨5,.val,(.int .i64)⟩],[⟨1,.val,(.int .i64)⟩],[1,4,5,6,7,8,9,10,11,12,13,14,15,16,17,18,19,20]⟩)] [⟨4,.val,(.int .i64)⟩]
theorem c_l_heldStringS (N:Nat):Ctr Tryz.prog Vp 17 ⟨[(.sl .lend .str),(.int .i64)],[(.int .i64)],l_heldStringS N⟩ :=
 mk_ctr (E:=E_l_heldStringS N) (A:=A_l_heldStringS) (N:=N) (pl:=[⟨0,.val,(.sl .lend .str)⟩,⟨1,.val,(.int .i64)⟩]) ⟨tabP_ok,lkF (k_39 N) (c_l_markText N) lk0,lk0,nI⟩ hmO Tryz.func17 (by kernel_rfl) (F:=l_heldStringS N) (funext fun x=>by kernel_rfl)
abbrev k_12 (N:Nat):Nat×Fn:=(12,⟨[t30l,.str],[(.sl .own .str)],s_Where N⟩)
abbrev k_13 (N:Nat):Nat×Fn:=(13,⟨[t30l,.str],[(.sl .own .str)],i_Where N⟩)
abbrev k_15 (N:Nat):Nat×Fn:=(15,⟨[t30o,(.int .i64)],[(.int .i64)],l_markWorld N⟩)
abbrev k_17 (N:Nat):Nat×Fn:=(17,⟨[(.sl .lend .str),(.int .i64)],[(.int .i64)],l_heldStringS N⟩)
noncomputable def E_l_FnExactWhere (N:Nat):=cz 77 [] [k_6 N,k_8 N,k_11 N,k_12 N,k_13 N,k_14 N,k_15 N,k_17 N] [k_16 N]
def A_l_FnExactWhere:=an [] [] [⟨4,.val,.bool⟩]
theorem c_l_FnExactWhere (N:Nat):Ctr Tryz.prog Vp 4 ⟨[t30l,.str],[.bool],l_FnExactWhere N⟩ :=
 mk_ctr (E:=E_l_FnExactWhere N) (A:=A_l_FnExactWhere) (N:=N) (pl:=[⟨0,.val,t30l⟩,⟨1,.val,.str⟩]) ⟨tabP_ok,lkF (k_6 N) (c_l_szWorld N) (lkF (k_8 N) (c_l_toWorld N) (lkF (k_11 N) (c_l_eqWorld N) (lkF (k_12 N) (c_s_Where N) (lkF (k_13 N) (c_i_Where N) (lkF (k_14 N) (c_l_eqStringS N) (lkF (k_15 N) (c_l_markWorld N) (lkF (k_17 N) (c_l_heldStringS N) lk0))))))),lkX (k_16 N) (c_l_markStringS N) lk0,nI⟩ hmO Tryz.func4 (by kernel_rfl) (F:=l_FnExactWhere N) (funext fun x=>by kernel_rfl)
end Go.Rf
