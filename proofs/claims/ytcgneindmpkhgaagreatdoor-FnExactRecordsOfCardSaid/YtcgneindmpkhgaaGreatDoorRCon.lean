/-
  Functions of the library do what their plain functions say (contracts), where the library's variables hold what they are laid to hold; slices.Insert of one element.
-/
import Derived.Test.YtcgneindmpkhgaaGreatDoorRNat
import Derived.Test.YtcgneindmpkhgaaGreatDoorRRfD
import Derived.Test.YtcgneindmpkhgaaGreatDoorShelf
import Derived.WalkKit
import Derived.ProofKit
import Derived.KernelRfl
import Derived.Lib.AppendIntMem
import Derived.Shelf.Spec.SlicesInsertGrow
set_option linter.unusedSimpArgs false
set_option linter.unusedVariables false
set_option autoImplicit false
namespace Go.Rf
open Go.Proofs Go.RowKit
theorem args1 {S:Stab}{H:Heap}{τ:Ty}{vals:List Value}{x:LD [τ]}{g:List Nat} (h:ArgsRel S H [τ] vals x g):∃ ws,vals=[valOf τ ws]∧∃ f,Rep S H τ ws x.1 f:=by
 match vals,h with
 | [v],⟨ws,f1,f2,e,hr,_,_⟩=>exact ⟨ws,by rw [e],f1,hr⟩
theorem args2 {S:Stab}{H:Heap}{τ σ:Ty}{vals:List Value}{x:LD [τ,σ]}{g:List Nat} (h:ArgsRel S H [τ,σ] vals x g):∃ ws us,vals=[valOf τ ws,valOf σ us]∧(∃ f,Rep S H τ ws x.1 f)∧∃ f,Rep S H σ us x.2.1 f:=by
 match vals,h with
 | [v,u],⟨ws,f1,f2,e,hr,_,⟨us,f3,f4,e2,hr2,_,_⟩⟩=>exact ⟨ws,us,by rw [e,e2],⟨f1,hr⟩,f3,hr2⟩
def gW (w:World):Prop :=
 (∃ m,w.cell? ⟨0,0,none⟩=some (.int .i64 m))∧Lib.TabIs Tryz.prog w "internal/strconv.uint64pow10" IntKind.u64 Lib.pow10Tab ∧
 (∃ t p,w.cell? ⟨1,0,none⟩=some (.iface t p))∧(∃ t p,w.cell? ⟨2,0,none⟩=some (.iface t p))
theorem cell_of_hp {w w':World}{b:Nat} (h:hp w' b=hp w b):w'.cell? ⟨b,0,none⟩=w.cell? ⟨b,0,none⟩:=by
 simp only [hp] at h
 simp [World.cell?,h]
theorem gW_loc (w w':World) (h:∀ b,b<4→hp w' b=hp w b) (hg:gW w):gW w':=by
 obtain ⟨h0,h1,h2,h3⟩:=hg
 refine ⟨?_,?_,?_,?_⟩
 ·rw [cell_of_hp (h 0 (by decide))];exact h0
 ·have hn:Tryz.prog.globalNamed "internal/strconv.uint64pow10"=some 3:=by kernel_rfl
  have h33:=h 3 (by decide)
  simp only [hp] at h33
  simp only [Lib.TabIs,World.var?,hn,oB,h33] at h1 ⊢
  exact h1
 ·rw [cell_of_hp (h 1 (by decide))];exact h2
 ·rw [cell_of_hp (h 2 (by decide))];exact h3
def Vp:Glb:=⟨4,gW,gW_loc⟩
set_option maxRecDepth 100000
theorem c_g_strings_IndexByte (N:Nat):Ctr Tryz.prog Vp 222 ⟨[.str,(.int .u8)],[(.int .i64)],g_strings_IndexByte N⟩:=by
 refine ctr_scal (c:=(Tryz.f222.body).getD .skip) Tryz.func222 (by kernel_rfl) (by kernel_rfl) rfl rfl ?_
 intro w args vals r _ ha hF
 obtain ⟨ws,us,rfl,⟨_,rfl,_⟩,_,rfl,_⟩:=args2 ha
 simp only [g_strings_IndexByte,sI] at hF
 subst hF
 refine (Tryz.strings_IndexByte _ _ w).mono ?_
 rintro e w' ⟨rfl,rfl⟩
 exact ⟨[_],rfl,Below.refl _ _,[_],[],[],rfl,⟨rfl,rfl⟩,rfl,rfl⟩
theorem c_g_strings_Contains (N:Nat):Ctr Tryz.prog Vp 220 ⟨[.str,.str],[.bool],g_strings_Contains N⟩:=by
 refine ctr_scal (c:=(Tryz.f220.body).getD .skip) Tryz.func220 (by kernel_rfl) (by kernel_rfl) rfl rfl ?_
 intro w args vals r hg ha hF
 obtain ⟨ws,us,rfl,⟨_,rfl,_⟩,_,rfl,_⟩:=args2 ha
 simp only [g_strings_Contains] at hF
 split at hF
 ·rename_i hlt
  cases hF
  obtain ⟨⟨m,hm⟩,_⟩:=hg
  refine (Tryz.strings_Contains _ _ m w hlt hm).mono ?_
  rintro e w' ⟨rfl,rfl⟩
  exact ⟨[_],rfl,Below.refl _ _,[_],[],[],rfl,⟨rfl,rfl⟩,rfl,rfl⟩
 ·cases hF
theorem c_g_strconv_Itoa (N:Nat):Ctr Tryz.prog Vp 234 ⟨[(.int .i64)],[.str],g_strconv_Itoa N⟩:=by
 refine ctr_scal (c:=(Tryz.f234.body).getD .skip) Tryz.func234 (by kernel_rfl) (by kernel_rfl) rfl rfl ?_
 intro w args vals r hg ha hF
 obtain ⟨ws,rfl,_,rfl,_⟩:=args1 ha
 simp only [g_strconv_Itoa] at hF
 split at hF
 ·rename_i hlt
  cases hF
  obtain ⟨_,ht,_⟩:=hg
  refine (Tryz.strconv_Itoa _ hlt.1 hlt.2 w ht).mono ?_
  rintro e w' ⟨rfl,k,os,rfl⟩
  exact ⟨[_],rfl,Lib.below_grow _ w (Nat.le_refl _) k os,[_],[],[],rfl,⟨rfl,rfl⟩,rfl,rfl⟩
 ·cases hF
end Go.Rf
namespace Go.Rf
open Go.Proofs
set_option maxRecDepth 100000
abbrev t83o:Ty:=(.pair (.int .i64) (.pair (.int .i64) .unit))
abbrev t228o:Ty:=(.pair .str (.pair (.int .i64) (.pair .str .unit)))
abbrev t103o:Ty:=(.pair (.int .i64) (.pair (.int .i64) (.pair .str .unit)))
abbrev t216o:Ty:=(.pair .str (.pair t103o .unit))
abbrev t180o:Ty:=(.pair (.int .i64) (.pair (.int .i64) (.pair .str (.pair (.sl .own .str) (.pair (.sl .own (.int .i64)) .unit)))))
abbrev t180k:Ty:=(.pair (.int .i64) (.pair (.int .i64) (.pair .str (.pair (.sl .keep .str) (.pair (.sl .keep (.int .i64)) .unit)))))
abbrev t180l:Ty:=(.pair (.int .i64) (.pair (.int .i64) (.pair .str (.pair (.sl .lend .str) (.pair (.sl .lend (.int .i64)) .unit)))))
abbrev t165o:Ty:=(.pair (.sl .own t180o) (.pair (.int .i64) .unit))
abbrev t165k:Ty:=(.pair (.sl .keep t180k) (.pair (.int .i64) .unit))
abbrev t165l:Ty:=(.pair (.sl .lend t180l) (.pair (.int .i64) .unit))
abbrev t64o:Ty:=(.pair (.int .i64) (.pair .str (.pair (.int .i64) (.pair (.int .i64) (.pair (.sl .own .str) (.pair (.sl .own t103o) .unit))))))
abbrev t64k:Ty:=(.pair (.int .i64) (.pair .str (.pair (.int .i64) (.pair (.int .i64) (.pair (.sl .keep .str) (.pair (.sl .keep t103o) .unit))))))
abbrev t64l:Ty:=(.pair (.int .i64) (.pair .str (.pair (.int .i64) (.pair (.int .i64) (.pair (.sl .lend .str) (.pair (.sl .lend t103o) .unit))))))
abbrev t188o:Ty:=(.pair .str (.pair t165o .unit))
abbrev t188k:Ty:=(.pair .str (.pair t165k .unit))
abbrev t188l:Ty:=(.pair .str (.pair t165l .unit))
abbrev t167o:Ty:=(.pair (.int .i64) (.pair t165o .unit))
abbrev t167k:Ty:=(.pair (.int .i64) (.pair t165k .unit))
abbrev t167l:Ty:=(.pair (.int .i64) (.pair t165l .unit))
abbrev t194o:Ty:=(.pair (.int .i64) (.pair (.int .i64) (.pair (.sl .own t103o) (.pair (.sl .own t216o) .unit))))
abbrev t194k:Ty:=(.pair (.int .i64) (.pair (.int .i64) (.pair (.sl .keep t103o) (.pair (.sl .keep t216o) .unit))))
abbrev t194l:Ty:=(.pair (.int .i64) (.pair (.int .i64) (.pair (.sl .lend t103o) (.pair (.sl .lend t216o) .unit))))
abbrev t114o:Ty:=(.pair .str (.pair (.int .i64) (.pair (.sl .own .str) (.pair (.sl .own t103o) (.pair (.sl .own t228o) (.pair (.sl .own (.pair .str (.pair (.int .i64) .unit))) .unit))))))
abbrev t114k:Ty:=(.pair .str (.pair (.int .i64) (.pair (.sl .keep .str) (.pair (.sl .keep t103o) (.pair (.sl .keep t228o) (.pair (.sl .keep (.pair .str (.pair (.int .i64) .unit))) .unit))))))
abbrev t114l:Ty:=(.pair .str (.pair (.int .i64) (.pair (.sl .lend .str) (.pair (.sl .lend t103o) (.pair (.sl .lend t228o) (.pair (.sl .lend (.pair .str (.pair (.int .i64) .unit))) .unit))))))
abbrev t106o:Ty:=(.pair (.int .i64) (.pair (.int .i64) (.pair (.int .i64) (.pair (.sl .own t216o) (.pair t103o (.pair (.sl .own t194o) (.pair (.int .i64) .unit)))))))
abbrev t106k:Ty:=(.pair (.int .i64) (.pair (.int .i64) (.pair (.int .i64) (.pair (.sl .keep t216o) (.pair t103o (.pair (.sl .keep t194k) (.pair (.int .i64) .unit)))))))
abbrev t106l:Ty:=(.pair (.int .i64) (.pair (.int .i64) (.pair (.int .i64) (.pair (.sl .lend t216o) (.pair t103o (.pair (.sl .lend t194l) (.pair (.int .i64) .unit)))))))
abbrev t75o:Ty:=(.pair .str (.pair (.sl .own .str) (.pair (.sl .own .str) (.pair (.sl .own (.pair .str (.pair (.int .i64) .unit))) (.pair (.sl .own t188o) (.pair (.sl .own t188o) .unit))))))
abbrev t108o:Ty:=(.pair (.int .i64) (.pair t106o .unit))
abbrev t108k:Ty:=(.pair (.int .i64) (.pair t106k .unit))
abbrev t108l:Ty:=(.pair (.int .i64) (.pair t106l .unit))
abbrev t75k:Ty:=(.pair .str (.pair (.sl .keep .str) (.pair (.sl .keep .str) (.pair (.sl .keep (.pair .str (.pair (.int .i64) .unit))) (.pair (.sl .keep t188k) (.pair (.sl .keep t188k) .unit))))))
abbrev t75l:Ty:=(.pair .str (.pair (.sl .lend .str) (.pair (.sl .lend .str) (.pair (.sl .lend (.pair .str (.pair (.int .i64) .unit))) (.pair (.sl .lend t188l) (.pair (.sl .lend t188l) .unit))))))
abbrev t77o:Ty:=(.pair t75o t83o)
abbrev t77k:Ty:=(.pair t75k t83o)
abbrev t77l:Ty:=(.pair t75l t83o)
abbrev t26o:Ty:=(.pair (.sl .own t64o) (.pair (.sl .own t114o) (.pair (.sl .own t167o) (.pair (.sl .own .str) .unit))))
abbrev t26k:Ty:=(.pair (.sl .keep t64k) (.pair (.sl .keep t114k) (.pair (.sl .keep t167k) (.pair (.sl .keep .str) .unit))))
abbrev t26l:Ty:=(.pair (.sl .lend t64l) (.pair (.sl .lend t114l) (.pair (.sl .lend t167l) (.pair (.sl .lend .str) .unit))))
abbrev t30o:Ty:=(.pair t26o (.pair (.sl .own t77o) (.pair (.sl .own t108o) (.pair (.int .i64) .unit))))
abbrev t30k:Ty:=(.pair t26k (.pair (.sl .keep t77k) (.pair (.sl .keep t108k) (.pair (.int .i64) .unit))))
abbrev t30l:Ty:=(.pair t26l (.pair (.sl .lend t77l) (.pair (.sl .lend t108l) (.pair (.int .i64) .unit))))
noncomputable def tabP:Nat→Option Ty:=look [(3,(.int .i64)),(5,(.int .u8)),(9,.str),(22,(.sl .own t64o)),(23,(.sl .own t114o)),(24,(.sl .own t167o)),(25,(.sl .own .str)),(27,t26o),(28,(.sl .own t77o)),(29,(.sl .own t108o)),(31,t30o),(36,(.sl .own t64o)),(37,(.sl .own t114o)),(38,(.sl .own t167o)),(40,t26o),(41,(.sl .own t77o)),(42,(.sl .own t108o)),(44,t30o),(54,(.sl .own t83o)),(63,(.sl .own t103o)),(65,t64o),(73,(.sl .own (.pair .str (.pair (.int .i64) .unit)))),(74,(.sl .own t188o)),(76,t75o),(78,t77o),(84,t83o),(95,(.sl .own (.pair .str (.pair (.int .i64) .unit)))),(96,(.sl .own t188o)),(98,t75o),(100,t77o),(102,(.sl .own t216o)),(104,t103o),(105,(.sl .own t194o)),(107,t106o),(109,t108o),(113,(.sl .own t228o)),(115,t114o),(117,t103o),(120,(.sl .own t75o)),(122,(.sl .own t216o)),(123,(.sl .own t194o)),(125,t106o),(127,t108o),(151,(.sl .own (.int .u8))),(152,(.int .u64)),(156,(.sl .own t103o)),(158,t64o),(160,(.sl .own t228o)),(162,t114o),(164,(.sl .own t180o)),(166,t165o),(168,t167o),(173,(.sl .own t180o)),(175,t165o),(177,t167o),(179,(.sl .own (.int .i64))),(181,t180o),(187,(.pair .str (.pair (.int .i64) .unit))),(189,t188o),(195,t194o),(217,t216o),(229,t228o),(263,t228o),(265,(.pair .str (.pair (.int .i64) .unit))),(269,t188o),(272,t216o),(275,t194o),(294,t180o)]
theorem tabP_ok:TabOK Tryz.prog tabP:=by
 refine look_all (Q:=fun t s=>RowOK Tryz.prog tabP t s) _ ?_
 intro p hp
 simp only [List.mem_cons,List.not_mem_nil,or_false] at hp
 rcases hp with rfl | rfl | rfl | rfl | rfl | rfl | rfl | rfl | rfl | rfl | rfl | rfl | rfl | rfl | rfl | rfl | rfl | rfl | rfl | rfl | rfl | rfl | rfl | rfl | rfl | rfl | rfl | rfl | rfl | rfl | rfl | rfl | rfl | rfl | rfl | rfl | rfl | rfl | rfl | rfl | rfl | rfl | rfl | rfl | rfl | rfl | rfl | rfl | rfl | rfl | rfl | rfl | rfl | rfl | rfl | rfl | rfl | rfl | rfl | rfl | rfl | rfl | rfl | rfl | rfl | rfl | rfl | rfl
 ·exact rowOK_of (by kernel_rfl) (by kernel_rfl) (by kernel_rfl)
 ·exact rowOK_of (by kernel_rfl) (by kernel_rfl) (by kernel_rfl)
 ·exact rowOK_of (by kernel_rfl) (by kernel_rfl) (by kernel_rfl)
 ·exact rowOK_of (by kernel_rfl) (by kernel_rfl) (by kernel_rfl)
 ·exact rowOK_of (by kernel_rfl) (by kernel_rfl) (by kernel_rfl)
 ·exact rowOK_of (by kernel_rfl) (by kernel_rfl) (by kernel_rfl)
 ·exact rowOK_of (by kernel_rfl) (by kernel_rfl) (by kernel_rfl)
 ·exact rowOK_of (by kernel_rfl) (by kernel_rfl) (by kernel_rfl)
 ·exact rowOK_of (by kernel_rfl) (by kernel_rfl) (by kernel_rfl)
 ·exact rowOK_of (by kernel_rfl) (by kernel_rfl) (by kernel_rfl)
 ·exact rowOK_of (by kernel_rfl) (by kernel_rfl) (by kernel_rfl)
 ·exact rowOK_of (by kernel_rfl) (by kernel_rfl) (by kernel_rfl)
 ·exact rowOK_of (by kernel_rfl) (by kernel_rfl) (by kernel_rfl)
 ·exact rowOK_of (by kernel_rfl) (by kernel_rfl) (by kernel_rfl)
 ·exact rowOK_of (by kernel_rfl) (by kernel_rfl) (by kernel_rfl)
 ·exact rowOK_of (by kernel_rfl) (by kernel_rfl) (by kernel_rfl)
 ·exact rowOK_of (by kernel_rfl) (by kernel_rfl) (by kernel_rfl)
 ·exact rowOK_of (by kernel_rfl) (by kernel_rfl) (by kernel_rfl)
 ·exact rowOK_of (by kernel_rfl) (by kernel_rfl) (by kernel_rfl)
 ·exact rowOK_of (by kernel_rfl) (by kernel_rfl) (by kernel_rfl)
 ·exact rowOK_of (by kernel_rfl) (by kernel_rfl) (by kernel_rfl)
 ·exact rowOK_of (by kernel_rfl) (by kernel_rfl) (by kernel_rfl)
 ·exact rowOK_of (by kernel_rfl) (by kernel_rfl) (by kernel_rfl)
 ·exact rowOK_of (by kernel_rfl) (by kernel_rfl) (by kernel_rfl)
 ·exact rowOK_of (by kernel_rfl) (by kernel_rfl) (by kernel_rfl)
 ·exact rowOK_of (by kernel_rfl) (by kernel_rfl) (by kernel_rfl)
 ·exact rowOK_of (by kernel_rfl) (by kernel_rfl) (by kernel_rfl)
 ·exact rowOK_of (by kernel_rfl) (by kernel_rfl) (by kernel_rfl)
 ·exact rowOK_of (by kernel_rfl) (by kernel_rfl) (by kernel_rfl)
 ·exact rowOK_of (by kernel_rfl) (by kernel_rfl) (by kernel_rfl)
 ·exact rowOK_of (by kernel_rfl) (by kernel_rfl) (by kernel_rfl)
 ·exact rowOK_of (by kernel_rfl) (by kernel_rfl) (by kernel_rfl)
 ·exact rowOK_of (by kernel_rfl) (by kernel_rfl) (by kernel_rfl)
 ·exact rowOK_of (by kernel_rfl) (by kernel_rfl) (by kernel_rfl)
 ·exact rowOK_of (by kernel_rfl) (by kernel_rfl) (by kernel_rfl)
 ·exact rowOK_of (by kernel_rfl) (by kernel_rfl) (by kernel_rfl)
 ·exact rowOK_of (by kernel_rfl) (by kernel_rfl) (by kernel_rfl)
 ·exact rowOK_of (by kernel_rfl) (by kernel_rfl) (by kernel_rfl)
 ·exact rowOK_of (by kernel_rfl) (by kernel_rfl) (by kernel_rfl)
 ·exact rowOK_of (by kernel_rfl) (by kernel_rfl) (by kernel_rfl)
 ·exact rowOK_of (by kernel_rfl) (by kernel_rfl) (by kernel_rfl)
 ·exact rowOK_of (by kernel_rfl) (by kernel_rfl) (by kernel_rfl)
 ·exact rowOK_of (by kernel_rfl) (by kernel_rfl) (by kernel_rfl)
 ·exact rowOK_of (by kernel_rfl) (by kernel_rfl) (by kernel_rfl)
 ·exact rowOK_of (by kernel_rfl) (by kernel_rfl) (by kernel_rfl)
 ·exact rowOK_of (by kernel_rfl) (by kernel_rfl) (by kernel_rfl)
 ·exact rowOK_of (by kernel_rfl) (by kernel_rfl) (by kernel_rfl)
 ·exact rowOK_of (by kernel_rfl) (by kernel_rfl) (by kernel_rfl)
 ·exact rowOK_of (by kernel_rfl) (by kernel_rfl) (by kernel_rfl)
 ·exact rowOK_of (by kernel_rfl) (by kernel_rfl) (by kernel_rfl)
 ·exact rowOK_of (by kernel_rfl) (by kernel_rfl) (by kernel_rfl)
 ·exact rowOK_of (by kernel_rfl) (by kernel_rfl) (by kernel_rfl)
 ·exact rowOK_of (by kernel_rfl) (by kernel_rfl) (by kernel_rfl)
 ·exact rowOK_of (by kernel_rfl) (by kernel_rfl) (by kernel_rfl)
 ·exact rowOK_of (by kernel_rfl) (by kernel_rfl) (by kernel_rfl)
 ·exact rowOK_of (by kernel_rfl) (by kernel_rfl) (by kernel_rfl)
 ·exact rowOK_of (by kernel_rfl) (by kernel_rfl) (by kernel_rfl)
 ·exact rowOK_of (by kernel_rfl) (by kernel_rfl) (by kernel_rfl)
 ·exact rowOK_of (by kernel_rfl) (by kernel_rfl) (by kernel_rfl)
 ·exact rowOK_of (by kernel_rfl) (by kernel_rfl) (by kernel_rfl)
 ·exact rowOK_of (by kernel_rfl) (by kernel_rfl) (by kernel_rfl)
 ·exact rowOK_of (by kernel_rfl) (by kernel_rfl) (by kernel_rfl)
 ·exact rowOK_of (by kernel_rfl) (by kernel_rfl) (by kernel_rfl)
 ·exact rowOK_of (by kernel_rfl) (by kernel_rfl) (by kernel_rfl)
 ·exact rowOK_of (by kernel_rfl) (by kernel_rfl) (by kernel_rfl)
 ·exact rowOK_of (by kernel_rfl) (by kernel_rfl) (by kernel_rfl)
 ·exact rowOK_of (by kernel_rfl) (by kernel_rfl) (by kernel_rfl)
 ·exact rowOK_of (by kernel_rfl) (by kernel_rfl) (by kernel_rfl)
noncomputable def E_i_inRange (N:Nat):Cz:={ tab:=tabP,n:=15,V:=Vp,ann:=look [],fn:=look [],fx:=look [] }
def A_i_inRange:An:={ join:=look [],loop:=look [],ret:=[⟨6,.val,.bool⟩] }
theorem c_i_inRange (N:Nat):Ctr Tryz.prog Vp 64 ⟨[(.int .i64),(.int .i64),(.int .i64)],[.bool],i_inRange N⟩:=by
 have hE:EnvOK Tryz.prog (E_i_inRange N):=⟨tabP_ok,(fun _ _ h=>by cases h),(fun _ _ h=>by cases h),(fun _ _ h=>by cases h)⟩
 have h:=fn_sound hE (by kernel_rfl) (N:=N) (A:=A_i_inRange) (pl:=[⟨0,.val,(.int .i64)⟩,⟨1,.val,(.int .i64)⟩,⟨2,.val,(.int .i64)⟩]) (fid:=64) (fn:=Tryz.f64) (c:=((Tryz.f64.body).getD .skip)) ⟨Tryz.func64,by kernel_rfl,by kernel_rfl,by kernel_rfl,Nat.le_of_ble_eq_true (by kernel_rfl),by kernel_rfl,by kernel_rfl,Nat.le_of_ble_eq_true (by kernel_rfl),by kernel_rfl⟩
 have e:i_inRange N=evalF (E_i_inRange N) A_i_inRange N [⟨0,.val,(.int .i64)⟩,⟨1,.val,(.int .i64)⟩,⟨2,.val,(.int .i64)⟩] ((Tryz.f64.body).getD .skip):=funext fun x=>by kernel_rfl
 rw [e]
 exact h
noncomputable def E_i_Dec (N:Nat):Cz:={ tab:=tabP,n:=5,V:=Vp,ann:=look [],fn:=look [(234,(⟨[(.int .i64)],[.str],g_strconv_Itoa N⟩:Fn))],fx:=look [] }
def A_i_Dec:An:={ join:=look [],loop:=look [],ret:=[⟨2,.val,.str⟩] }
theorem c_i_Dec (N:Nat):Ctr Tryz.prog Vp 225 ⟨[(.int .i64)],[.str],i_Dec N⟩:=by
 have hE:EnvOK Tryz.prog (E_i_Dec N):=⟨tabP_ok,look_all (Q:=fun t s=>Ctr Tryz.prog Vp t s) _ (by
  intro p hp
  simp only [List.mem_cons,List.not_mem_nil,or_false] at hp
  rcases hp with rfl
  ·exact c_g_strconv_Itoa N),(fun _ _ h=>by cases h),(fun _ _ h=>by cases h)⟩
 have h:=fn_sound hE (by kernel_rfl) (N:=N) (A:=A_i_Dec) (pl:=[⟨0,.val,(.int .i64)⟩]) (fid:=225) (fn:=Tryz.f225) (c:=((Tryz.f225.body).getD .skip)) ⟨Tryz.func225,by kernel_rfl,by kernel_rfl,by kernel_rfl,Nat.le_of_ble_eq_true (by kernel_rfl),by kernel_rfl,by kernel_rfl,Nat.le_of_ble_eq_true (by kernel_rfl),by kernel_rfl⟩
 have e:i_Dec N=evalF (E_i_Dec N) A_i_Dec N [⟨0,.val,(.int .i64)⟩] ((Tryz.f225.body).getD .skip):=funext fun x=>by kernel_rfl
 rw [e]
 exact h
end Go.Rf
namespace Go.Rf
open Go.Proofs Go.RowKit
set_option maxRecDepth 100000
theorem gW_size {w:World} (h:gW w):4≤w.heap.size:=by
 obtain ⟨_,h1,_⟩:=h
 have hn:Tryz.prog.globalNamed "internal/strconv.uint64pow10"=some 3:=by kernel_rfl
 simp only [Lib.TabIs,World.var?,hn,oB] at h1
 rcases Nat.lt_or_ge 3 w.heap.size with h | h
 ·exact h
 ·rw [Array.getElem?_eq_none h] at h1;cases h1
theorem ctr_use {fid:Nat}{ps rs:List Ty}{F:LD ps→Option (LD rs)} (hr1:rs.all Ty.scal=true) (h:Ctr Tryz.prog Vp fid ⟨ps,rs,F⟩){w:World} (hg:gW w){args:LD ps}{vals:List Value}{r:LD rs}
  (ha:ArgsRel (fun _ b=>b<w.heap.size) (hp w) ps vals args []) (hF:F args=some r) :
  Calls Tryz.prog fid vals.toArray w fun e w'=>∃ rv,e=.returned (retVal rv)∧Below w.heap.size w w'∧ArgsRel (fun _ _=>False) (fun _=>none) rs rv r []:=by
 refine (h.calls w (fun _ b=>b<w.heap.size) args vals [] r (fun _ _ h=>h) (fun _ h=>h) ⟨fun b hb=>Nat.lt_of_lt_of_le hb (gW_size hg),hg⟩ ha (by simp) (by simp) hF).mono ?_
 rintro e w' ⟨rv,T,g,rfl,hf,hr,_⟩
 exact ⟨rv,rfl,⟨hf.os,hf.tape,hf.output,hf.size,fun b hb=>hf.block b hb (by intro h;cases h)⟩,(hr.scal hr1).2⟩
theorem inRange_any (a b c:Int) (w:World) (hg:gW w):Calls Tryz.prog 64 #[.int .i64 a,.int .i64 b,.int .i64 c] w fun e w'=>e=.returned (.bool (decide (b≤a∧a≤c)))∧Below w.heap.size w w':=by
 have hF:i_inRange 0 (a,b,c,())=some (decide (b≤a∧a≤c),()):=by
  unfold i_inRange
  by_cases h1:b≤a <;> by_cases h2:a≤c <;> simp [h1,h2]
 refine (ctr_use rfl (c_i_inRange 0) hg (args:=(a,b,c,())) (vals:=[.int .i64 a,.int .i64 b,.int .i64 c]) ⟨[_],[],[],rfl,⟨rfl,rfl⟩,rfl,[_],[],[],rfl,⟨rfl,rfl⟩,rfl,[_],[],[],rfl,⟨rfl,rfl⟩,rfl,rfl⟩ hF).mono ?_
 rintro e w' ⟨rv,rfl,hb,hr⟩
 obtain ⟨ws,rfl,_,rfl,_⟩:=args1 hr
 exact ⟨rfl,hb⟩
theorem dec_any (n:Int) (h1:-9223372036854775808≤n) (h2:n≤9223372036854775807) (w:World) (hg:gW w):Calls Tryz.prog 225 #[.int .i64 n] w fun e w'=>e=.returned (.string ⟨(Lib.itoa n).toArray⟩)∧Below w.heap.size w w':=by
 have hF:i_Dec 0 (n,())=some (⟨(Lib.itoa n).toArray⟩,()):=by
  unfold i_Dec g_strconv_Itoa
  simp [h1,h2]
 refine (ctr_use rfl (c_i_Dec 0) hg (args:=(n,())) (vals:=[.int .i64 n]) ⟨[_],[],[],rfl,⟨rfl,rfl⟩,rfl,rfl⟩ hF).mono ?_
 rintro e w' ⟨rv,rfl,hb,hr⟩
 obtain ⟨ws,rfl,_,rfl,_⟩:=args1 hr
 exact ⟨rfl,hb⟩
theorem gW_below {w w':World} (hg:gW w) (h:Below w.heap.size w w'):gW w':=gW_loc w w' (fun b hb=>h.block b (Nat.lt_of_lt_of_le hb (gW_size hg))) hg
theorem c_i_ReadDec (N:Nat):Ctr Tryz.prog Vp 209 ⟨[.str],[(.int .i64),.bool],i_ReadDec N⟩:=by
 refine ctr_scal (c:=(Tryz.f209.body).getD .skip) Tryz.func209 (by kernel_rfl) (by kernel_rfl) rfl rfl ?_
 intro w args vals r hg ha hF
 obtain ⟨ws,rfl,_,rfl,_⟩:=args1 ha
 obtain ⟨s,u⟩:=args
 have hg:gW w:=hg
 show Calls Tryz.prog 209 #[.string s] w _
 unfold i_ReadDec at hF
 simp only at hF
 generalize hd:Lib.trimPrefix s.data.toList [45]=d at hF
 have hd':Lib.trimPrefix s.data.toList (⟨#[45]⟩:ByteArray).data.toList=d:=hd
 have hsz:s.size=s.data.toList.length:=by rw [Array.length_toList];rfl
 by_cases hlen:1≤d.length∧d.length≤9
 ·rw [if_pos hlen] at hF
  have hs11:s.size≤10:=by
   rw [hsz]
   have:s.data.toList.length≤d.length+1:=by
    rw [← hd]
    unfold Lib.trimPrefix
    split <;> simp <;> omega
   omega
  have hin:∀ w:World,gW w→Calls Tryz.prog 64 #[.int .i64 d.length,.int .i64 1,.int .i64 9] w fun e w'=>e=.returned (.bool true)∧Below w.heap.size w w':=fun w hg =>
   (inRange_any _ _ _ w hg).mono (by rintro e w1 ⟨rfl,h⟩;refine ⟨?_,h⟩;congr 2;simp;omega)
  cases hat:Lib.atoiAll s.data.toList
  ·rename_i v
   have hv:-9223372036854775808≤v∧v≤9223372036854775807:=by
    unfold Lib.atoiAll at hat
    split at hat
    ·cases hat
    ·simp only at hat
     split at hat
     ·cases hat
     ·cases hat
     ·split at hat
      ·cases hat
      ·split at hat
       ·cases hat
       ·cases hat
        split <;> omega
   rw [hat] at hF
   simp only at hF
   go_enter Tryz.func209,Tryz.ntmps209
   go_wp2_with (go_at_call 223;refine (Tryz.strings_TrimPrefix _ _ _).mono ?_;rintro e w' ⟨rfl,rfl⟩)
   refine (hin _ hg).mono ?_
   rintro e w1 ⟨rfl,hb1⟩
   have hg1:=gW_below hg hb1
   go_wp2_with (go_at_call 224;refine (Tryz.strconv_Atoi_ok s (by omega) v hat w1).mono ?_)
   rintro e w2 ⟨rfl,hw2⟩
   have hb2:Below w1.heap.size w1 w2:=by
    rcases hw2 with rfl | ⟨t,rfl⟩
    ·exact Below.refl _ _
    ·exact ⟨rfl,rfl,rfl,by rw [Lib.bytesWorld_size];omega,fun j hj=>Lib.bytesWorld_at_old w1 5 t j hj⟩
   have hg2:=gW_below hg1 hb2
   go_wp2_with (go_at_call 225;refine (dec_any v hv.1 hv.2 w2 hg2).mono ?_)
   rintro e w3 ⟨rfl,hb3⟩
   go_wp2
   all_goals
    rename_i hne
    go_ret2
    rw [ByteArray.toList_eq] at hne
   ·have hne':¬ Lib.itoa v=s.data.toList:=by simpa using hne
    rw [if_neg hne'] at hF
    cases hF
    exact ⟨[.int .i64 0,.bool false],rfl,(hb1.trans (hb2.mono hb1.size)).trans (hb3.mono (Nat.le_trans hb1.size hb2.size)),[_],[],[],rfl,⟨rfl,rfl⟩,rfl,[_],[],[],rfl,⟨rfl,rfl⟩,rfl,rfl⟩
   ·have hne':Lib.itoa v=s.data.toList:=by simpa using hne
    rw [if_pos hne'] at hF
    cases hF
    exact ⟨[.int .i64 v,.bool true],rfl,(hb1.trans (hb2.mono hb1.size)).trans (hb3.mono (Nat.le_trans hb1.size hb2.size)),[_],[],[],rfl,⟨rfl,rfl⟩,rfl,[_],[],[],rfl,⟨rfl,rfl⟩,rfl,rfl⟩
  ·rw [hat] at hF
   simp only at hF
   cases hF
   go_enter Tryz.func209,Tryz.ntmps209
   go_wp2_with (go_at_call 223;refine (Tryz.strings_TrimPrefix _ _ _).mono ?_;rintro e w' ⟨rfl,rfl⟩)
   refine (hin _ hg).mono ?_
   rintro e w1 ⟨rfl,hb1⟩
   have hg1:=gW_below hg hb1
   obtain ⟨_,_,⟨te,pe,hc⟩,_⟩:=hg1
   go_wp2_with (go_at_call 224;refine (Any.strconv_Atoi_syntax Tryz.laysC172 s (by omega) hat _ w1 hc (.inr ⟨te,pe,rfl⟩)).mono ?_)
   rintro e w2 ⟨N',rfl,_,_,hb2⟩
   go_wp2
   go_ret2
   exact ⟨[.int .i64 0,.bool false],rfl,hb1.trans (hb2.mono hb1.size),[_],[],[],rfl,⟨rfl,rfl⟩,rfl,[_],[],[],rfl,⟨rfl,rfl⟩,rfl,rfl⟩
  ·rw [hat] at hF
   simp only at hF
   cases hF
   go_enter Tryz.func209,Tryz.ntmps209
   go_wp2_with (go_at_call 223;refine (Tryz.strings_TrimPrefix _ _ _).mono ?_;rintro e w' ⟨rfl,rfl⟩)
   refine (hin _ hg).mono ?_
   rintro e w1 ⟨rfl,hb1⟩
   have hg1:=gW_below hg hb1
   obtain ⟨_,_,_,⟨te,pe,hc⟩⟩:=hg1
   go_wp2_with (go_at_call 224;refine (Tryz.strconv_Atoi_range s (by omega) hat _ w1 hc (.inr ⟨te,pe,rfl⟩)).mono ?_)
   rintro e w2 ⟨N',rfl,_,_,hb2⟩
   go_wp2
   go_ret2
   exact ⟨[.int .i64 0,.bool false],rfl,hb1.trans (hb2.mono hb1.size),[_],[],[],rfl,⟨rfl,rfl⟩,rfl,[_],[],[],rfl,⟨rfl,rfl⟩,rfl,rfl⟩
 ·rw [if_neg hlen] at hF
  cases hF
  have hin:∀ w:World,gW w→Calls Tryz.prog 64 #[.int .i64 d.length,.int .i64 1,.int .i64 9] w fun e w'=>e=.returned (.bool false)∧Below w.heap.size w w':=fun w hg =>
   (inRange_any _ _ _ w hg).mono (by rintro e w1 ⟨rfl,h⟩;refine ⟨?_,h⟩;congr 2;simp;omega)
  go_enter Tryz.func209,Tryz.ntmps209
  go_wp2_with (go_at_call 223;refine (Tryz.strings_TrimPrefix _ _ _).mono ?_;rintro e w' ⟨rfl,rfl⟩)
  refine (hin _ hg).mono ?_
  rintro e w1 ⟨rfl,hb1⟩
  go_wp2
  go_ret2
  exact ⟨[.int .i64 0,.bool false],rfl,hb1,[_],[],[],rfl,⟨rfl,rfl⟩,rfl,[_],[],[],rfl,⟨rfl,rfl⟩,rfl,rfl⟩
end Go.Rf
namespace Go.Rf
open Go.Proofs Go.RowKit Go.Shelf Go.Lib
set_option maxRecDepth 100000
abbrev DT2:=Int×Int×Unit
def cT (l:List DT2):List Value:=l.flatMap fun v=>[.int .i64 v.1,.int .i64 v.2.1]
theorem cT_cons (v:DT2) (l:List DT2):cT (v::l)=.int .i64 v.1::.int .i64 v.2.1::cT l:=rfl
theorem cT_len:∀ l:List DT2,(cT l).length=l.length*2
 | []=>rfl
 | v::l=>by simp only [cT_cons,List.length_cons,cT_len l];omega
theorem cT_append (l m:List DT2):cT (l++m)=cT l++cT m:=by simp [cT]
theorem cT_take:∀ (i:Nat) (l:List DT2),(cT l).take (i*2)=cT (l.take i)
 | 0,l=>by simp [cT]
 | i+1,[]=>by simp [cT]
 | i+1,v::l=>by rw [Nat.add_mul,Nat.one_mul,cT_cons,List.take_succ_cons,List.take_succ_cons,cT_take i l,List.take_succ_cons,cT_cons]
theorem cT_drop:∀ (i:Nat) (l:List DT2),(cT l).drop (i*2)=cT (l.drop i)
 | 0,l=>by simp
 | i+1,[]=>by simp [cT]
 | i+1,v::l=>by rw [Nat.add_mul,Nat.one_mul,cT_cons,List.drop_succ_cons,List.drop_succ_cons,cT_drop i l,List.drop_succ_cons]
theorem cT_one (l:List DT2):∀ v∈cT l,v.oneCell'=true:=by
 intro v hv
 simp only [cT,List.mem_flatMap] at hv
 obtain ⟨x,_,hx⟩:=hv
 simp only [List.mem_cons,List.not_mem_nil,or_false] at hx
 rcases hx with rfl | rfl <;> rfl
theorem repT {S:Stab}{H:Heap}{vs:List Value}{x:DT2}{f:List Nat}:Rep S H t83o vs x f↔vs=[.int .i64 x.1,.int .i64 x.2.1]∧f=[]:=by
 constructor
 ·rintro ⟨v1,v2,f1,f2,rfl,rfl,⟨rfl,rfl⟩,v3,v4,f3,f4,rfl,rfl,⟨rfl,rfl⟩,rfl,rfl⟩
  exact ⟨rfl,rfl⟩
 ·rintro ⟨rfl,rfl⟩
  exact ⟨[_],[_],[],[],rfl,rfl,⟨rfl,rfl⟩,[_],[],[],[],rfl,rfl,⟨rfl,rfl⟩,rfl,rfl⟩
theorem rowsT {S:Stab}{H:Heap}:∀ {xs:List DT2}{cs:List Value}{f:List Nat},Rows (Rep S H t83o) 2 cs xs f↔f=[]∧cs.take (xs.length*2)=cT xs:=by
 intro xs
 induction xs with
 | nil=>intro cs f;simp [Rows,cT]
 | cons x xs ih =>
  intro cs f
  rw [List.length_cons,Nat.add_mul,Nat.one_mul,cT_cons]
  constructor
  ·rintro ⟨f1,f2,rfl,h1,h2⟩
   obtain ⟨e1,rfl⟩:=repT.1 h1
   obtain ⟨rfl,e2⟩:=ih.1 h2
   refine ⟨rfl,?_⟩
   match cs,e1,e2 with
   | a::b::cs,e1,e2 =>
    simp only [List.take_succ_cons,List.take_zero,List.cons.injEq,and_true] at e1
    obtain ⟨rfl,rfl⟩:=e1
    simp only [List.drop_succ_cons,List.drop_zero] at e2
    rw [List.take_succ_cons,List.take_succ_cons,e2]
   | [a],e1,_=>simp at e1
   | [],e1,_=>simp at e1
  ·rintro ⟨rfl,e⟩
   match cs,e with
   | a::b::cs,e =>
    simp only [List.take_succ_cons,List.cons.injEq] at e
    obtain ⟨rfl,rfl,e⟩:=e
    exact ⟨[],[],rfl,repT.2 ⟨rfl,rfl⟩,ih.2 ⟨rfl,e⟩⟩
   | [a],e=>simp at e
   | [],e=>simp at e
def OwnT (H:Heap) (v:Value) (xs:List DT2) (f:List Nat):Prop :=
 ∃ a c,v=.slice a xs.length c∧xs.length≤c∧((c=0∧f=[])∨∃ b off cs el fr,a=some ⟨b,off,none⟩∧H b=some (.cells cs el fr)∧off+c*2≤cs.size∧(cs.toList.drop off).take (xs.length*2)=cT xs∧Soft fr cs.size∧f=[b])
theorem ownT {S:Stab}{H:Heap}{v:Value}{xs:List DT2}{f:List Nat}:Rep S H (.sl .own t83o) [v] xs f↔OwnT H v xs f:=by
 constructor
 ·rintro ⟨a,len,c,e,rfl,hc,h⟩
  refine ⟨a,c,by simpa using e,hc,?_⟩
  rcases h with h | ⟨b,off,cs,el,fr,f2,rfl,hb,hs,hr,h⟩
  ·exact .inl h
  ·obtain ⟨rfl,e2⟩:=rowsT.1 hr
   rcases h with ⟨h,_⟩ | ⟨_,h3,rfl⟩
   ·exact absurd rfl h
   ·exact .inr ⟨b,off,cs,el,fr,rfl,hb,hs,e2,h3,rfl⟩
 ·rintro ⟨a,c,rfl,hc,h⟩
  refine ⟨a,xs.length,c,rfl,rfl,hc,?_⟩
  rcases h with h | ⟨b,off,cs,el,fr,rfl,hb,hs,e2,h3,rfl⟩
  ·exact .inl h
  ·exact .inr ⟨b,off,cs,el,fr,[],rfl,hb,hs,rowsT.2 ⟨rfl,e2⟩,.inr ⟨rfl,h3,rfl⟩⟩
theorem run_copy_soft {P:Program} (w:World) (dT sT ty elem:TypeId) (sz b o dLen dCap:Nat) (cur:Array Value) (el:TypeId) (fr:Nat×Nat) (a:Addr) (sLen sCap:Nat) (cs:List Value)
  (hu:P.underlying dT=some (.slice elem)) (hs:∀ w,(Go.sizeOf elem).run P w=.ok sz w) (hb:hp w b=some (.cells cur el fr)) (hf:Soft fr cur.size)
  (hn:cs.length=Nat.min sLen dLen*sz) (hsrc:∀ j v,cs[j]?=some v→w.cell? (a.add j)=some v) (hfit:o+cs.length≤cur.size) (h1:∀ v∈cs,v.oneCell'=true) :
  (Builtin.copy_ #[dT,sT] ty #[.slice (some ⟨b,o,none⟩) dLen dCap,.slice (some a) sLen sCap]).run P w=.ok (goInt (Nat.min sLen dLen)) (w.setRow b (lput cur.toList o cs).toArray):=by
 have hl:=run_loadCells_list (P:=P) w a cs hsrc
 have hst:=run_storeCells_soft (P:=P) b o el fr cs 0 cur w hb hf (by simpa using hfit) h1
 simp only [Nat.add_zero] at hst
 simp [Builtin.copy_,run_underlying hu,Builtin.lenOf,Builtin.firstCells,hs,← hn,hl,hst]
def InsPost (w:World) (f:List Nat) (ys:List DT2) (e:Ending) (w':World):Prop :=
 ∃ v' g,e=.returned v'∧Frm w w' (Blk.of fun b=>b∈f)∧OwnT (hp w') v' ys g∧g.Nodup∧∀ b∈g,b<w'.heap.size∧(w.heap.size≤b∨b∈f)
theorem ins_end (w:World) (S:Stab) (hstab:∀ m b,S m b→b<w.heap.size) (hkl:∀ b,S .keep b→S .lend b) (hglb:(∀ b,b<Vp.n→S .lend b)∧Vp.holds w) (xs:List DT2) (v:DT2) (sx sv:Value) (f1 f2:List Nat)
  (hx:Rep S (hp w) (.sl .own t83o) [sx] xs f1) (hv:Rep S (hp w) (.sl .own t83o) [sv] [v] f2) (hnd:(f1++f2).Nodup) (hf:∀ b∈f1++f2,b<w.heap.size∧∀ m,¬ S m b) (hn:xs.length<4294967296) :
  Calls Tryz.prog 43 #[sx,.int .i64 xs.length,sv] w (InsPost w (f1++f2) (xs++[v])):=by
 have hX:=ownT.1 hx
 have hV:=ownT.1 hv
 obtain ⟨av,cv,rfl,hcv,hV⟩:=hV
 have hcv:1≤cv:=hcv
 rcases hV with ⟨h0,_⟩ | ⟨bv,ov,cc,elv,frv,rfl,hbv,hszv,hvc,hfv,rfl⟩
 ·omega
 have hI:Inv { tab:=tabP,n:=0,V:=Vp } w (Blk.of fun b=>b∈f1++[bv]) ⟨fun _=>.a .junk,fun _=>none⟩ { tmps:=#[],defers:=[] } w S (fun _=>default) (fun _=>[]) :=
  ⟨⟨rfl,rfl,rfl,Nat.le_refl _,fun _ _ _=>rfl⟩,hstab,hkl,by simp,by simp,by simp,by intro id r h;simp at h,fun t=>trivial,rfl,rfl,hglb,by intro id r h;simp at h⟩
 have hF:Free w w (Blk.of fun b=>b∈f1++[bv]) S (fun _=>[]) (f1++[]):=⟨fun q hq=>⟨(hf q (by simp at hq ⊢;exact .inl hq)).1,(hf q (by simp at hq ⊢;exact .inl hq)).2,.inr (by simp at hq;show q∈f1++[bv];simp [hq])⟩,by simpa using hnd.sublist (List.sublist_append_left f1 [bv]),by simp⟩
 have hcc:(cc.toList.drop ov).take 2=cT [v]:=by simpa using hvc
 have hsrc:Src Tryz.prog 2 54 (.slice (some ⟨bv,ov,none⟩) 1 cv) 1 (cT [v]) w :=
  Src.ofSlice w Tryz.underlying54 ⟨bv,ov,none⟩ 1 cv (cT [v]) rfl (fun j u hj=>by
   rw [Addr.add_lit,cell_hp hbv]
   rw [← hcc,List.getElem?_take] at hj
   split at hj
   ·rw [List.getElem?_drop] at hj;simpa using hj
   ·cases hj) (cT_one _)
 have hrun:=append_spec' (ty:=54) (tx:=54) tabP_ok hI (t:=54) (m0:=.own) (s:=t83o) (e:=t83o) (by kernel_rfl) rfl (ys:=[v]) (gy:=[]) (n:=1) (news:=cT [v]) hx hF hsrc rfl (rowsT.2 ⟨rfl,by rw [← cT_len];simp⟩) (by simp;omega)
 obtain ⟨v',w',fp',hr,hI',hR',hF',_⟩:=hrun
 have hpost:InsPost w (f1++[bv]) (xs++[v]) (.returned v') w':=by
  refine ⟨v',fp',rfl,hI'.frm,ownT.1 hR',hF'.nd,fun b hb=>⟨(hF'.ok b hb).1,?_⟩⟩
  rcases (hF'.ok b hb).2.2 with h | h
  ·exact .inl h
  ·exact .inr h
 have t3:=Tryz.underlying3;have t54:=Tryz.underlying54;have t84:=Tryz.underlying84
 have u3:=run_underlying t3;have u54:=run_underlying t54;have u84:=run_underlying t84
 obtain ⟨ax,cx,rfl,hcx,hX⟩:=hX
 clear hX hI hF hsrc hI' hR' hF'
 cases ax with
 | none =>
  go_enter Tryz.func43,Tryz.ntmps43
  go_wp2_with (at_builtin;refine Lib.wpList_append_run _ rfl _ _ _ _ rfl _ _ rfl rfl _ _ hr ?_)
  go_ret
  exact hpost
 | some a =>
  obtain ⟨ab,ao,asp⟩:=a
  go_enter Tryz.func43,Tryz.ntmps43
  go_wp2_with (at_builtin;refine Lib.wpList_append_run _ rfl _ _ _ _ rfl _ _ rfl rfl _ _ hr ?_)
  all_goals (go_ret;exact hpost)
theorem lput_take {A ws:List Value}{p q:Nat} (hq:q≤p) (hp:p≤A.length):(lput A p ws).take q=A.take q:=by
 unfold lput
 rw [List.append_assoc,List.take_append_of_le_length (by simp;omega),List.take_take,Nat.min_eq_left hq]
theorem lput_drop {A ws:List Value}{p:Nat} (hp:p≤A.length):(lput A p ws).drop p=ws++A.drop (p+ws.length):=by
 unfold lput
 rw [List.append_assoc,List.drop_append_of_le_length (by simp;omega),List.drop_of_length_le (by simp;omega),List.nil_append]
theorem lput_len {A ws:List Value}{p:Nat} (hp:p+ws.length≤A.length):(lput A p ws).length=A.length:=by
 unfold lput
 simp
 omega
theorem ins_cells {A:List Value}{off n i:Nat}{xs:List DT2}{v:DT2} (hn:xs.length=n) (hi:i≤n) (hA:(A.drop off).take (n*2)=cT xs) (hsz:off+(n+1)*2≤A.length) :
  ((lput (lput A (off+(i+1)*2) (cT (xs.drop i))) (off+i*2) (cT [v])).drop off).take ((n+1)*2)=cT (xs.take i++[v]++xs.drop i):=by
 have hd:(cT (xs.drop i)).length=(n-i)*2:=by rw [cT_len,List.length_drop,hn]
 have hl1:(lput A (off+(i+1)*2) (cT (xs.drop i))).length=A.length:=lput_len (by rw [hd];omega)
 have e1:(lput A (off+(i+1)*2) (cT (xs.drop i))).take (off+i*2)=A.take (off+i*2):=lput_take (by omega) (by omega)
 have e2:=lput_drop (A:=A) (ws:=cT (xs.drop i)) (p:=off+(i+1)*2) (by omega)
 generalize hL:lput A (off+(i+1)*2) (cT (xs.drop i))=L at hl1 e1 e2
 have e3:(A.drop off).take (i*2)=cT (xs.take i):=by
  rw [← cT_take,← hA,List.take_take,Nat.min_eq_left (by omega)]
 have hv:(cT [v]).length=2:=rfl
 unfold lput
 rw [hv,show off+i*2+2=off+(i+1)*2 by omega,e2,e1,List.append_assoc,List.drop_append_of_le_length (by simp;omega),List.drop_take,show off+i*2-off=i*2 by omega,e3,
  cT_append,cT_append,← List.append_assoc,← List.append_assoc]
 have hlen:(cT (xs.take i)++cT [v]++cT (xs.drop i)).length=(n+1)*2:=by
  rw [List.length_append,List.length_append,hd,hv,cT_len,List.length_take,hn];omega
 rw [List.take_append_of_le_length (by omega),List.take_of_length_le (by omega)]
theorem frozen_hp' {w:World}{b off:Nat}{c:Array Value}{el:TypeId}{fr:Nat×Nat} (h:hp w b=some (.cells c el fr)) (hs:Soft fr c.size) (ho:off≤c.size):w.frozen? ⟨b,off,none⟩=false:=by
 simp only [hp] at h
 simp only [World.frozen?,h]
 exact hs off ho
theorem shape_hp {w:World}{b:Nat}{c:Array Value}{el:TypeId}{fr:Nat×Nat} (h:hp w b=some (.cells c el fr)):w.shape? b=some (el,c.size):=by
 simp only [hp] at h
 simp only [World.shape?,h]
set_option maxHeartbeats 4000000 in
theorem ins_shift (w:World) (xs:List DT2) (v:DT2) (i b off c:Nat) (cells:Array Value) (el:TypeId) (fr:Nat×Nat) (bv ov cv:Nat) (cc:Array Value) (elv:TypeId) (frv:Nat×Nat)
  (hi:i<xs.length) (hn:xs.length<4294967296) (hroom:xs.length+1≤c) (hvb:bv≠b) (hb:hp w b=some (.cells cells el fr)) (hsz:off+c*2≤cells.size) (hA:(cells.toList.drop off).take (xs.length*2)=cT xs) (hfr:Soft fr cells.size)
  (hcv:1≤cv) (hbv:hp w bv=some (.cells cc elv frv)) (hszv:ov+cv*2≤cc.size) (hcc:(cc.toList.drop ov).take 2=cT [v]) (hfv:Soft frv cc.size) :
  Calls Tryz.prog 43 #[.slice (some ⟨b,off,none⟩) xs.length c,.int .i64 i,.slice (some ⟨bv,ov,none⟩) 1 cv] w fun e w' =>
   e=.returned (.slice (some ⟨b,off,none⟩) (xs.length+1) c)∧w'=(w.drew.setRow b (lput cells.toList (off+(i+1)*2) (cT (xs.drop i))).toArray).setRow b (lput (lput cells.toList (off+(i+1)*2) (cT (xs.drop i))) (off+i*2) (cT [v])).toArray:=by
 generalize hnn:xs.length=n at *
 have t3:=Tryz.underlying3;have t54:=Tryz.underlying54;have t84:=Tryz.underlying84;have z84:=Tryz.sizeOf84
 have u3:=run_underlying t3;have u54:=run_underlying t54;have u84:=run_underlying t84
 have hz2:¬ ((i:Int)=(n:Int)):=by omega
 have hd:(cT (xs.drop i)).length=(n-i)*2:=by rw [cT_len,List.length_drop,hnn]
 have hov:∀ o lb cb,(callFunc 84 #[.slice (some ⟨bv,ov,none⟩) 1 cv,.slice (some ⟨b,o,none⟩) lb cb]).run Tryz.prog w=.ok (.value (.bool false)) w:=fun o lb cb=>by
  rw [run_callFunc_extern Tryz.func84 (by kernel_rfl) (by kernel_rfl) (by kernel_rfl) (e:=Extern.SlicesOverlaps.overlaps #[54,54] #[4]) (by kernel_rfl),
   Lib.run_overlaps_apart w 54 4 84 t54 2 z84 ⟨bv,ov,none⟩ ⟨b,o,none⟩ 1 cv lb cb hvb elv el cc.size cells.size (shape_hp hbv) (shape_hp hb) (by omega) (frozen_hp' hbv hfv (by omega)) (frozen_hp' hbv hfv (Nat.le_refl _))]
  rfl
 have hsrc1:∀ j u,(cT (xs.drop i))[j]?=some u→w.drew.cell? ((⟨b,off+i*2,none⟩:Addr).add j)=some u:=fun j u hj=>by
  have hb':hp w.drew b=some (.cells cells el fr):=hb
  rw [Addr.add_lit,cell_hp hb']
  rw [← cT_drop,← hA,List.getElem?_drop,List.getElem?_take] at hj
  split at hj
  ·rw [List.getElem?_drop] at hj
   rw [← hj,← Array.getElem?_toList,Nat.add_assoc]
  ·cases hj
 have hcp1:∀ ty dc sc,(Builtin.copy_ #[54,54] ty #[.slice (some ⟨b,off+(i+1)*2,none⟩) (n-i) dc,.slice (some ⟨b,off+i*2,none⟩) (n+1-i) sc]).run Tryz.prog w.drew=.ok (goInt (Nat.min (n+1-i) (n-i))) (w.drew.setRow b (lput cells.toList (off+(i+1)*2) (cT (xs.drop i))).toArray):=fun ty dc sc =>
  run_copy_soft w.drew 54 54 ty 84 2 b (off+(i+1)*2) (n-i) dc cells el fr ⟨b,off+i*2,none⟩ (n+1-i) sc (cT (xs.drop i)) t54 z84 hb hfr (by rw [hd];simp only [Nat.min_def];split <;> omega) hsrc1 (by rw [hd];omega) (cT_one _)
 obtain ⟨W1,hW1⟩:∃ W1,W1=w.drew.setRow b (lput cells.toList (off+(i+1)*2) (cT (xs.drop i))).toArray:=⟨_,rfl⟩
 have hb1:hp W1 b=some (.cells (lput cells.toList (off+(i+1)*2) (cT (xs.drop i))).toArray el fr):=by rw [hW1];exact hp_setRow_same (w:=w.drew) hb
 have hbv1:hp W1 bv=some (.cells cc elv frv):=by rw [hW1,hp_setRow_other (w:=w.drew) hvb];exact hbv
 have hl1:(lput cells.toList (off+(i+1)*2) (cT (xs.drop i))).toArray.size=cells.size:=by simp only [List.size_toArray];rw [lput_len (by rw [hd];simp;omega)];simp
 have hcp2:∀ ty dc,(Builtin.copy_ #[54,54] ty #[.slice (some ⟨b,off+i*2,none⟩) (n+1-i) dc,.slice (some ⟨bv,ov,none⟩) 1 cv]).run Tryz.prog W1=.ok (goInt (Nat.min 1 (n+1-i))) (W1.setRow b (lput (lput cells.toList (off+(i+1)*2) (cT (xs.drop i))) (off+i*2) (cT [v])).toArray):=fun ty dc=>by
  have:=run_copy_soft (P:=Tryz.prog) W1 54 54 ty 84 2 b (off+i*2) (n+1-i) dc _ el fr ⟨bv,ov,none⟩ 1 cv (cT [v]) t54 z84 hb1 (by rw [hl1];exact hfr) (by simp only [Nat.min_def];split <;> first | rfl | omega) (fun j u hj=>by
   rw [Addr.add_lit,cell_hp hbv1]
   rw [← hcc,List.getElem?_take] at hj
   split at hj
   ·rw [List.getElem?_drop] at hj;simpa using hj
   ·cases hj) (by rw [hl1];show off+i*2+2≤_;omega) (cT_one _)
  simpa using this
 subst hW1
 have mixed:Tryz.prog.follows .mixedOrders=true:=by kernel_rfl
 have hw1:IntKind.i64.wrap ((i:Int)+1)=(i:Int)+1:=by rw [IntKind.wrap_i64];omega
 have hwn:IntKind.i64.wrap ((n:Int)+1)=(n:Int)+1:=by rw [IntKind.wrap_i64];omega
 have hb1:(0:Int)≤(i:Int)+1:=by omega
 have hin:i≤n:=by omega
 have htn:((i:Int)+1).toNat=i+1:=by omega
 have hb2:¬ (c=i+1):=by omega
 have hb3:(i:Int)≤(n:Int)+1:=by omega
 have hb4:¬ (c=i):=by omega
 have hb5:¬ ((c:Int)<(n:Int)+1):=by omega
 clear hA hcc hsrc1 hl1 hd hsz hszv
 go_enter Tryz.func43,Tryz.ntmps43
 go_wp2_with (simp only [hov])
 go_region_law_o (refine step_copy_runI rfl _ _ 54 54 rfl _ _ (by simp [Act.eval,Act.put]) (by simp [Act.eval,Act.put]) (hcp1 _ _ _) ?_)
 go_wp2_with (at_builtin;refine wpList_copy_runI _ rfl _ _ 54 54 rfl _ _ rfl rfl (hcp2 _ _) ?_)
 go_ret
 exact ⟨rfl,rfl⟩
theorem zc_size (z:Array Value) (n:Nat):(Builtin.zeroCells z n).size=n*z.size:=by simp [Builtin.zeroCells]
theorem grow_cells {A:List Value}{n i:Nat}{xs:List DT2}{v:DT2} (hn:xs.length=n) (hi:i≤n) (hA:A.take (i*2)=cT (xs.take i)) (hsz:(n+1)*2≤A.length) :
  (lput (lput A (i*2) (cT [v])) ((i+1)*2) (cT (xs.drop i))).take ((n+1)*2)=cT (xs.take i++[v]++xs.drop i):=by
 have hd:(cT (xs.drop i)).length=(n-i)*2:=by rw [cT_len,List.length_drop,hn]
 have ht:(cT (xs.take i)).length=i*2:=by rw [cT_len,List.length_take,hn];omega
 have hv:(cT [v]).length=2:=rfl
 have e1:(lput A (i*2) (cT [v])).take ((i+1)*2)=cT (xs.take i)++cT [v]:=by
  unfold lput
  rw [hA,List.take_append_of_le_length (by rw [List.length_append,ht,hv];omega),List.take_of_length_le (by rw [List.length_append,ht,hv];omega)]
 generalize lput A (i*2) (cT [v])=L at e1
 unfold lput
 rw [e1,cT_append,cT_append,List.take_append_of_le_length (by simp only [List.length_append,ht,hv,hd];omega),List.take_of_length_le (by simp only [List.length_append,ht,hv,hd];omega)]
set_option maxHeartbeats 4000000 in
theorem ins_grow (w:World) (xs:List DT2) (v:DT2) (i b off c:Nat) (cells:Array Value) (el:TypeId) (fr:Nat×Nat) (bv ov cv:Nat) (cc:Array Value) (elv:TypeId) (frv:Nat×Nat)
  (hi:i<xs.length) (hn:xs.length<4294967296) (hnc:xs.length≤c) (hroom:c<xs.length+1) (hb:hp w b=some (.cells cells el fr)) (hsz:off+c*2≤cells.size) (hA:(cells.toList.drop off).take (xs.length*2)=cT xs)
  (hcv:1≤cv) (hbv:hp w bv=some (.cells cc elv frv)) (hcc:(cc.toList.drop ov).take 2=cT [v]) :
  Calls Tryz.prog 43 #[.slice (some ⟨b,off,none⟩) xs.length c,.int .i64 i,.slice (some ⟨bv,ov,none⟩) 1 cv] w fun e w' =>
   ∃ (G:Nat) (ROW:Array Value),e=.returned (.slice (some ⟨w.heap.size,0,none⟩) (xs.length+1) G)∧xs.length+1≤G∧ROW.size=G*2∧ROW.toList.take (i*2)=cT (xs.take i) ∧
    Frm w w' (Blk.of fun _=>False)∧w.heap.size<w'.heap.size∧hp w' w.heap.size=some (.cells (lput (lput ROW.toList (i*2) (cT [v])) ((i+1)*2) (cT (xs.drop i))).toArray 84 (0,0)):=by
 generalize hnn:xs.length=n at *
 have t3:=Tryz.underlying3;have t54:=Tryz.underlying54;have t84:=Tryz.underlying84;have z84:=Tryz.sizeOf84
 have u3:=run_underlying t3;have u54:=run_underlying t54;have u84:=run_underlying t84
 have mixed:Tryz.prog.follows .mixedOrders=true:=by kernel_rfl
 obtain ⟨nb,hnb,hinfo⟩:=(tabP_ok 84 t83o (by kernel_rfl)).info
 obtain ⟨i0,hi0,hi1⟩:=Option.map_eq_some_iff.1 hinfo
 simp only [Prod.mk.injEq] at hi1
 obtain ⟨k1,k2,k3⟩:=hi1
 have k1:i0.size=2:=k1
 have hz2:¬ ((i:Int)=(n:Int)):=by omega
 have hz3:(c:Int)<(n:Int)+1:=by omega
 have hd:(cT (xs.drop i)).length=(n-i)*2:=by rw [cT_len,List.length_drop,hnn]
 have ht:(cT (xs.take i)).length=i*2:=by rw [cT_len,List.length_take,hnn];omega
 have hbw:b<w.heap.size:=(Array.getElem?_eq_some_iff.1 hb).1
 have hvw:bv<w.heap.size:=(Array.getElem?_eq_some_iff.1 hbv).1
 have hcell:∀ k u,(cT xs)[k]?=some u→w.cell? ⟨b,off+k,none⟩=some u:=fun k u hk=>by
  rw [cell_hp hb]
  rw [← hA,List.getElem?_take] at hk
  split at hk
  ·rw [List.getElem?_drop] at hk
   rw [← hk,← Array.getElem?_toList]
  ·cases hk
 have hold:(Builtin.firstCells i0.size i (.slice (some ⟨b,off,none⟩) i c)).run Tryz.prog w.drew=.ok (cT (xs.take i)).toArray w.drew:=by
  rw [k1]
  exact run_firstCells_some w.drew 2 i ⟨b,off,none⟩ i c (cT (xs.take i)) ht (fun j u hj=>by
   rw [Addr.add_lit]
   rw [← cT_take,List.getElem?_take] at hj
   split at hj
   ·exact hcell j u hj
   ·cases hj)
 have hmul:(n+1)*i0.bytes≤140737488355328:=by
  rw [k2]
  have:=Nat.mul_le_mul (show n+1≤4294967296 by omega) hnb
  omega
 have hrz:=fun ty=>Lib.run_append_grow_zeros w 54 3 ty 84 i0 _ .i64 .i64 t54 t3 hi0 k3 (some ⟨b,off,none⟩) i c (cT (xs.take i)) hold (n+1-i) (by omega) (by omega) (by omega) (by omega)
  (by have:=Nat.mul_le_mul_right i0.bytes (show n+1-i≤n+1 by omega);omega) (by rw [show i+(n+1-i)=n+1 by omega];exact growslice_fits hroom hmul)
 have hik:i+(n+1-i)=n+1:=by omega
 simp only [hik] at hrz
 have hkk:(n:Int)+1-(i:Int)=((n+1-i:Nat):Int):=by omega
 rw [← hkk] at hrz
 have hGn:n+1≤grownCap w (n+1) c 84:=grownCap_ge w _ _ _
 have hG63:grownCap w (n+1) c 84≤9223372036854775807:=by
  have:=grownCap_le_maxLen w (n+1) c 84 (by unfold maxLen;omega)
  unfold maxLen at this
  omega
 generalize grownCap w (n+1) c 84=G at hrz hGn hG63
 obtain ⟨ROW,hROW⟩:∃ ROW:Array Value,ROW=(cT (xs.take i)).toArray++Builtin.zeroCells (valOf t83o (zeroC t83o)).cells (n+1-i)++Builtin.zeroCells (valOf t83o (zeroC t83o)).cells (G-(n+1)):=⟨_,rfl⟩
 rw [← hROW] at hrz
 have hzc:(valOf t83o (zeroC t83o)).cells.size=2:=rfl
 have hRs:ROW.size=G*2:=by
  rw [hROW]
  simp only [Array.size_append,List.size_toArray,ht,zc_size,hzc]
  omega
 have hRt:ROW.toList.take (i*2)=cT (xs.take i):=by
  rw [hROW]
  simp only [Array.toList_append,List.append_assoc]
  rw [List.take_append_of_le_length (by omega),List.take_of_length_le (by omega)]
 clear hROW hold
 have hb1:hp (w.drew.alloc (.cells ROW 84)) w.heap.size=some (.cells ROW 84 (0,0)):=hp_alloc_new (w:=w.drew)
 have hold1:∀ q,q<w.heap.size→hp (w.drew.alloc (.cells ROW 84)) q=hp w q:=fun q hq=>hp_alloc_old (w:=w.drew) hq
 have hRL:ROW.toList.length=G*2:=by rw [Array.length_toList];exact hRs
 have hvl:(cT [v]).length=2:=rfl
 have hl1:(lput ROW.toList (i*2) (cT [v])).toArray.size=G*2:=by simp only [List.size_toArray];rw [lput_len (by rw [hvl];omega)];exact hRL
 have hcpA:∀ (W:World),hp W=hp (w.drew.alloc (.cells ROW 84))→∀ ty dc,(Builtin.copy_ #[54,54] ty #[.slice (some ⟨w.heap.size,i*2,none⟩) (n+1-i) dc,.slice (some ⟨bv,ov,none⟩) 1 cv]).run Tryz.prog W=.ok (goInt (Nat.min 1 (n+1-i))) (W.setRow w.heap.size (lput ROW.toList (i*2) (cT [v])).toArray):=fun W hW ty dc =>
  run_copy_soft (P:=Tryz.prog) W 54 54 ty 84 2 w.heap.size (i*2) (n+1-i) dc ROW 84 (0,0) ⟨bv,ov,none⟩ 1 cv (cT [v]) t54 z84 (by rw [hW];exact hb1) (by intro o _;simp) (by simp only [Nat.min_def];split <;> first | rfl | omega) (fun j u hj=>by
   rw [Addr.add_lit,cell_hp (by rw [hW,hold1 bv hvw];exact hbv)]
   rw [← hcc,List.getElem?_take] at hj
   split at hj
   ·rw [List.getElem?_drop] at hj;simpa using hj
   ·cases hj) (by rw [hvl,hRs];omega) (cT_one _)
 have hcpB:∀ (W:World),hp W w.heap.size=some (.cells (lput ROW.toList (i*2) (cT [v])).toArray 84 (0,0))→hp W b=hp w b→∀ ty dc sc,(Builtin.copy_ #[54,54] ty #[.slice (some ⟨w.heap.size,(i+1)*2,none⟩) (n-i) dc,.slice (some ⟨b,off+i*2,none⟩) (n-i) sc]).run Tryz.prog W=.ok (goInt (Nat.min (n-i) (n-i))) (W.setRow w.heap.size (lput (lput ROW.toList (i*2) (cT [v])) ((i+1)*2) (cT (xs.drop i))).toArray):=fun W hW1 hW2 ty dc sc=>by
  have:=run_copy_soft (P:=Tryz.prog) W 54 54 ty 84 2 w.heap.size ((i+1)*2) (n-i) dc _ 84 (0,0) ⟨b,off+i*2,none⟩ (n-i) sc (cT (xs.drop i)) t54 z84 hW1 (by intro o _;simp) (by rw [hd];simp) (fun j u hj=>by
   rw [Addr.add_lit,Nat.add_assoc]
   have hc2:∀ k,W.cell? ⟨b,k,none⟩=w.cell? ⟨b,k,none⟩:=fun k=>by rw [cell_hp hb,cell_hp (hW2.trans hb)]
   rw [hc2]
   rw [← cT_drop,List.getElem?_drop] at hj
   exact hcell _ u hj) (by rw [hl1,hd];omega) (cT_one _)
  simpa using this
 have hE1:hp ((w.alloc (.cells ROW 84)).drew)=hp (w.drew.alloc (.cells ROW 84)):=rfl
 have hF1:hp (((w.alloc (.cells ROW 84)).drew.setRow w.heap.size (lput ROW.toList (i*2) (cT [v])).toArray).drew) w.heap.size=some (.cells (lput ROW.toList (i*2) (cT [v])).toArray 84 (0,0)):=hp_setRow_same (w:=(w.alloc (.cells ROW 84)).drew) hb1
 have hF2:hp (((w.alloc (.cells ROW 84)).drew.setRow w.heap.size (lput ROW.toList (i*2) (cT [v])).toArray).drew) b=hp w b:=(hp_setRow_other (w:=(w.alloc (.cells ROW 84)).drew) (by omega)).trans (hold1 b hbw)
 have hw1:IntKind.i64.wrap ((i:Int)+1)=(i:Int)+1:=by rw [IntKind.wrap_i64];omega
 have hwn:IntKind.i64.wrap ((n:Int)+1)=(n:Int)+1:=by rw [IntKind.wrap_i64];omega
 have hwi:IntKind.i64.wrap ((n:Int)+1-(i:Int))=(n:Int)+1-(i:Int):=by rw [IntKind.wrap_i64];omega
 have hq1:(0:Int)≤(i:Int)+1:=by omega
 have hin:i≤n:=by omega
 have htn:((i:Int)+1).toNat=i+1:=by omega
 have hb3:(i:Int)≤(n:Int):=by omega
 have hGi:¬ (G=i):=by omega
 have hGim:¬ (G=i+1):=by omega
 have hci:¬ (c=i):=by omega
 have hbN:b≠w.heap.size:=by omega
 have hpost:∃ (G':Nat) (ROW':Array Value),Ending.returned (.slice (some ⟨w.heap.size,0,none⟩) (n+1) G)=.returned (.slice (some ⟨w.heap.size,0,none⟩) (n+1) G')∧n+1≤G'∧ROW'.size=G'*2∧ROW'.toList.take (i*2)=cT (xs.take i) ∧
   Frm w ((((w.alloc (.cells ROW 84)).drew.setRow w.heap.size (lput ROW.toList (i*2) (cT [v])).toArray).drew).setRow w.heap.size (lput (lput ROW.toList (i*2) (cT [v])) ((i+1)*2) (cT (xs.drop i))).toArray) (Blk.of fun _=>False) ∧
   w.heap.size<((((w.alloc (.cells ROW 84)).drew.setRow w.heap.size (lput ROW.toList (i*2) (cT [v])).toArray).drew).setRow w.heap.size (lput (lput ROW.toList (i*2) (cT [v])) ((i+1)*2) (cT (xs.drop i))).toArray).heap.size ∧
   hp ((((w.alloc (.cells ROW 84)).drew.setRow w.heap.size (lput ROW.toList (i*2) (cT [v])).toArray).drew).setRow w.heap.size (lput (lput ROW.toList (i*2) (cT [v])) ((i+1)*2) (cT (xs.drop i))).toArray) w.heap.size=some (.cells (lput (lput ROW'.toList (i*2) (cT [v])) ((i+1)*2) (cT (xs.drop i))).toArray 84 (0,0)):=by
  have hs:∀ A B:Array Value,((((w.alloc (.cells ROW 84)).drew.setRow w.heap.size A).drew).setRow w.heap.size B).heap.size=w.heap.size+1:=fun A B=>by
   rw [setRow_size]
   show ((w.alloc (.cells ROW 84)).drew.setRow w.heap.size A).heap.size=_
   rw [setRow_size]
   show (w.heap.push _).size=_
   simp
  refine ⟨G,ROW,rfl,hGn,hRs,hRt,⟨rfl,rfl,rfl,?_,fun q hq _=>?_⟩,?_,hp_setRow_same hF1⟩
  ·rw [hs];omega
  ·exact (hp_setRow_other (by omega)).trans ((hp_setRow_other (w:=(w.alloc (.cells ROW 84)).drew) (by omega)).trans (hold1 q hq))
  ·rw [hs];omega
 clear hA hcc hcell hl1 hd hsz hRs hRt hRL hvl ht hkk hik hmul hinfo k1 k2 k3 hi0 hnb hold1 hb1
 go_enter Tryz.func43,Tryz.ntmps43
 go_wp2_with (first
  | (at_builtin;refine Lib.wpList_append_run _ rfl _ _ _ _ rfl _ _ rfl rfl _ _ (hrz _) ?_)
  | (at_builtin;refine wpList_copy_runI _ rfl _ _ 54 54 rfl _ _ rfl rfl (hcpA _ hE1 _ _) ?_))
 go_region_law_o (refine step_copy_runI rfl _ _ 54 54 rfl (.slice (some ⟨w.heap.size,(i+1)*2,none⟩) (n-i) (G-(i+1))) (.slice (some ⟨b,off+i*2,none⟩) (n-i) (c-i)) (by simp [Act.eval,Act.put]) (by simp [Act.eval,Act.put]) (hcpB _ hF1 hF2 3 (G-(i+1)) (c-i)) ?_)
 go_wp2
 go_ret
 exact hpost
theorem ins_any (w:World) (S:Stab) (hstab:∀ m b,S m b→b<w.heap.size) (hkl:∀ b,S .keep b→S .lend b) (hglb:(∀ b,b<Vp.n→S .lend b)∧Vp.holds w) (xs:List DT2) (v:DT2) (i:Nat) (sx sv:Value) (f1 f2:List Nat)
  (hx:Rep S (hp w) (.sl .own t83o) [sx] xs f1) (hv:Rep S (hp w) (.sl .own t83o) [sv] [v] f2) (hnd:(f1++f2).Nodup) (hf:∀ b∈f1++f2,b<w.heap.size∧∀ m,¬ S m b) (hn:xs.length<4294967296) (hi:i≤xs.length) :
  Calls Tryz.prog 43 #[sx,.int .i64 i,sv] w (InsPost w (f1++f2) (xs.take i++[v]++xs.drop i)):=by
 rcases Nat.lt_or_ge i xs.length with hlt | hge
 ·obtain ⟨ax,c,rfl,hcx,hX⟩:=ownT.1 hx
  obtain ⟨av,cv,rfl,hcv,hV⟩:=ownT.1 hv
  have hcv:1≤cv:=hcv
  rcases hV with ⟨h0,_⟩ | ⟨bv,ov,cc,elv,frv,rfl,hbv,hszv,hvc,hfv,rfl⟩
  ·omega
  rcases hX with ⟨h0,_⟩ | ⟨b,off,cells,el,fr,rfl,hb,hsz,hA,hfr,rfl⟩
  ·omega
  have hcl:=Array.length_toList (xs:=cells)
  have hvb:bv≠b:=by
   rintro rfl
   simp at hnd
  have hcc:(cc.toList.drop ov).take 2=cT [v]:=by simpa using hvc
  have hyl:(xs.take i++[v]++xs.drop i).length=xs.length+1:=by simp;omega
  have hd:(cT (xs.drop i)).length=(xs.length-i)*2:=by rw [cT_len,List.length_drop]
  rcases Nat.lt_or_ge c (xs.length+1) with hr | hr
  ·refine (ins_grow w xs v i b off c cells el fr bv ov cv cc elv frv hlt hn hcx hr hb hsz hA hcv hbv hcc).mono ?_
   rintro e w' ⟨G,ROW,rfl,hG,hRs,hRt,hfrm,hlt',hnew⟩
   refine ⟨_,[w.heap.size],rfl,⟨hfrm.os,hfrm.tape,hfrm.output,hfrm.size,fun q hq _=>hfrm.block q hq (by intro h;exact h)⟩,⟨_,G,by rw [hyl],by rw [hyl];exact hG,.inr ⟨_,0,_,_,_,rfl,hnew,?_,?_,by intro o _;simp,rfl⟩⟩,by simp,?_⟩
   ·simp only [List.size_toArray]
    have h2:(cT [v]).length=2:=rfl
    have hRL:ROW.toList.length=G*2:=(Array.length_toList (xs:=ROW)).trans hRs
    have hL1:(lput ROW.toList (i*2) (cT [v])).length=G*2:=by rw [lput_len (by rw [h2];omega)];exact hRL
    rw [lput_len (by rw [hL1,hd];omega),hL1]
    omega
   ·rw [hyl,List.drop_zero]
    exact grow_cells rfl hi hRt (Nat.le_trans (Nat.mul_le_mul_right 2 hG) (Nat.le_of_eq ((Array.length_toList (xs:=ROW)).trans hRs).symm))
   ·intro q hq
    simp only [List.mem_singleton] at hq
    subst hq
    exact ⟨hlt',.inl (Nat.le_refl _)⟩
  ·refine (ins_shift w xs v i b off c cells el fr bv ov cv cc elv frv hlt hn hr hvb hb hsz hA hfr hcv hbv hszv hcc hfv).mono ?_
   rintro e w' ⟨rfl,rfl⟩
   have hbw:b<w.heap.size:=(Array.getElem?_eq_some_iff.1 hb).1
   have hb1:hp (w.drew.setRow b (lput cells.toList (off+(i+1)*2) (cT (xs.drop i))).toArray) b=some (.cells (lput cells.toList (off+(i+1)*2) (cT (xs.drop i))).toArray el fr):=hp_setRow_same (w:=w.drew) hb
   have hl1:(lput cells.toList (off+(i+1)*2) (cT (xs.drop i))).length=cells.size:=by rw [lput_len (by rw [hd];omega)];exact hcl
   have hsize:∀ A B:Array Value,((w.drew.setRow b A).setRow b B).heap.size=w.heap.size:=fun A B=>by rw [setRow_size,setRow_size];rfl
   have h2:(cT [v]).length=2:=rfl
   refine ⟨_,[b],rfl,⟨rfl,rfl,rfl,by rw [hsize];exact Nat.le_refl _,fun q hq hq2=>?_⟩,⟨_,c,by rw [hyl],by rw [hyl];exact hr,.inr ⟨b,off,_,el,fr,rfl,hp_setRow_same hb1,?_,?_,?_,rfl⟩⟩,by simp,?_⟩
   ·have hqb:q≠b:=by rintro rfl;exact hq2 (show q∈[q]++[bv] by simp)
    exact (hp_setRow_other hqb).trans (hp_setRow_other (w:=w.drew) hqb)
   ·simp only [List.size_toArray]
    rw [lput_len (by rw [hl1,h2];omega),hl1]
    exact hsz
   ·rw [hyl]
    exact ins_cells rfl hi hA (by omega)
   ·simp only [List.size_toArray]
    rw [lput_len (by rw [hl1,h2];omega),hl1]
    exact hfr
   ·intro q hq
    simp only [List.mem_singleton] at hq
    subst hq
    exact ⟨by rw [hsize];exact hbw,.inr (by simp)⟩
 ·obtain rfl:i=xs.length:=by omega
  have e:xs.take xs.length++[v]++xs.drop xs.length=xs++[v]:=by simp
  rw [e]
  exact ins_end w S hstab hkl hglb xs v sx sv f1 f2 hx hv hnd hf hn
theorem c_g_slices_Insert_loop_example_g00765_impl_Tally_loop_example_g00765_impl_Tally_ (N:Nat):Ctr Tryz.prog Vp 43 ⟨[(.sl .own t83o),(.int .i64),(.sl .own t83o)],[(.sl .own t83o)],g_slices_Insert_loop_example_g00765_impl_Tally_loop_example_g00765_impl_Tally_ N⟩:=by
 refine ⟨?_,?_⟩
 ·intro args w
  have hbody:Tryz.f43.body=some (Tryz.f43.body.getD .skip):=by kernel_rfl
  have h2:(Tryz.f43.name == "runtime.NumGoroutine")=false:=by kernel_rfl
  have h1:Tryz.f43.name ≠ "runtime.NumGoroutine":=by simpa using h2
  generalize Tryz.f43.body.getD .skip=c at hbody
  simp [callFunc,Tryz.func43,h1,hbody,mark]
 ·intro w S args vals fp r hstab hkl hglb ha hnd hfp hF
  obtain ⟨xs,i,vs,u⟩:=args
  match vals,ha with
  | [v1,v2,v3],ha =>
   obtain ⟨ws1,f1,g1,rfl,hx,rfl,ws2,f2,g2,rfl,⟨rfl,rfl⟩,rfl,ws3,f3,g3,rfl,hv,rfl,rfl⟩:=ha
   have hF:g_slices_Insert_loop_example_g00765_impl_Tally_loop_example_g00765_impl_Tally_ N (xs,i,vs,())=some r:=hF
   unfold g_slices_Insert_loop_example_g00765_impl_Tally_loop_example_g00765_impl_Tally_ at hF
   simp only at hF
   split at hF
   rotate_left
   ·cases hF
   rename_i hc
   cases hF
   obtain ⟨h0,h1,h2,h3⟩:=hc
   obtain ⟨k,rfl⟩:∃ k:Nat,i=(k:Int):=⟨i.toNat,(Int.toNat_of_nonneg h0).symm⟩
   match vs,h2 with
   | [v],_ =>
    obtain ⟨sx,rfl⟩:∃ s,ws1=[s]:=List.length_eq_one_iff.1 hx.length
    obtain ⟨sv,rfl⟩:∃ s,ws3=[s]:=List.length_eq_one_iff.1 hv.length
    have hnd:(f1++f3).Nodup:=by simpa using hnd
    refine (ins_any w S hstab hkl hglb xs v k sx sv f1 f3 hx hv hnd (fun b hb=>hfp b (by simpa using hb)) h3 (by exact_mod_cast h1)).mono ?_
    rintro e w' ⟨v',g,rfl,hfrm,hO,hg1,hg2⟩
    refine ⟨[v'],fun _=>False,g,rfl,?_,⟨[v'],g,[],rfl,ownT.2 ?_,by simp,rfl⟩,fun b h=>h.elim,hg1,fun b hb=>⟨(hg2 b hb).1,fun h=>h,?_⟩⟩
    ·refine ⟨hfrm.os,hfrm.tape,hfrm.output,hfrm.size,fun q hq hq2=>hfrm.block q hq (fun h=>hq2 ?_)⟩
     have h:q∈f1++f3:=h
     show q∈f1++([]++(f3++[]))
     simpa using h
    ·simpa using hO
    ·rcases (hg2 b hb).2 with h | h
     ·exact .inl h
     ·exact .inr (by simpa using h)
end Go.Rf
