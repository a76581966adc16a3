/-
  Functions of the library do what their plain functions say (contracts), where the library's variables hold what they are laid to hold.
-/
import Derived.Test.YtcgneindmpkhgaaGreatDoorQNat
import Derived.Test.YtcgneindmpkhgaaGreatDoorQRfD
import Derived.Test.YtcgneindmpkhgaaGreatDoorShelf
import Derived.WalkKit
import Derived.ProofKit
import Derived.KernelRfl
import Derived.Lib.AppendIntMem
set_option linter.unusedSimpArgs false
set_option linter.unusedVariables false
set_option autoImplicit false
namespace Go.Rf
open Go.Proofs Go.RowKit
theorem args1 {S:Stab} {H:Heap} {τ:Ty} {vals:List Value} {x:LD [τ]} {g:List Nat} (h:ArgsRel S H [τ] vals x g):∃ ws,vals = [valOf τ ws] ∧ ∃ f,Rep S H τ ws x.1 f:=by
 match vals,h with
 | [v],⟨ws,f1,f2,e,hr,_,_⟩=>exact ⟨ws,by rw [e],f1,hr⟩
theorem args2 {S:Stab} {H:Heap} {τ σ:Ty} {vals:List Value} {x:LD [τ,σ]} {g:List Nat} (h:ArgsRel S H [τ,σ] vals x g):∃ ws us,vals = [valOf τ ws,valOf σ us] ∧ (∃ f,Rep S H τ ws x.1 f) ∧ ∃ f,Rep S H σ us x.2.1 f:=by
 match vals,h with
 | [v,u],⟨ws,f1,f2,e,hr,_,⟨us,f3,f4,e2,hr2,_,_⟩⟩=>exact ⟨ws,us,by rw [e,e2],⟨f1,hr⟩,f3,hr2⟩
def gW (w:World):Prop :=
 (∃ m,w.cell? ⟨0,0,none⟩ = some (.int .i64 m)) ∧ Lib.TabIs Tryz.prog w "internal/strconv.uint64pow10" IntKind.u64 Lib.pow10Tab ∧
 (∃ t p,w.cell? ⟨1,0,none⟩ = some (.iface t p)) ∧ (∃ t p,w.cell? ⟨2,0,none⟩ = some (.iface t p))
theorem cell_of_hp {w w':World} {b:Nat} (h:hp w' b = hp w b):w'.cell? ⟨b,0,none⟩ = w.cell? ⟨b,0,none⟩:=by
 simp only [hp] at h
 simp [World.cell?,h]
theorem gW_loc (w w':World) (h:∀ b,b < 4→hp w' b = hp w b) (hg:gW w):gW w':=by
 obtain ⟨h0,h1,h2,h3⟩:=hg
 refine ⟨?_,?_,?_,?_⟩
 ·rw [cell_of_hp (h 0 (by decide))];exact h0
 ·have hn:Tryz.prog.globalNamed "internal/strconv.uint64pow10" = some 3:=by kernel_rfl
  have h33:=h 3 (by decide)
  simp only [hp] at h33
  simp only [Lib.TabIs,World.var?,hn,Option.bind_some,h33] at h1 ⊢
  exact h1
 ·rw [cell_of_hp (h 1 (by decide))];exact h2
 ·rw [cell_of_hp (h 2 (by decide))];exact h3
def Vp:Glb:=⟨4,gW,gW_loc⟩
set_option maxRecDepth 100000
theorem c_g_strings_IndexByte (N:Nat):Ctr Tryz.prog Vp 222 ⟨[.str,(.int .u8)],[(.int .i64)],g_strings_IndexByte N⟩:=by
 refine ctr_scal (c:=(Tryz.f222.body).getD .skip) Tryz.func222 (by kernel_rfl) (by kernel_rfl) rfl rfl ?_
 intro w args vals r _ ha hF
 obtain ⟨ws,us,rfl,⟨_,rfl,_⟩,_,rfl,_⟩:=args2 ha
 simp only [g_strings_IndexByte,Option.some.injEq] at hF
 subst hF
 refine (Tryz.strings_IndexByte _ _ w).mono ?_
 rintro e w' ⟨rfl,rfl⟩
 exact ⟨[_],rfl,Below.refl _ _,[_],[],[],rfl,⟨rfl,rfl⟩,rfl,rfl⟩
theorem c_g_strings_Contains (N:Nat):Ctr Tryz.prog Vp 220 ⟨[.str,.str],[.bool],g_strings_Contains N⟩:=by
 refine ctr_scal (c:=(Tryz.f220.body).getD .skip) Tryz.func220 (by kernel_rfl) (by kernel_rfl) rfl rfl ?_
 intro w args vals r hg ha hF
 obtain ⟨ws,us,rfl,⟨_,rfl,_⟩,_,rfl,_⟩:=args2 ha
 simp only [g_strings_Contains] at hF
 split at hF
 ·rename_i hlt
  cases hF
  obtain ⟨⟨m,hm⟩,_⟩:=hg
  refine (Tryz.strings_Contains _ _ m w hlt hm).mono ?_
  rintro e w' ⟨rfl,rfl⟩
  exact ⟨[_],rfl,Below.refl _ _,[_],[],[],rfl,⟨rfl,rfl⟩,rfl,rfl⟩
 ·cases hF
theorem c_g_strconv_Itoa (N:Nat):Ctr Tryz.prog Vp 234 ⟨[(.int .i64)],[.str],g_strconv_Itoa N⟩:=by
 refine ctr_scal (c:=(Tryz.f234.body).getD .skip) Tryz.func234 (by kernel_rfl) (by kernel_rfl) rfl rfl ?_
 intro w args vals r hg ha hF
 obtain ⟨ws,rfl,_,rfl,_⟩:=args1 ha
 simp only [g_strconv_Itoa] at hF
 split at hF
 ·rename_i hlt
  cases hF
  obtain ⟨_,ht,_⟩:=hg
  refine (Tryz.strconv_Itoa _ hlt.1 hlt.2 w ht).mono ?_
  rintro e w' ⟨rfl,k,os,rfl⟩
  exact ⟨[_],rfl,Lib.below_grow _ w (Nat.le_refl _) k os,[_],[],[],rfl,⟨rfl,rfl⟩,rfl,rfl⟩
 ·cases hF
end Go.Rf
namespace Go.Rf
open Go.Proofs
set_option maxRecDepth 100000
abbrev t83o:Ty:=(.pair (.int .i64) (.pair (.int .i64) .unit))
abbrev t228o:Ty:=(.pair .str (.pair (.int .i64) (.pair .str .unit)))
abbrev t103o:Ty:=(.pair (.int .i64) (.pair (.int .i64) (.pair .str .unit)))
abbrev t33o:Ty:=(.pair (.int .i64) t83o)
abbrev t216o:Ty:=(.pair .str (.pair t103o .unit))
abbrev t180o:Ty:=(.pair (.int .i64) (.pair (.int .i64) (.pair .str (.pair (.sl .own .str) (.pair (.sl .own (.int .i64)) .unit)))))
abbrev t180k:Ty:=(.pair (.int .i64) (.pair (.int .i64) (.pair .str (.pair (.sl .keep .str) (.pair (.sl .keep (.int .i64)) .unit)))))
abbrev t180l:Ty:=(.pair (.int .i64) (.pair (.int .i64) (.pair .str (.pair (.sl .lend .str) (.pair (.sl .lend (.int .i64)) .unit)))))
abbrev t165o:Ty:=(.pair (.sl .own t180o) (.pair (.int .i64) .unit))
abbrev t165k:Ty:=(.pair (.sl .keep t180k) (.pair (.int .i64) .unit))
abbrev t165l:Ty:=(.pair (.sl .lend t180l) (.pair (.int .i64) .unit))
abbrev t64o:Ty:=(.pair (.int .i64) (.pair .str (.pair (.int .i64) (.pair (.int .i64) (.pair (.sl .own .str) (.pair (.sl .own t103o) .unit))))))
abbrev t64k:Ty:=(.pair (.int .i64) (.pair .str (.pair (.int .i64) (.pair (.int .i64) (.pair (.sl .keep .str) (.pair (.sl .keep t103o) .unit))))))
abbrev t64l:Ty:=(.pair (.int .i64) (.pair .str (.pair (.int .i64) (.pair (.int .i64) (.pair (.sl .lend .str) (.pair (.sl .lend t103o) .unit))))))
abbrev t188o:Ty:=(.pair .str (.pair t165o .unit))
abbrev t188k:Ty:=(.pair .str (.pair t165k .unit))
abbrev t188l:Ty:=(.pair .str (.pair t165l .unit))
abbrev t167o:Ty:=(.pair (.int .i64) (.pair t165o .unit))
abbrev t167k:Ty:=(.pair (.int .i64) (.pair t165k .unit))
abbrev t167l:Ty:=(.pair (.int .i64) (.pair t165l .unit))
abbrev t194o:Ty:=(.pair (.int .i64) (.pair (.int .i64) (.pair (.sl .own t103o) (.pair (.sl .own t216o) .unit))))
abbrev t194k:Ty:=(.pair (.int .i64) (.pair (.int .i64) (.pair (.sl .keep t103o) (.pair (.sl .keep t216o) .unit))))
abbrev t194l:Ty:=(.pair (.int .i64) (.pair (.int .i64) (.pair (.sl .lend t103o) (.pair (.sl .lend t216o) .unit))))
abbrev t114o:Ty:=(.pair .str (.pair (.int .i64) (.pair (.sl .own .str) (.pair (.sl .own t103o) (.pair (.sl .own t228o) (.pair (.sl .own (.pair .str (.pair (.int .i64) .unit))) .unit))))))
abbrev t114k:Ty:=(.pair .str (.pair (.int .i64) (.pair (.sl .keep .str) (.pair (.sl .keep t103o) (.pair (.sl .keep t228o) (.pair (.sl .keep (.pair .str (.pair (.int .i64) .unit))) .unit))))))
abbrev t114l:Ty:=(.pair .str (.pair (.int .i64) (.pair (.sl .lend .str) (.pair (.sl .lend t103o) (.pair (.sl .lend t228o) (.pair (.sl .lend (.pair .str (.pair (.int .i64) .unit))) .unit))))))
abbrev t106o:Ty:=(.pair (.int .i64) (.pair (.int .i64) (.pair (.int .i64) (.pair (.sl .own t216o) (.pair t103o (.pair (.sl .own t194o) (.pair (.int .i64) .unit)))))))
abbrev t106k:Ty:=(.pair (.int .i64) (.pair (.int .i64) (.pair (.int .i64) (.pair (.sl .keep t216o) (.pair t103o (.pair (.sl .keep t194k) (.pair (.int .i64) .unit)))))))
abbrev t106l:Ty:=(.pair (.int .i64) (.pair (.int .i64) (.pair (.int .i64) (.pair (.sl .lend t216o) (.pair t103o (.pair (.sl .lend t194l) (.pair (.int .i64) .unit)))))))
abbrev t75o:Ty:=(.pair .str (.pair (.sl .own .str) (.pair (.sl .own .str) (.pair (.sl .own (.pair .str (.pair (.int .i64) .unit))) (.pair (.sl .own t188o) (.pair (.sl .own t188o) .unit))))))
abbrev t108o:Ty:=(.pair (.int .i64) (.pair t106o .unit))
abbrev t108k:Ty:=(.pair (.int .i64) (.pair t106k .unit))
abbrev t108l:Ty:=(.pair (.int .i64) (.pair t106l .unit))
abbrev t75k:Ty:=(.pair .str (.pair (.sl .keep .str) (.pair (.sl .keep .str) (.pair (.sl .keep (.pair .str (.pair (.int .i64) .unit))) (.pair (.sl .keep t188k) (.pair (.sl .keep t188k) .unit))))))
abbrev t75l:Ty:=(.pair .str (.pair (.sl .lend .str) (.pair (.sl .lend .str) (.pair (.sl .lend (.pair .str (.pair (.int .i64) .unit))) (.pair (.sl .lend t188l) (.pair (.sl .lend t188l) .unit))))))
abbrev t77o:Ty:=(.pair t75o t83o)
abbrev t77k:Ty:=(.pair t75k t83o)
abbrev t77l:Ty:=(.pair t75l t83o)
abbrev t26o:Ty:=(.pair (.sl .own t64o) (.pair (.sl .own t114o) (.pair (.sl .own t167o) (.pair (.sl .own .str) .unit))))
abbrev t26k:Ty:=(.pair (.sl .keep t64k) (.pair (.sl .keep t114k) (.pair (.sl .keep t167k) (.pair (.sl .keep .str) .unit))))
abbrev t26l:Ty:=(.pair (.sl .lend t64l) (.pair (.sl .lend t114l) (.pair (.sl .lend t167l) (.pair (.sl .lend .str) .unit))))
abbrev t30o:Ty:=(.pair t26o (.pair (.sl .own t77o) (.pair (.sl .own t108o) (.pair (.int .i64) .unit))))
abbrev t30k:Ty:=(.pair t26k (.pair (.sl .keep t77k) (.pair (.sl .keep t108k) (.pair (.int .i64) .unit))))
abbrev t30l:Ty:=(.pair t26l (.pair (.sl .lend t77l) (.pair (.sl .lend t108l) (.pair (.int .i64) .unit))))
noncomputable def tabP:Nat→Option Ty:=look [(3,(.int .i64)),(5,(.int .u8)),(9,.str),(22,(.sl .own t64o)),(23,(.sl .own t114o)),(24,(.sl .own t167o)),(25,(.sl .own .str)),(27,t26o),(28,(.sl .own t77o)),(29,(.sl .own t108o)),(31,t30o),(34,t33o),(36,(.sl .own t64o)),(37,(.sl .own t114o)),(38,(.sl .own t167o)),(40,t26o),(41,(.sl .own t77o)),(42,(.sl .own t108o)),(44,t30o),(63,(.sl .own t103o)),(65,t64o),(73,(.sl .own (.pair .str (.pair (.int .i64) .unit)))),(74,(.sl .own t188o)),(76,t75o),(78,t77o),(95,(.sl .own (.pair .str (.pair (.int .i64) .unit)))),(96,(.sl .own t188o)),(98,t75o),(100,t77o),(102,(.sl .own t216o)),(104,t103o),(105,(.sl .own t194o)),(107,t106o),(109,t108o),(113,(.sl .own t228o)),(115,t114o),(117,t103o),(120,(.sl .own t75o)),(122,(.sl .own t216o)),(123,(.sl .own t194o)),(125,t106o),(127,t108o),(151,(.sl .own (.int .u8))),(156,(.sl .own t103o)),(158,t64o),(160,(.sl .own t228o)),(162,t114o),(164,(.sl .own t180o)),(166,t165o),(168,t167o),(173,(.sl .own t180o)),(175,t165o),(177,t167o),(179,(.sl .own (.int .i64))),(181,t180o),(187,(.pair .str (.pair (.int .i64) .unit))),(189,t188o),(195,t194o),(217,t216o),(229,t228o),(263,t228o),(265,(.pair .str (.pair (.int .i64) .unit))),(269,t188o),(272,t216o),(275,t194o),(294,t180o)]
theorem tabP_ok:TabOK Tryz.prog tabP:=by
 refine look_all (Q:=fun t s=>RowOK Tryz.prog tabP t s) _ ?_
 intro p hp
 simp only [List.mem_cons,List.not_mem_nil,or_false] at hp
 rcases hp with rfl | rfl | rfl | rfl | rfl | rfl | rfl | rfl | rfl | rfl | rfl | rfl | rfl | rfl | rfl | rfl | rfl | rfl | rfl | rfl | rfl | rfl | rfl | rfl | rfl | rfl | rfl | rfl | rfl | rfl | rfl | rfl | rfl | rfl | rfl | rfl | rfl | rfl | rfl | rfl | rfl | rfl | rfl | rfl | rfl | rfl | rfl | rfl | rfl | rfl | rfl | rfl | rfl | rfl | rfl | rfl | rfl | rfl | rfl | rfl | rfl | rfl | rfl | rfl | rfl | rfl
 ·exact rowOK_of (by kernel_rfl) (by kernel_rfl) (by kernel_rfl)
 ·exact rowOK_of (by kernel_rfl) (by kernel_rfl) (by kernel_rfl)
 ·exact rowOK_of (by kernel_rfl) (by kernel_rfl) (by kernel_rfl)
 ·exact rowOK_of (by kernel_rfl) (by kernel_rfl) (by kernel_rfl)
 ·exact rowOK_of (by kernel_rfl) (by kernel_rfl) (by kernel_rfl)
 ·exact rowOK_of (by kernel_rfl) (by kernel_rfl) (by kernel_rfl)
 ·exact rowOK_of (by kernel_rfl) (by kernel_rfl) (by kernel_rfl)
 ·exact rowOK_of (by kernel_rfl) (by kernel_rfl) (by kernel_rfl)
 ·exact rowOK_of (by kernel_rfl) (by kernel_rfl) (by kernel_rfl)
 ·exact rowOK_of (by kernel_rfl) (by kernel_rfl) (by kernel_rfl)
 ·exact rowOK_of (by kernel_rfl) (by kernel_rfl) (by kernel_rfl)
 ·exact rowOK_of (by kernel_rfl) (by kernel_rfl) (by kernel_rfl)
 ·exact rowOK_of (by kernel_rfl) (by kernel_rfl) (by kernel_rfl)
 ·exact rowOK_of (by kernel_rfl) (by kernel_rfl) (by kernel_rfl)
 ·exact rowOK_of (by kernel_rfl) (by kernel_rfl) (by kernel_rfl)
 ·exact rowOK_of (by kernel_rfl) (by kernel_rfl) (by kernel_rfl)
 ·exact rowOK_of (by kernel_rfl) (by kernel_rfl) (by kernel_rfl)
 ·exact rowOK_of (by kernel_rfl) (by kernel_rfl) (by kernel_rfl)
 ·exact rowOK_of (by kernel_rfl) (by kernel_rfl) (by kernel_rfl)
 ·exact rowOK_of (by kernel_rfl) (by kernel_rfl) (by kernel_rfl)
 ·exact rowOK_of (by kernel_rfl) (by kernel_rfl) (by kernel_rfl)
 ·exact rowOK_of (by kernel_rfl) (by kernel_rfl) (by kernel_rfl)
 ·exact rowOK_of (by kernel_rfl) (by kernel_rfl) (by kernel_rfl)
 ·exact rowOK_of (by kernel_rfl) (by kernel_rfl) (by kernel_rfl)
 ·exact rowOK_of (by kernel_rfl) (by kernel_rfl) (by kernel_rfl)
 ·exact rowOK_of (by kernel_rfl) (by kernel_rfl) (by kernel_rfl)
 ·exact rowOK_of (by kernel_rfl) (by kernel_rfl) (by kernel_rfl)
 ·exact rowOK_of (by kernel_rfl) (by kernel_rfl) (by kernel_rfl)
 ·exact rowOK_of (by kernel_rfl) (by kernel_rfl) (by kernel_rfl)
 ·exact rowOK_of (by kernel_rfl) (by kernel_rfl) (by kernel_rfl)
 ·exact rowOK_of (by kernel_rfl) (by kernel_rfl) (by kernel_rfl)
 ·exact rowOK_of (by kernel_rfl) (by kernel_rfl) (by kernel_rfl)
 ·exact rowOK_of (by kernel_rfl) (by kernel_rfl) (by kernel_rfl)
 ·exact rowOK_of (by kernel_rfl) (by kernel_rfl) (by kernel_rfl)
 ·exact rowOK_of (by kernel_rfl) (by kernel_rfl) (by kernel_rfl)
 ·exact rowOK_of (by kernel_rfl) (by kernel_rfl) (by kernel_rfl)
 ·exact rowOK_of (by kernel_rfl) (by kernel_rfl) (by kernel_rfl)
 ·exact rowOK_of (by kernel_rfl) (by kernel_rfl) (by kernel_rfl)
 ·exact rowOK_of (by kernel_rfl) (by kernel_rfl) (by kernel_rfl)
 ·exact rowOK_of (by kernel_rfl) (by kernel_rfl) (by kernel_rfl)
 ·exact rowOK_of (by kernel_rfl) (by kernel_rfl) (by kernel_rfl)
 ·exact rowOK_of (by kernel_rfl) (by kernel_rfl) (by kernel_rfl)
 ·exact rowOK_of (by kernel_rfl) (by kernel_rfl) (by kernel_rfl)
 ·exact rowOK_of (by kernel_rfl) (by kernel_rfl) (by kernel_rfl)
 ·exact rowOK_of (by kernel_rfl) (by kernel_rfl) (by kernel_rfl)
 ·exact rowOK_of (by kernel_rfl) (by kernel_rfl) (by kernel_rfl)
 ·exact rowOK_of (by kernel_rfl) (by kernel_rfl) (by kernel_rfl)
 ·exact rowOK_of (by kernel_rfl) (by kernel_rfl) (by kernel_rfl)
 ·exact rowOK_of (by kernel_rfl) (by kernel_rfl) (by kernel_rfl)
 ·exact rowOK_of (by kernel_rfl) (by kernel_rfl) (by kernel_rfl)
 ·exact rowOK_of (by kernel_rfl) (by kernel_rfl) (by kernel_rfl)
 ·exact rowOK_of (by kernel_rfl) (by kernel_rfl) (by kernel_rfl)
 ·exact rowOK_of (by kernel_rfl) (by kernel_rfl) (by kernel_rfl)
 ·exact rowOK_of (by kernel_rfl) (by kernel_rfl) (by kernel_rfl)
 ·exact rowOK_of (by kernel_rfl) (by kernel_rfl) (by kernel_rfl)
 ·exact rowOK_of (by kernel_rfl) (by kernel_rfl) (by kernel_rfl)
 ·exact rowOK_of (by kernel_rfl) (by kernel_rfl) (by kernel_rfl)
 ·exact rowOK_of (by kernel_rfl) (by kernel_rfl) (by kernel_rfl)
 ·exact rowOK_of (by kernel_rfl) (by kernel_rfl) (by kernel_rfl)
 ·exact rowOK_of (by kernel_rfl) (by kernel_rfl) (by kernel_rfl)
 ·exact rowOK_of (by kernel_rfl) (by kernel_rfl) (by kernel_rfl)
 ·exact rowOK_of (by kernel_rfl) (by kernel_rfl) (by kernel_rfl)
 ·exact rowOK_of (by kernel_rfl) (by kernel_rfl) (by kernel_rfl)
 ·exact rowOK_of (by kernel_rfl) (by kernel_rfl) (by kernel_rfl)
 ·exact rowOK_of (by kernel_rfl) (by kernel_rfl) (by kernel_rfl)
 ·exact rowOK_of (by kernel_rfl) (by kernel_rfl) (by kernel_rfl)
noncomputable def E_i_inRange (N:Nat):Cz:={ tab:=tabP,n:=15,V:=Vp,ann:=look [],fn:=look [],fx:=look [] }
def A_i_inRange:An:={ join:=look [],loop:=look [],ret:=[⟨6,.val,.bool⟩] }
theorem c_i_inRange (N:Nat):Ctr Tryz.prog Vp 64 ⟨[(.int .i64),(.int .i64),(.int .i64)],[.bool],i_inRange N⟩:=by
 have hE:EnvOK Tryz.prog (E_i_inRange N):=⟨tabP_ok,(fun _ _ h=>by cases h),(fun _ _ h=>by cases h),(fun _ _ h=>by cases h)⟩
 have h:=fn_sound hE (by kernel_rfl) (N:=N) (A:=A_i_inRange) (pl:=[⟨0,.val,(.int .i64)⟩,⟨1,.val,(.int .i64)⟩,⟨2,.val,(.int .i64)⟩]) (fid:=64) (fn:=Tryz.f64) (c:=((Tryz.f64.body).getD .skip)) ⟨Tryz.func64,by kernel_rfl,by kernel_rfl,by kernel_rfl,Nat.le_of_ble_eq_true (by kernel_rfl),by kernel_rfl,by kernel_rfl,Nat.le_of_ble_eq_true (by kernel_rfl),by kernel_rfl⟩
 have e:i_inRange N = evalF (E_i_inRange N) A_i_inRange N [⟨0,.val,(.int .i64)⟩,⟨1,.val,(.int .i64)⟩,⟨2,.val,(.int .i64)⟩] ((Tryz.f64.body).getD .skip):=funext fun x=>by kernel_rfl
 rw [e]
 exact h
noncomputable def E_i_Dec (N:Nat):Cz:={ tab:=tabP,n:=5,V:=Vp,ann:=look [],fn:=look [(234,(⟨[(.int .i64)],[.str],g_strconv_Itoa N⟩:Fn))],fx:=look [] }
def A_i_Dec:An:={ join:=look [],loop:=look [],ret:=[⟨2,.val,.str⟩] }
theorem c_i_Dec (N:Nat):Ctr Tryz.prog Vp 225 ⟨[(.int .i64)],[.str],i_Dec N⟩:=by
 have hE:EnvOK Tryz.prog (E_i_Dec N):=⟨tabP_ok,look_all (Q:=fun t s=>Ctr Tryz.prog Vp t s) _ (by
  intro p hp
  simp only [List.mem_cons,List.not_mem_nil,or_false] at hp
  rcases hp with rfl
  ·exact c_g_strconv_Itoa N),(fun _ _ h=>by cases h),(fun _ _ h=>by cases h)⟩
 have h:=fn_sound hE (by kernel_rfl) (N:=N) (A:=A_i_Dec) (pl:=[⟨0,.val,(.int .i64)⟩]) (fid:=225) (fn:=Tryz.f225) (c:=((Tryz.f225.body).getD .skip)) ⟨Tryz.func225,by kernel_rfl,by kernel_rfl,by kernel_rfl,Nat.le_of_ble_eq_true (by kernel_rfl),by kernel_rfl,by kernel_rfl,Nat.le_of_ble_eq_true (by kernel_rfl),by kernel_rfl⟩
 have e:i_Dec N = evalF (E_i_Dec N) A_i_Dec N [⟨0,.val,(.int .i64)⟩] ((Tryz.f225.body).getD .skip):=funext fun x=>by kernel_rfl
 rw [e]
 exact h
end Go.Rf
namespace Go.Rf
open Go.Proofs Go.RowKit
set_option maxRecDepth 100000
theorem gW_size {w:World} (h:gW w):4 ≤ w.heap.size:=by
 obtain ⟨_,h1,_⟩:=h
 have hn:Tryz.prog.globalNamed "internal/strconv.uint64pow10" = some 3:=by kernel_rfl
 simp only [Lib.TabIs,World.var?,hn,Option.bind_some] at h1
 rcases Nat.lt_or_ge 3 w.heap.size with h | h
 ·exact h
 ·rw [Array.getElem?_eq_none h] at h1;cases h1
theorem ctr_use {fid:Nat} {ps rs:List Ty} {F:LD ps→Option (LD rs)} (hr1:rs.all Ty.scal = true) (h:Ctr Tryz.prog Vp fid ⟨ps,rs,F⟩) {w:World} (hg:gW w) {args:LD ps} {vals:List Value} {r:LD rs}
  (ha:ArgsRel (fun _ b=>b < w.heap.size) (hp w) ps vals args []) (hF:F args = some r) :
  Calls Tryz.prog fid vals.toArray w fun e w'=>∃ rv,e = .returned (retVal rv) ∧ Below w.heap.size w w' ∧ ArgsRel (fun _ _=>False) (fun _=>none) rs rv r []:=by
 refine (h.calls w (fun _ b=>b < w.heap.size) args vals [] r (fun _ _ h=>h) (fun _ h=>h) ⟨fun b hb=>Nat.lt_of_lt_of_le hb (gW_size hg),hg⟩ ha (by simp) (by simp) hF).mono ?_
 rintro e w' ⟨rv,T,g,rfl,hf,hr,_⟩
 exact ⟨rv,rfl,⟨hf.os,hf.tape,hf.output,hf.size,fun b hb=>hf.block b hb (by intro h;cases h)⟩,(hr.scal hr1).2⟩
theorem inRange_any (a b c:Int) (w:World) (hg:gW w):Calls Tryz.prog 64 #[.int .i64 a,.int .i64 b,.int .i64 c] w fun e w'=>e = .returned (.bool (decide (b ≤ a ∧ a ≤ c))) ∧ Below w.heap.size w w':=by
 have hF:i_inRange 0 (a,b,c,()) = some (decide (b ≤ a ∧ a ≤ c),()):=by
  unfold i_inRange
  by_cases h1:b ≤ a <;> by_cases h2:a ≤ c <;> simp [h1,h2]
 refine (ctr_use rfl (c_i_inRange 0) hg (args:=(a,b,c,())) (vals:=[.int .i64 a,.int .i64 b,.int .i64 c]) ⟨[_],[],[],rfl,⟨rfl,rfl⟩,rfl,[_],[],[],rfl,⟨rfl,rfl⟩,rfl,[_],[],[],rfl,⟨rfl,rfl⟩,rfl,rfl⟩ hF).mono ?_
 rintro e w' ⟨rv,rfl,hb,hr⟩
 obtain ⟨ws,rfl,_,rfl,_⟩:=args1 hr
 exact ⟨rfl,hb⟩
theorem dec_any (n:Int) (h1:-9223372036854775808 ≤ n) (h2:n ≤ 9223372036854775807) (w:World) (hg:gW w):Calls Tryz.prog 225 #[.int .i64 n] w fun e w'=>e = .returned (.string ⟨(Lib.itoa n).toArray⟩) ∧ Below w.heap.size w w':=by
 have hF:i_Dec 0 (n,()) = some (⟨(Lib.itoa n).toArray⟩,()):=by
  unfold i_Dec g_strconv_Itoa
  simp [h1,h2]
 refine (ctr_use rfl (c_i_Dec 0) hg (args:=(n,())) (vals:=[.int .i64 n]) ⟨[_],[],[],rfl,⟨rfl,rfl⟩,rfl,rfl⟩ hF).mono ?_
 rintro e w' ⟨rv,rfl,hb,hr⟩
 obtain ⟨ws,rfl,_,rfl,_⟩:=args1 hr
 exact ⟨rfl,hb⟩
theorem gW_below {w w':World} (hg:gW w) (h:Below w.heap.size w w'):gW w':=gW_loc w w' (fun b hb=>h.block b (Nat.lt_of_lt_of_le hb (gW_size hg))) hg
theorem c_i_ReadDec (N:Nat):Ctr Tryz.prog Vp 209 ⟨[.str],[(.int .i64),.bool],i_ReadDec N⟩:=by
 refine ctr_scal (c:=(Tryz.f209.body).getD .skip) Tryz.func209 (by kernel_rfl) (by kernel_rfl) rfl rfl ?_
 intro w args vals r hg ha hF
 obtain ⟨ws,rfl,_,rfl,_⟩:=args1 ha
 obtain ⟨s,u⟩:=args
 have hg:gW w:=hg
 show Calls Tryz.prog 209 #[.string s] w _
 unfold i_ReadDec at hF
 simp only at hF
 generalize hd:Lib.trimPrefix s.data.toList [45] = d at hF
 have hd':Lib.trimPrefix s.data.toList (⟨#[45]⟩:ByteArray).data.toList = d:=hd
 have hsz:s.size = s.data.toList.length:=by rw [Array.length_toList];rfl
 by_cases hlen:1 ≤ d.length ∧ d.length ≤ 9
 ·rw [if_pos hlen] at hF
  have hs11:s.size ≤ 10:=by
   rw [hsz]
   have:s.data.toList.length ≤ d.length + 1:=by
    rw [← hd]
    unfold Lib.trimPrefix
    split <;> simp <;> omega
   omega
  have hin:∀ w:World,gW w→Calls Tryz.prog 64 #[.int .i64 d.length,.int .i64 1,.int .i64 9] w fun e w'=>e = .returned (.bool true) ∧ Below w.heap.size w w':=fun w hg =>
   (inRange_any _ _ _ w hg).mono (by rintro e w1 ⟨rfl,h⟩;refine ⟨?_,h⟩;congr 2;simp;omega)
  cases hat:Lib.atoiAll s.data.toList
  ·rename_i v
   have hv:-9223372036854775808 ≤ v ∧ v ≤ 9223372036854775807:=by
    unfold Lib.atoiAll at hat
    split at hat
    ·cases hat
    ·simp only at hat
     split at hat
     ·cases hat
     ·cases hat
     ·split at hat
      ·cases hat
      ·split at hat
       ·cases hat
       ·cases hat
        split <;> omega
   rw [hat] at hF
   simp only at hF
   go_enter Tryz.func209,Tryz.ntmps209
   go_wp2_with (go_at_call 223;refine (Tryz.strings_TrimPrefix _ _ _).mono ?_;rintro e w' ⟨rfl,rfl⟩)
   refine (hin _ hg).mono ?_
   rintro e w1 ⟨rfl,hb1⟩
   have hg1:=gW_below hg hb1
   go_wp2_with (go_at_call 224;refine (Tryz.strconv_Atoi_ok s (by omega) v hat w1).mono ?_)
   rintro e w2 ⟨rfl,hw2⟩
   have hb2:Below w1.heap.size w1 w2:=by
    rcases hw2 with rfl | ⟨t,rfl⟩
    ·exact Below.refl _ _
    ·exact ⟨rfl,rfl,rfl,by rw [Lib.bytesWorld_size];omega,fun j hj=>Lib.bytesWorld_at_old w1 5 t j hj⟩
   have hg2:=gW_below hg1 hb2
   go_wp2_with (go_at_call 225;refine (dec_any v hv.1 hv.2 w2 hg2).mono ?_)
   rintro e w3 ⟨rfl,hb3⟩
   go_wp2
   all_goals
    rename_i hne
    go_ret2
    rw [ByteArray.toList_eq] at hne
   ·have hne':¬ Lib.itoa v = s.data.toList:=by simpa using hne
    rw [if_neg hne'] at hF
    cases hF
    exact ⟨[.int .i64 0,.bool false],rfl,(hb1.trans (hb2.mono hb1.size)).trans (hb3.mono (Nat.le_trans hb1.size hb2.size)),[_],[],[],rfl,⟨rfl,rfl⟩,rfl,[_],[],[],rfl,⟨rfl,rfl⟩,rfl,rfl⟩
   ·have hne':Lib.itoa v = s.data.toList:=by simpa using hne
    rw [if_pos hne'] at hF
    cases hF
    exact ⟨[.int .i64 v,.bool true],rfl,(hb1.trans (hb2.mono hb1.size)).trans (hb3.mono (Nat.le_trans hb1.size hb2.size)),[_],[],[],rfl,⟨rfl,rfl⟩,rfl,[_],[],[],rfl,⟨rfl,rfl⟩,rfl,rfl⟩
  ·rw [hat] at hF
   simp only at hF
   cases hF
   go_enter Tryz.func209,Tryz.ntmps209
   go_wp2_with (go_at_call 223;refine (Tryz.strings_TrimPrefix _ _ _).mono ?_;rintro e w' ⟨rfl,rfl⟩)
   refine (hin _ hg).mono ?_
   rintro e w1 ⟨rfl,hb1⟩
   have hg1:=gW_below hg hb1
   obtain ⟨_,_,⟨te,pe,hc⟩,_⟩:=hg1
   go_wp2_with (go_at_call 224;refine (Any.strconv_Atoi_syntax Tryz.laysC172 s (by omega) hat _ w1 hc (.inr ⟨te,pe,rfl⟩)).mono ?_)
   rintro e w2 ⟨N',rfl,_,_,hb2⟩
   go_wp2
   go_ret2
   exact ⟨[.int .i64 0,.bool false],rfl,hb1.trans (hb2.mono hb1.size),[_],[],[],rfl,⟨rfl,rfl⟩,rfl,[_],[],[],rfl,⟨rfl,rfl⟩,rfl,rfl⟩
  ·rw [hat] at hF
   simp only at hF
   cases hF
   go_enter Tryz.func209,Tryz.ntmps209
   go_wp2_with (go_at_call 223;refine (Tryz.strings_TrimPrefix _ _ _).mono ?_;rintro e w' ⟨rfl,rfl⟩)
   refine (hin _ hg).mono ?_
   rintro e w1 ⟨rfl,hb1⟩
   have hg1:=gW_below hg hb1
   obtain ⟨_,_,_,⟨te,pe,hc⟩⟩:=hg1
   go_wp2_with (go_at_call 224;refine (Tryz.strconv_Atoi_range s (by omega) hat _ w1 hc (.inr ⟨te,pe,rfl⟩)).mono ?_)
   rintro e w2 ⟨N',rfl,_,_,hb2⟩
   go_wp2
   go_ret2
   exact ⟨[.int .i64 0,.bool false],rfl,hb1.trans (hb2.mono hb1.size),[_],[],[],rfl,⟨rfl,rfl⟩,rfl,[_],[],[],rfl,⟨rfl,rfl⟩,rfl,rfl⟩
 ·rw [if_neg hlen] at hF
  cases hF
  have hin:∀ w:World,gW w→Calls Tryz.prog 64 #[.int .i64 d.length,.int .i64 1,.int .i64 9] w fun e w'=>e = .returned (.bool false) ∧ Below w.heap.size w w':=fun w hg =>
   (inRange_any _ _ _ w hg).mono (by rintro e w1 ⟨rfl,h⟩;refine ⟨?_,h⟩;congr 2;simp;omega)
  go_enter Tryz.func209,Tryz.ntmps209
  go_wp2_with (go_at_call 223;refine (Tryz.strings_TrimPrefix _ _ _).mono ?_;rintro e w' ⟨rfl,rfl⟩)
  refine (hin _ hg).mono ?_
  rintro e w1 ⟨rfl,hb1⟩
  go_wp2
  go_ret2
  exact ⟨[.int .i64 0,.bool false],rfl,hb1,[_],[],[],rfl,⟨rfl,rfl⟩,rfl,[_],[],[],rfl,⟨rfl,rfl⟩,rfl,rfl⟩
end Go.Rf
