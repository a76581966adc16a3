/-
  The functions of the program that FnExactRecordsOf reaches, as plain functions.
-/
import Derived.Test.YtcgneindmpkhgaaGreatDoorRRfD
import Derived.Lib.AtoiAll
import Derived.Lib.Bytealg
import Derived.Lib.IndexMore
import Derived.Lib.ItoaNum
import Derived.Shelf.Strings.Prefix
set_option linter.unusedSimpArgs false
set_option linter.unusedVariables false
set_option autoImplicit false
namespace Go.Rf
def g_strings_IndexByte (N:Nat) (x:ByteArray×Int×Unit):Option (Int×Unit):=some (Lib.indexByte x.1.data.toList x.2.1.toNat.toUInt8,())
def g_strings_Contains (N:Nat) (x:ByteArray×ByteArray×Unit):Option (Bool×Unit):=if x.1.size<4294967281 then some (Lib.contains x.1.data.toList x.2.1.data.toList,()) else none
def g_strconv_Itoa (N:Nat) (x:Int×Unit):Option (ByteArray×Unit):=if -9223372036854775808≤x.1∧x.1≤9223372036854775807 then some (⟨(Lib.itoa x.1).toArray⟩,()) else none
def i_ReadDec (N:Nat) (x:ByteArray×Unit):Option (Int×Bool×Unit) :=
 if 1≤(Lib.trimPrefix x.1.data.toList [45]).length∧(Lib.trimPrefix x.1.data.toList [45]).length≤9 then
  match Lib.atoiAll x.1.data.toList with
  | .ok v=>if Lib.itoa v=x.1.data.toList then some (v,true,()) else some (0,false,())
  | _=>some (0,false,())
 else some (0,false,())
def Ty.scal:Ty→Bool
 | .int _=>true
 | .bool=>true
 | .str=>true
 | _=>false
theorem ArgsRel.scal {S S':Stab}{H H':Heap}:∀ {rs:List Ty}{rv:List Value}{x:LD rs}{g:List Nat},rs.all Ty.scal=true→ArgsRel S H rs rv x g→g=[]∧ArgsRel S' H' rs rv x []:=by
 intro rs
 induction rs with
 | nil=>intro rv x g _ h;cases rv <;> simp_all [ArgsRel]
 | cons τ rs ih =>
  intro rv x g hs h
  cases rv with
  | nil=>simp [ArgsRel] at h
  | cons v rv =>
   simp only [List.all_cons,bA] at hs
   obtain ⟨ws,f1,f2,e,hr,rfl,h⟩:=h
   obtain ⟨rfl,k2⟩:=ih hs.2 h
   have:f1=[]∧Rep S' H' τ ws x.1 []:=by
    cases τ <;> simp only [Ty.scal,bF] at hs
    ·obtain ⟨h1,h2⟩:=hr;exact ⟨h2,h1,rfl⟩
    ·obtain ⟨h1,h2⟩:=hr;exact ⟨h2,h1,rfl⟩
    ·obtain ⟨h1,h2⟩:=hr;exact ⟨h2,h1,rfl⟩
    ·exact absurd hs.1 (by simp)
    ·exact absurd hs.1 (by simp)
    ·exact absurd hs.1 (by simp)
    ·exact absurd hs.1 (by simp)
    ·exact absurd hs.1 (by simp)
    ·exact absurd hs.1 (by simp)
   obtain ⟨rfl,hr'⟩:=this
   exact ⟨rfl,ws,[],[],e,hr',rfl,k2⟩
theorem ctr_scal {P:Program}{V:Glb}{fid:Nat}{fn:Func}{c:Code} (hfn:P.funcs[fid]?=some fn) (hbody:fn.body=some c) (hname:(fn.name == "runtime.NumGoroutine")=false){ps rs:List Ty}{F:LD ps→Option (LD rs)}
  (hp1:ps.all Ty.scal=true) (hr1:rs.all Ty.scal=true)
  (hcall:∀ (w:World) (args:LD ps) (vals:List Value) (r:LD rs),V.holds w→ArgsRel (fun _ _=>False) (fun _=>none) ps vals args []→F args=some r →
   Calls P fid vals.toArray w fun e w'=>∃ rv,e=.returned (retVal rv)∧RowKit.Below w.heap.size w w'∧ArgsRel (fun _ _=>False) (fun _=>none) rs rv r []):Ctr P V fid ⟨ps,rs,F⟩:=by
 refine ⟨?_,?_⟩
 ·intro args w
  have h1:fn.name ≠ "runtime.NumGoroutine":=by simpa using hname
  simp [callFunc,hfn,h1,hbody,mark]
 ·intro w S args vals fp r hst _ hg ha _ _ hF
  obtain ⟨rfl,ha'⟩:=ha.scal (S':=fun _ _=>False) (H':=fun _=>none) hp1
  refine (hcall w args vals r hg.2 ha' hF).mono ?_
  rintro e w' ⟨rv,rfl,hb,hr⟩
  refine ⟨rv,fun b=>S .keep b,[],rfl,⟨hb.os,hb.tape,hb.output,hb.size,fun b h _=>hb.block b h⟩,(hr.scal hr1).2,fun b h=>⟨Nat.lt_of_lt_of_le (hst _ b h) hb.size,.inl h⟩,by simp,by simp⟩
end Go.Rf
namespace Go.Rf
def i_inRange (N:Nat) (x:Int×Int×Int×Unit):Option (Bool×Unit) :=
((if (decide (x.1≥x.2.1))=true then
 some (decide (x.1≤x.2.2.1)) else some false)).bind fun b1 =>
 some (b1,())
def i_isSymByte (N:Nat) (x:Int×Unit):Option (Bool×Unit) :=
((if (decide (x.1≥97))=true then
 some (decide (x.1≤122)) else some false)).bind fun b1 =>
((if b1=true then
 some true else ((if (decide (x.1≥48))=true then
 some (decide (x.1≤57)) else some false)).bind fun b2 =>
 some b2)).bind fun b3 =>
((if b3=true then
 some true else (g_strings_IndexByte N (ByteArray.mk #[33,63,42,47,60,61,62,43,45,95],x.1,())).bind fun r4 =>
 some (decide (r4.1≥0)))).bind fun b5 =>
 some (b5,())
def i_symOk (N:Nat) (x:ByteArray×Unit):Option (Bool×Unit) :=
(iter (A:=Int×Unit) (B:=Unit) (C:=Bool×Unit) (fun s1 =>
(if (decide (s1.1<(ByteArray.size x.1:Int)))=true then
(if inB s1.1 (ByteArray.size x.1) then
(i_isSymByte N (bt x.1 s1.1,())).bind fun r2 =>
(if (!r2.1)=true then
 some (Step.ret (false,())) else
 some (Step.more (wI (s1.1+1),()))) else none) else
 some (Step.done (())))) N (0,())).bind fun r3=>match r3 with
| .inl y4=>(i_inRange N ((ByteArray.size x.1:Int),1,16,())).bind fun r6 =>
((if (!r6.1)=true then
 some true else (if inB 0 (ByteArray.size x.1) then
((if (decide ((bt x.1 0)≥48))=true then
(if inB 0 (ByteArray.size x.1) then
 some (decide ((bt x.1 0)≤57)) else none) else some false)).bind fun b7 =>
 some b7 else none))).bind fun b8 =>
(if b8=true then
 some (false,()) else
(i_ReadDec N (x.1,())).bind fun r9 =>
 some (!r9.2.1,()))
| .inr z5=>some (z5.1,())
def i_isOneOf (N:Nat) (x:ByteArray×ByteArray×Unit):Option (Bool×Unit) :=
((if (!decide (x.1=(ByteArray.mk #[])))=true then
(g_strings_Contains N (x.1,ByteArray.mk #[32],())).bind fun r1 =>
 some (!r1.1) else some false)).bind fun b2 =>
((if b2=true then
(if ByteArray.size (ByteArray.mk #[32])+ByteArray.size x.2.1<4611686018427387904 then
(if ByteArray.size ((ByteArray.mk #[32])++x.2.1)+ByteArray.size (ByteArray.mk #[32])<4611686018427387904 then
(if ByteArray.size (ByteArray.mk #[32])+ByteArray.size x.1<4611686018427387904 then
(if ByteArray.size ((ByteArray.mk #[32])++x.1)+ByteArray.size (ByteArray.mk #[32])<4611686018427387904 then
(g_strings_Contains N (((ByteArray.mk #[32])++x.2.1)++(ByteArray.mk #[32]),((ByteArray.mk #[32])++x.1)++(ByteArray.mk #[32]),())).bind fun r3 =>
 some r3.1 else none) else none) else none) else none) else some false)).bind fun b4 =>
 some (b4,())
def i_Arity (N:Nat) (x:ByteArray×Unit):Option (Int×Unit) :=
(i_isOneOf N (x.1,ByteArray.mk #[43,32,45,32,42,32,60,32,61,32,101,113,63,32,99,111,110,115],())).bind fun r1 =>
(if r1.1=true then
 some (2,()) else
(i_isOneOf N (x.1,ByteArray.mk #[99,97,114,32,99,100,114,32,110,117,108,108,63,32,112,97,105,114,63,32,110,111,116,32,112,114,105,110,116,32,101,114,114,111,114,32,102,105,101,108,100,32,105,115],())).bind fun r2 =>
(if r2.1=true then
 some (1,()) else
(if (decide (x.1=(ByteArray.mk #[109,97,107,101])))=true then
 some (0,()) else
 some ((-1),()))))
def i_IsName (N:Nat) (x:ByteArray×Unit):Option (Bool×Unit) :=
(if (decide (x.1=(ByteArray.mk #[37,116])))=true then
 some (true,()) else
(i_symOk N (x.1,())).bind fun r1 =>
((if r1.1=true then
(i_isOneOf N (x.1,ByteArray.mk #[113,117,111,116,101,32,105,102,32,108,97,109,98,100,97,32,98,101,103,105,110,32,115,101,116,33,32,108,101,116,32,108,101,116,42,32,99,111,110,100,32,101,108,115,101,32,97,110,100,32,111,114,32,119,104,101,110,32,100,101,102,105,110,101],())).bind fun r2 =>
 some (!r2.1) else some false)).bind fun b3 =>
((if b3=true then
(i_Arity N (x.1,())).bind fun r4 =>
 some (decide (r4.1<0)) else some false)).bind fun b5 =>
 some (b5,()))
def i_allNames (N:Nat) (x:List (ByteArray)×Unit):Option (Bool×Unit) :=
(iter (A:=Int×Unit) (B:=Unit) (C:=Bool×Unit) (fun s1 =>
(if (decide (s1.1<(List.length x.1:Int)))=true then
(if inB s1.1 (List.length x.1) then
(i_IsName N (List.getD x.1 (Int.toNat s1.1) bE,())).bind fun r2 =>
(if (!r2.1)=true then
 some (Step.ret (false,())) else
 some (Step.more (wI (s1.1+1),()))) else none) else
 some (Step.done (())))) N (0,())).bind fun r3=>match r3 with
| .inl y4=>some (true,())
| .inr z5=>some (z5.1,())
def i_cellOk (N:Nat) (x:(Int×ByteArray×Int×Int×List (ByteArray)×List (Int×Int×ByteArray×Unit)×Unit)×Unit):Option (Bool×Unit) :=
(if (decide (x.1.1=1))=true then
((if (decide (x.1.2.1=(ByteArray.mk #[])))=true then
 some (decide (x.1.2.2.1=0)) else some false)).bind fun b1 =>
((if b1=true then
 some (decide (x.1.2.2.2.1=0)) else some false)).bind fun b2 =>
((if b2=true then
 some (decide ((List.length x.1.2.2.2.2.1:Int)=0)) else some false)).bind fun b3 =>
((if b3=true then
 some (decide ((List.length x.1.2.2.2.2.2.1:Int)=2)) else some false)).bind fun b4 =>
 some (b4,()) else
(if (decide (x.1.1=2))=true then
((if (decide (x.1.2.1=(ByteArray.mk #[])))=true then
 some (decide (x.1.2.2.1≥0)) else some false)).bind fun b5 =>
((if b5=true then
 some (decide (x.1.2.2.2.1≥0)) else some false)).bind fun b6 =>
((if b6=true then
(i_allNames N (x.1.2.2.2.2.1,())).bind fun r7 =>
 some r7.1 else some false)).bind fun b8 =>
((if b8=true then
 some (decide ((List.length x.1.2.2.2.2.2.1:Int)=(List.length x.1.2.2.2.2.1:Int))) else some false)).bind fun b9 =>
 some (b9,()) else
(if (decide (x.1.1=3))=true then
((if (!decide (x.1.2.1=(ByteArray.mk #[])))=true then
(i_inRange N (x.1.2.2.1,0,1000,())).bind fun r10 =>
 some r10.1 else some false)).bind fun b11 =>
((if b11=true then
 some (decide (x.1.2.2.2.1=0)) else some false)).bind fun b12 =>
((if b12=true then
 some (decide ((List.length x.1.2.2.2.2.1:Int)=0)) else some false)).bind fun b13 =>
((if b13=true then
 some (decide ((List.length x.1.2.2.2.2.2.1:Int)≤8)) else some false)).bind fun b14 =>
 some (b14,()) else
 some (false,()))))
def i_cellKind (N:Nat) (x:Int×Unit):Option (Int×Unit) :=
(if (decide (x.1=5))=true then
 some (1,()) else
(if (decide (x.1=6))=true then
 some (2,()) else
(if (decide (x.1=7))=true then
 some (3,()) else
 some (0,()))))
def i_ValueOk (N:Nat) (x:List (Int×ByteArray×Int×Int×List (ByteArray)×List (Int×Int×ByteArray×Unit)×Unit)×(Int×Int×ByteArray×Unit)×Unit):Option (Bool×Unit) :=
(if (decide (x.2.1.1=1))=true then
(i_inRange N (x.2.1.2.1,(-1000000),1000000,())).bind fun r1 =>
((if r1.1=true then
 some (decide (x.2.1.2.2.1=(ByteArray.mk #[]))) else some false)).bind fun b2 =>
 some (b2,()) else
(if (decide (x.2.1.1=2))=true then
(i_inRange N (x.2.1.2.1,0,1,())).bind fun r3 =>
((if r3.1=true then
 some (decide (x.2.1.2.2.1=(ByteArray.mk #[]))) else some false)).bind fun b4 =>
 some (b4,()) else
(if (decide (x.2.1.1=3))=true then
((if (decide (x.2.1.2.1=0))=true then
 some (decide (x.2.1.2.2.1=(ByteArray.mk #[]))) else some false)).bind fun b5 =>
 some (b5,()) else
(if (decide (x.2.1.1=4))=true then
((if (decide (x.2.1.2.1=0))=true then
(i_symOk N (x.2.1.2.2.1,())).bind fun r6 =>
 some r6.1 else some false)).bind fun b7 =>
 some (b7,()) else
((if (decide (x.2.1.1=5))=true then
 some (x.2.1,decide (x.2.1.1=5),()) else
((if (decide (x.2.1.1=6))=true then
 some (x.2.1,decide (x.2.1.1=6),()) else
 some (x.2.1,decide (x.2.1.1=7),())):Option ((Int×Int×ByteArray×Unit)×Bool×Unit)).bind fun j10 =>
 some (j10.1,j10.2.1,())):Option ((Int×Int×ByteArray×Unit)×Bool×Unit)).bind fun j9 =>
(if j9.2.1=true then
(if (decide (j9.1.2.2.1=(ByteArray.mk #[])))=true then
(i_inRange N (j9.1.2.1,0,wI ((List.length x.1:Int)-1),())).bind fun r11 =>
(if r11.1=true then
(if inB j9.1.2.1 (List.length x.1) then
(i_cellKind N (j9.1.1,())).bind fun r12 =>
 some (decide (((List.getD x.1 (Int.toNat j9.1.2.1) (0,(bE,(0,(0,([],([],()))))))).1)=r12.1),()) else none) else some (false,())) else some (false,())) else
 some (false,()))))))
def i_valuesOk (N:Nat) (x:List (Int×ByteArray×Int×Int×List (ByteArray)×List (Int×Int×ByteArray×Unit)×Unit)×List (Int×Int×ByteArray×Unit)×Unit):Option (Bool×Unit) :=
(iter (A:=Int×Unit) (B:=Unit) (C:=Bool×Unit) (fun s1 =>
(if (decide (s1.1<(List.length x.2.1:Int)))=true then
(if inB s1.1 (List.length x.2.1) then
(i_ValueOk N (x.1,List.getD x.2.1 (Int.toNat s1.1) (0,(0,(bE,()))),())).bind fun r2 =>
(if (!r2.1)=true then
 some (Step.ret (false,())) else
 some (Step.more (wI (s1.1+1),()))) else none) else
 some (Step.done (())))) N (0,())).bind fun r3=>match r3 with
| .inl y4=>some (true,())
| .inr z5=>some (z5.1,())
def i_areBelow (N:Nat) (x:List (Int×Int×ByteArray×Unit)×Int×Unit):Option (Bool×Unit) :=
(iter (A:=Int×Unit) (B:=Unit) (C:=Bool×Unit) (fun s1 =>
(if (decide (s1.1<(List.length x.1:Int)))=true then
(if inB s1.1 (List.length x.1) then
(i_cellKind N ((List.getD x.1 (Int.toNat s1.1) (0,(0,(bE,())))).1,())).bind fun r2 =>
((if (!decide (r2.1=0))=true then
 some (decide ((((List.getD x.1 (Int.toNat s1.1) (0,(0,(bE,())))).2).1)≥x.2.1)) else some false)).bind fun b3 =>
(if b3=true then
 some (Step.ret (false,())) else
 some (Step.more (wI (s1.1+1),()))) else none) else
 some (Step.done (())))) N (0,())).bind fun r4=>match r4 with
| .inl y5=>some (true,())
| .inr z6=>some (z6.1,())
def i_HeapOk (N:Nat) (x:List (Int×ByteArray×Int×Int×List (ByteArray)×List (Int×Int×ByteArray×Unit)×Unit)×Unit):Option (Bool×Unit) :=
(if (decide ((List.length x.1:Int)>300))=true then
 some (false,()) else
(iter (A:=Int×Unit) (B:=Unit) (C:=Bool×Unit) (fun s1 =>
(if (decide (s1.1<(List.length x.1:Int)))=true then
(if inB s1.1 (List.length x.1) then
(i_cellOk N (List.getD x.1 (Int.toNat s1.1) (0,(bE,(0,(0,([],([],())))))),())).bind fun r2 =>
((if (!r2.1)=true then
 some true else (i_valuesOk N (x.1,((((((List.getD x.1 (Int.toNat s1.1) (0,(bE,(0,(0,([],([],()))))))).2).2).2).2).2).1,())).bind fun r3 =>
 some (!r3.1))).bind fun b4 =>
((if b4=true then
 some true else ((if (!decide (((List.getD x.1 (Int.toNat s1.1) (0,(bE,(0,(0,([],([],()))))))).1)=3))=true then
(i_areBelow N (((((((List.getD x.1 (Int.toNat s1.1) (0,(bE,(0,(0,([],([],()))))))).2).2).2).2).2).1,s1.1,())).bind fun r5 =>
 some (!r5.1) else some false)).bind fun b6 =>
 some b6)).bind fun b7 =>
(if b7=true then
 some (Step.ret (false,())) else
 some (Step.more (wI (s1.1+1),()))) else none) else
 some (Step.done (())))) N (0,())).bind fun r8=>match r8 with
| .inl y9=>some (true,())
| .inr z10=>some (z10.1,()))
def s_l1In (N:Nat) (x:Int×Int×Int×Unit):Option (Bool×Unit) :=
((if (decide (x.1≥x.2.1))=true then
 some (decide (x.1≤x.2.2.1)) else some false)).bind fun b1 =>
 some (b1,())
def s_l2Digit (N:Nat) (x:Int×Unit):Option (Bool×Unit) :=
((if (decide (x.1≥48))=true then
 some (decide (x.1≤57)) else some false)).bind fun b1 =>
 some (b1,())
def s_l2In (N:Nat) (x:Int×ByteArray×Unit):Option (Bool×Unit) :=
(iter (A:=Int×Unit) (B:=Unit) (C:=Bool×Unit) (fun s1 =>
(if (decide (s1.1<(ByteArray.size x.2.1:Int)))=true then
(if inB s1.1 (ByteArray.size x.2.1) then
(if (decide ((bt x.2.1 s1.1)=x.1))=true then
 some (Step.ret (true,())) else
 some (Step.more (wI (s1.1+1),()))) else none) else
 some (Step.done (())))) N (0,())).bind fun r2=>match r2 with
| .inl y3=>some (false,())
| .inr z4=>some (z4.1,())
def s_l2Sign (N:Nat) (x:Int×Unit):Option (Bool×Unit) :=
((if (decide (x.1≥97))=true then
 some (decide (x.1≤122)) else some false)).bind fun b1 =>
((if b1=true then
 some true else (s_l2Digit N (x.1,())).bind fun r2 =>
 some r2.1)).bind fun b3 =>
((if b3=true then
 some true else (s_l2In N (x.1,ByteArray.mk #[33,63,42,47,60,61,62,43,45,95],())).bind fun r4 =>
 some r4.1)).bind fun b5 =>
 some (b5,())
def s_Dec (N:Nat) (x:Int×Unit):Option (ByteArray×Unit) :=
(if (decide (x.1=0))=true then
 some (ByteArray.mk #[48],()) else
(iter (A:=Int×ByteArray×Unit) (B:=ByteArray×Unit) (C:=ByteArray×Unit) (fun s1 =>
(if (!decide (s1.1=0))=true then
((if (decide ((Int.tmod s1.1 10)<0))=true then
 some (wI (0-(Int.tmod s1.1 10)),()) else
 some (Int.tmod s1.1 10,())):Option (Int×Unit)).bind fun j2 =>
(if ByteArray.size (ofBytes [IntKind.wrap .u8 (wI (48+j2.1))])+ByteArray.size s1.2.1<4611686018427387904 then
 some (Step.more (wI (Int.tdiv s1.1 10),(ofBytes [IntKind.wrap .u8 (wI (48+j2.1))])++s1.2.1,())) else none) else
 some (Step.done (s1.2.1,())))) N (x.1,ByteArray.mk #[],())).bind fun r3=>match r3 with
| .inl y4=>(if (decide (x.1<0))=true then
(if ByteArray.size (ByteArray.mk #[45])+ByteArray.size y4.1<4611686018427387904 then
 some ((ByteArray.mk #[45])++y4.1,()) else none) else
 some (y4.1,()))
| .inr z5=>some (z5.1,()))
def s_ReadDec (N:Nat) (x:ByteArray×Unit):Option (Int×Bool×Unit) :=
(iter (A:=Int×Int×Int×Unit) (B:=Int×Int×Unit) (C:=Int×Bool×Unit) (fun s1 =>
((if (decide (s1.2.2.1<(ByteArray.size x.1:Int)))=true then
 some (decide (s1.2.2.1<11)) else some false)).bind fun b2 =>
(if b2=true then
(if inB s1.2.2.1 (ByteArray.size x.1) then
((if (decide ((bt x.1 s1.2.2.1)≥48))=true then
(if inB s1.2.2.1 (ByteArray.size x.1) then
 some (decide ((bt x.1 s1.2.2.1)≤57)) else none) else some false)).bind fun b3 =>
((if b3=true then
(if inB s1.2.2.1 (ByteArray.size x.1) then
 some (wI ((wI (s1.1*10))+(wI (IntKind.wrap .u8 ((bt x.1 s1.2.2.1)-48)))),wI (s1.2.1+1),()) else none) else
 some (s1.1,s1.2.1,())):Option (Int×Int×Unit)).bind fun j4 =>
 some (Step.more (j4.1,j4.2.1,wI (s1.2.2.1+1),())) else none) else
 some (Step.done (s1.1,s1.2.1,())))) N (0,0,0,())).bind fun r5=>match r5 with
| .inl y6=>((if (decide ((ByteArray.size x.1:Int)>0))=true then
(if inB 0 (ByteArray.size x.1) then
 some (decide ((bt x.1 0)=45)) else none) else some false)).bind fun b8 =>
((if b8=true then
 some (wI (0-y6.1),()) else
 some (y6.1,())):Option (Int×Unit)).bind fun j9 =>
((if (decide (y6.2.1>9))=true then
 some true else some (decide ((ByteArray.size x.1:Int)>10)))).bind fun b10 =>
((if b10=true then
 some true else (s_Dec N (j9.1,())).bind fun r11 =>
 some (!decide (r11.1=x.1)))).bind fun b12 =>
(if b12=true then
 some (0,false,()) else
 some (j9.1,true,()))
| .inr z7=>some (z7.1,z7.2.1,())
def s_l2Sym (N:Nat) (x:ByteArray×Unit):Option (Bool×Unit) :=
(s_l1In N ((ByteArray.size x.1:Int),1,16,())).bind fun r1 =>
((if (!r1.1)=true then
 some true else (if inB 0 (ByteArray.size x.1) then
(s_l2Digit N (bt x.1 0,())).bind fun r2 =>
 some r2.1 else none))).bind fun b3 =>
(if b3=true then
 some (false,()) else
(iter (A:=Int×Unit) (B:=Unit) (C:=Bool×Unit) (fun s4 =>
(if (decide (s4.1<(ByteArray.size x.1:Int)))=true then
(if inB s4.1 (ByteArray.size x.1) then
(s_l2Sign N (bt x.1 s4.1,())).bind fun r5 =>
(if (!r5.1)=true then
 some (Step.ret (false,())) else
 some (Step.more (wI (s4.1+1),()))) else none) else
 some (Step.done (())))) N (0,())).bind fun r6=>match r6 with
| .inl y7=>(s_ReadDec N (x.1,())).bind fun r9 =>
 some (!r9.2.1,())
| .inr z8=>some (z8.1,()))
def s_l6Cell (N:Nat) (x:List (Int×ByteArray×Int×Int×List (ByteArray)×List (Int×Int×ByteArray×Unit)×Unit)×Int×Int×Unit):Option (Bool×Unit) :=
((if (decide (x.2.1≥0))=true then
 some (decide (x.2.1<(List.length x.1:Int))) else some false)).bind fun b1 =>
((if b1=true then
(if inB x.2.1 (List.length x.1) then
 some (decide (((List.getD x.1 (Int.toNat x.2.1) (0,(bE,(0,(0,([],([],()))))))).1)=x.2.2.1)) else none) else some false)).bind fun b2 =>
 some (b2,())
def s_ValueOk (N:Nat) (x:List (Int×ByteArray×Int×Int×List (ByteArray)×List (Int×Int×ByteArray×Unit)×Unit)×(Int×Int×ByteArray×Unit)×Unit):Option (Bool×Unit) :=
((if (!decide (x.2.1.1=4))=true then
 some (!decide (x.2.1.2.2.1=(ByteArray.mk #[]))) else some false)).bind fun b1 =>
(if b1=true then
 some (false,()) else
(if (decide (x.2.1.1=1))=true then
(s_l1In N (x.2.1.2.1,(-1000000),1000000,())).bind fun r2 =>
 some (r2.1,()) else
(if (decide (x.2.1.1=2))=true then
(s_l1In N (x.2.1.2.1,0,1,())).bind fun r3 =>
 some (r3.1,()) else
(if (decide (x.2.1.1=3))=true then
 some (decide (x.2.1.2.1=0),()) else
(if (decide (x.2.1.1=4))=true then
((if (decide (x.2.1.2.1=0))=true then
(s_l2Sym N (x.2.1.2.2.1,())).bind fun r4 =>
 some r4.1 else some false)).bind fun b5 =>
 some (b5,()) else
(if (decide (x.2.1.1=5))=true then
(s_l6Cell N (x.1,x.2.1.2.1,1,())).bind fun r6 =>
 some (r6.1,()) else
(if (decide (x.2.1.1=6))=true then
(s_l6Cell N (x.1,x.2.1.2.1,2,())).bind fun r7 =>
 some (r7.1,()) else
(if (decide (x.2.1.1=7))=true then
(s_l6Cell N (x.1,x.2.1.2.1,3,())).bind fun r8 =>
 some (r8.1,()) else
 some (false,())))))))))
def s_l6Points (N:Nat) (x:(Int×Int×ByteArray×Unit)×Unit):Option (Bool×Unit) :=
(s_l1In N (x.1.1,5,7,())).bind fun r1 =>
 some (r1.1,())
def s_l3In (N:Nat) (x:List (ByteArray)×ByteArray×Unit):Option (Bool×Unit) :=
(iter (A:=Int×Unit) (B:=Unit) (C:=Bool×Unit) (fun s1 =>
(if (decide (s1.1<(List.length x.1:Int)))=true then
(if inB s1.1 (List.length x.1) then
(if (decide ((List.getD x.1 (Int.toNat s1.1) bE)=x.2.1))=true then
 some (Step.ret (true,())) else
 some (Step.more (wI (s1.1+1),()))) else none) else
 some (Step.done (())))) N (0,())).bind fun r2=>match r2 with
| .inl y3=>some (false,())
| .inr z4=>some (z4.1,())
def s_l3Word (N:Nat) (x:ByteArray×Unit):Option (Bool×Unit) :=
(s_l3In N ([ByteArray.mk #[113,117,111,116,101],ByteArray.mk #[105,102],ByteArray.mk #[108,97,109,98,100,97],ByteArray.mk #[98,101,103,105,110],ByteArray.mk #[115,101,116,33],ByteArray.mk #[108,101,116],ByteArray.mk #[108,101,116,42],ByteArray.mk #[99,111,110,100],ByteArray.mk #[101,108,115,101],ByteArray.mk #[97,110,100],ByteArray.mk #[111,114],ByteArray.mk #[119,104,101,110],ByteArray.mk #[100,101,102,105,110,101]],x.1,())).bind fun r1 =>
 some (r1.1,())
def s_Arity (N:Nat) (x:ByteArray×Unit):Option (Int×Unit) :=
((if (decide (x.1=(ByteArray.mk #[43])))=true then
 some (decide (x.1=(ByteArray.mk #[43])),()) else
((if (decide (x.1=(ByteArray.mk #[45])))=true then
 some (decide (x.1=(ByteArray.mk #[45])),()) else
((if (decide (x.1=(ByteArray.mk #[42])))=true then
 some (decide (x.1=(ByteArray.mk #[42])),()) else
((if (decide (x.1=(ByteArray.mk #[60])))=true then
 some (decide (x.1=(ByteArray.mk #[60])),()) else
((if (decide (x.1=(ByteArray.mk #[61])))=true then
 some (decide (x.1=(ByteArray.mk #[61])),()) else
((if (decide (x.1=(ByteArray.mk #[101,113,63])))=true then
 some (decide (x.1=(ByteArray.mk #[101,113,63])),()) else
 some (decide (x.1=(ByteArray.mk #[99,111,110,115])),())):Option (Bool×Unit)).bind fun j63 =>
 some (j63.1,())):Option (Bool×Unit)).bind fun j62 =>
 some (j62.1,())):Option (Bool×Unit)).bind fun j60 =>
 some (j60.1,())):Option (Bool×Unit)).bind fun j56 =>
 some (j56.1,())):Option (Bool×Unit)).bind fun j48 =>
 some (j48.1,())):Option (Bool×Unit)).bind fun j32 =>
(if j32.1=true then
 some (2,()) else
((if (decide (x.1=(ByteArray.mk #[99,97,114])))=true then
 some (decide (x.1=(ByteArray.mk #[99,97,114])),()) else
((if (decide (x.1=(ByteArray.mk #[99,100,114])))=true then
 some (decide (x.1=(ByteArray.mk #[99,100,114])),()) else
((if (decide (x.1=(ByteArray.mk #[110,117,108,108,63])))=true then
 some (decide (x.1=(ByteArray.mk #[110,117,108,108,63])),()) else
((if (decide (x.1=(ByteArray.mk #[112,97,105,114,63])))=true then
 some (decide (x.1=(ByteArray.mk #[112,97,105,114,63])),()) else
((if (decide (x.1=(ByteArray.mk #[110,111,116])))=true then
 some (decide (x.1=(ByteArray.mk #[110,111,116])),()) else
((if (decide (x.1=(ByteArray.mk #[112,114,105,110,116])))=true then
 some (decide (x.1=(ByteArray.mk #[112,114,105,110,116])),()) else
((if (decide (x.1=(ByteArray.mk #[101,114,114,111,114])))=true then
 some (decide (x.1=(ByteArray.mk #[101,114,114,111,114])),()) else
((if (decide (x.1=(ByteArray.mk #[102,105,101,108,100])))=true then
 some (decide (x.1=(ByteArray.mk #[102,105,101,108,100])),()) else
 some (decide (x.1=(ByteArray.mk #[105,115])),())):Option (Bool×Unit)).bind fun j318 =>
 some (j318.1,())):Option (Bool×Unit)).bind fun j317 =>
 some (j317.1,())):Option (Bool×Unit)).bind fun j315 =>
 some (j315.1,())):Option (Bool×Unit)).bind fun j311 =>
 some (j311.1,())):Option (Bool×Unit)).bind fun j303 =>
 some (j303.1,())):Option (Bool×Unit)).bind fun j287 =>
 some (j287.1,())):Option (Bool×Unit)).bind fun j255 =>
 some (j255.1,())):Option (Bool×Unit)).bind fun j191 =>
(if j191.1=true then
 some (1,()) else
(if (decide (x.1=(ByteArray.mk #[109,97,107,101])))=true then
 some (0,()) else
 some ((-1),()))))
def s_IsName (N:Nat) (x:ByteArray×Unit):Option (Bool×Unit) :=
((if (decide (x.1=(ByteArray.mk #[37,116])))=true then
 some true else (s_l2Sym N (x.1,())).bind fun r1 =>
((if r1.1=true then
(s_l3Word N (x.1,())).bind fun r2 =>
 some (!r2.1) else some false)).bind fun b3 =>
((if b3=true then
(s_Arity N (x.1,())).bind fun r4 =>
 some (decide (r4.1<0)) else some false)).bind fun b5 =>
 some b5)).bind fun b6 =>
 some (b6,())
def s_l6CellOk (N:Nat) (x:List (Int×ByteArray×Int×Int×List (ByteArray)×List (Int×Int×ByteArray×Unit)×Unit)×Int×Unit):Option (Bool×Unit) :=
(if inB x.2.1 (List.length x.1) then
(iter (A:=(Int×ByteArray×Int×Int×List (ByteArray)×List (Int×Int×ByteArray×Unit)×Unit)×Int×Unit) (B:=(Int×ByteArray×Int×Int×List (ByteArray)×List (Int×Int×ByteArray×Unit)×Unit)×Unit) (C:=Bool×Unit) (fun s1 =>
(if (decide (s1.2.1<(List.length s1.1.2.2.2.2.2.1:Int)))=true then
(if inB s1.2.1 (List.length s1.1.2.2.2.2.2.1) then
(s_ValueOk N (x.1,List.getD s1.1.2.2.2.2.2.1 (Int.toNat s1.2.1) (0,(0,(bE,()))),())).bind fun r2 =>
((if (!r2.1)=true then
 some true else ((if (!decide (s1.1.1=3))=true then
(if inB s1.2.1 (List.length s1.1.2.2.2.2.2.1) then
(s_l6Points N (List.getD s1.1.2.2.2.2.2.1 (Int.toNat s1.2.1) (0,(0,(bE,()))),())).bind fun r3 =>
 some r3.1 else none) else some false)).bind fun b4 =>
((if b4=true then
(if inB s1.2.1 (List.length s1.1.2.2.2.2.2.1) then
 some (decide ((((List.getD s1.1.2.2.2.2.2.1 (Int.toNat s1.2.1) (0,(0,(bE,())))).2).1)≥x.2.1)) else none) else some false)).bind fun b5 =>
 some b5)).bind fun b6 =>
(if b6=true then
 some (Step.ret (false,())) else
 some (Step.more (s1.1,wI (s1.2.1+1),()))) else none) else
 some (Step.done (s1.1,())))) N (List.getD x.1 (Int.toNat x.2.1) (0,(bE,(0,(0,([],([],())))))),0,())).bind fun r7=>match r7 with
| .inl y8=>(if (decide (y8.1.1=1))=true then
((if (decide (y8.1.2.1=(ByteArray.mk #[])))=true then
 some (decide (y8.1.2.2.1=0)) else some false)).bind fun b10 =>
((if b10=true then
 some (decide (y8.1.2.2.2.1=0)) else some false)).bind fun b11 =>
((if b11=true then
 some (decide ((List.length y8.1.2.2.2.2.1:Int)=0)) else some false)).bind fun b12 =>
((if b12=true then
 some (decide ((List.length y8.1.2.2.2.2.2.1:Int)=2)) else some false)).bind fun b13 =>
 some (b13,()) else
(if (decide (y8.1.1=2))=true then
(iter (A:=(Int×ByteArray×Int×Int×List (ByteArray)×List (Int×Int×ByteArray×Unit)×Unit)×Int×Unit) (B:=(Int×ByteArray×Int×Int×List (ByteArray)×List (Int×Int×ByteArray×Unit)×Unit)×Unit) (C:=Bool×Unit) (fun s14 =>
(if (decide (s14.2.1<(List.length s14.1.2.2.2.2.1:Int)))=true then
(if inB s14.2.1 (List.length s14.1.2.2.2.2.1) then
(s_IsName N (List.getD s14.1.2.2.2.2.1 (Int.toNat s14.2.1) bE,())).bind fun r15 =>
(if (!r15.1)=true then
 some (Step.ret (false,())) else
 some (Step.more (s14.1,wI (s14.2.1+1),()))) else none) else
 some (Step.done (s14.1,())))) N (y8.1,0,())).bind fun r16=>match r16 with
| .inl y17=>((if (decide (y17.1.2.1=(ByteArray.mk #[])))=true then
 some (decide (y17.1.2.2.1≥0)) else some false)).bind fun b19 =>
((if b19=true then
 some (decide (y17.1.2.2.2.1≥0)) else some false)).bind fun b20 =>
((if b20=true then
 some (decide ((List.length y17.1.2.2.2.2.1:Int)=(List.length y17.1.2.2.2.2.2.1:Int))) else some false)).bind fun b21 =>
 some (b21,())
| .inr z18=>some (z18.1,()) else
(if (decide (y8.1.1=3))=true then
((if (!decide (y8.1.2.1=(ByteArray.mk #[])))=true then
(s_l1In N (y8.1.2.2.1,0,1000,())).bind fun r22 =>
 some r22.1 else some false)).bind fun b23 =>
((if b23=true then
 some (decide (y8.1.2.2.2.1=0)) else some false)).bind fun b24 =>
((if b24=true then
 some (decide ((List.length y8.1.2.2.2.2.1:Int)=0)) else some false)).bind fun b25 =>
((if b25=true then
 some (decide ((List.length y8.1.2.2.2.2.2.1:Int)≤8)) else some false)).bind fun b26 =>
 some (b26,()) else
 some (false,()))))
| .inr z9=>some (z9.1,()) else none)
def s_HeapOk (N:Nat) (x:List (Int×ByteArray×Int×Int×List (ByteArray)×List (Int×Int×ByteArray×Unit)×Unit)×Unit):Option (Bool×Unit) :=
(if (decide ((List.length x.1:Int)>300))=true then
 some (false,()) else
(iter (A:=Int×Unit) (B:=Unit) (C:=Bool×Unit) (fun s1 =>
(if (decide (s1.1<(List.length x.1:Int)))=true then
(s_l6CellOk N (x.1,s1.1,())).bind fun r2 =>
(if (!r2.1)=true then
 some (Step.ret (false,())) else
 some (Step.more (wI (s1.1+1),()))) else
 some (Step.done (())))) N (0,())).bind fun r3=>match r3 with
| .inl y4=>some (true,())
| .inr z5=>some (z5.1,()))
def l_szStringS (N:Nat) (x:List (ByteArray)×Int×Unit):Option (Int×Unit) :=
(if (decide ((wI (x.2.1-(List.length x.1:Int)))<0))=true then
 some ((-1),()) else
(iter (A:=Int×Int×Unit) (B:=Int×Unit) (C:=Int×Unit) (fun s1 =>
(if (decide (s1.2.1<(List.length x.1:Int)))=true then
(if inB s1.2.1 (List.length x.1) then
(if (decide ((wI (s1.1-(ByteArray.size (List.getD x.1 (Int.toNat s1.2.1) bE):Int)))<0))=true then
 some (Step.ret ((-1),())) else
 some (Step.more (wI (s1.1-(ByteArray.size (List.getD x.1 (Int.toNat s1.2.1) bE):Int)),wI (s1.2.1+1),()))) else none) else
 some (Step.done (s1.1,())))) N (wI (x.2.1-(List.length x.1:Int)),0,())).bind fun r2=>match r2 with
| .inl y3=>some (y3.1,())
| .inr z4=>some (z4.1,()))
def l_szValue (N:Nat) (x:(Int×Int×ByteArray×Unit)×Int×Unit):Option (Int×Unit) :=
(if (decide ((wI (x.2.1-(ByteArray.size x.1.2.2.1:Int)))<0))=true then
 some ((-1),()) else
 some (wI (x.2.1-(ByteArray.size x.1.2.2.1:Int)),()))
def l_szValueS (N:Nat) (x:List (Int×Int×ByteArray×Unit)×Int×Unit):Option (Int×Unit) :=
(if (decide ((wI (x.2.1-(List.length x.1:Int)))<0))=true then
 some ((-1),()) else
(iter (A:=Int×Int×Unit) (B:=Int×Unit) (C:=Int×Unit) (fun s1 =>
(if (decide (s1.2.1<(List.length x.1:Int)))=true then
(if inB s1.2.1 (List.length x.1) then
(l_szValue N (List.getD x.1 (Int.toNat s1.2.1) (0,(0,(bE,()))),s1.1,())).bind fun r2 =>
(if (decide (r2.1<0))=true then
 some (Step.ret ((-1),())) else
 some (Step.more (r2.1,wI (s1.2.1+1),()))) else none) else
 some (Step.done (s1.1,())))) N (wI (x.2.1-(List.length x.1:Int)),0,())).bind fun r3=>match r3 with
| .inl y4=>some (y4.1,())
| .inr z5=>some (z5.1,()))
def l_szCell (N:Nat) (x:(Int×ByteArray×Int×Int×List (ByteArray)×List (Int×Int×ByteArray×Unit)×Unit)×Int×Unit):Option (Int×Unit) :=
(if (decide ((wI (x.2.1-(ByteArray.size x.1.2.1:Int)))<0))=true then
 some ((-1),()) else
(l_szStringS N (x.1.2.2.2.2.1,wI (x.2.1-(ByteArray.size x.1.2.1:Int)),())).bind fun r1 =>
(if (decide (r1.1<0))=true then
 some ((-1),()) else
(l_szValueS N (x.1.2.2.2.2.2.1,r1.1,())).bind fun r2 =>
(if (decide (r2.1<0))=true then
 some ((-1),()) else
 some (r2.1,()))))
def l_szCellS (N:Nat) (x:List (Int×ByteArray×Int×Int×List (ByteArray)×List (Int×Int×ByteArray×Unit)×Unit)×Int×Unit):Option (Int×Unit) :=
(if (decide ((wI (x.2.1-(List.length x.1:Int)))<0))=true then
 some ((-1),()) else
(iter (A:=Int×Int×Unit) (B:=Int×Unit) (C:=Int×Unit) (fun s1 =>
(if (decide (s1.2.1<(List.length x.1:Int)))=true then
(if inB s1.2.1 (List.length x.1) then
(l_szCell N (List.getD x.1 (Int.toNat s1.2.1) (0,(bE,(0,(0,([],([],())))))),s1.1,())).bind fun r2 =>
(if (decide (r2.1<0))=true then
 some (Step.ret ((-1),())) else
 some (Step.more (r2.1,wI (s1.2.1+1),()))) else none) else
 some (Step.done (s1.1,())))) N (wI (x.2.1-(List.length x.1:Int)),0,())).bind fun r3=>match r3 with
| .inl y4=>some (y4.1,())
| .inr z5=>some (z5.1,()))
def l_toStringS (N:Nat) (x:List (ByteArray)×Unit):Option (List (ByteArray)×Unit) :=
(if mkB (List.length x.1:Int) (List.length x.1:Int) then
(iter (A:=List (ByteArray)×Int×Unit) (B:=List (ByteArray)×Unit) (C:=List (ByteArray)×Unit) (fun s1 =>
(if (decide (s1.2.1<(List.length x.1:Int)))=true then
(if inB s1.2.1 (List.length x.1) then
(if inB s1.2.1 (List.length s1.1) then
 some (Step.more (List.set s1.1 (Int.toNat s1.2.1) (List.getD x.1 (Int.toNat s1.2.1) bE),wI (s1.2.1+1),())) else none) else none) else
 some (Step.done (s1.1,())))) N (List.replicate (Int.toNat (List.length x.1:Int)) bE,0,())).bind fun r2=>match r2 with
| .inl y3=>some (y3.1,())
| .inr z4=>some (z4.1,()) else none)
def l_toValue (N:Nat) (x:(Int×Int×ByteArray×Unit)×Unit):Option ((Int×Int×ByteArray×Unit)×Unit) :=
 some ((x.1.1,(x.1.2.1,(x.1.2.2.1,()))),())
def l_toValueS (N:Nat) (x:List (Int×Int×ByteArray×Unit)×Unit):Option (List (Int×Int×ByteArray×Unit)×Unit) :=
(if mkB (List.length x.1:Int) (List.length x.1:Int) then
(iter (A:=List (Int×Int×ByteArray×Unit)×Int×Unit) (B:=List (Int×Int×ByteArray×Unit)×Unit) (C:=List (Int×Int×ByteArray×Unit)×Unit) (fun s1 =>
(if (decide (s1.2.1<(List.length x.1:Int)))=true then
(if inB s1.2.1 (List.length x.1) then
(l_toValue N (List.getD x.1 (Int.toNat s1.2.1) (0,(0,(bE,()))),())).bind fun r2 =>
(if inB s1.2.1 (List.length s1.1) then
 some (Step.more (List.set s1.1 (Int.toNat s1.2.1) r2.1,wI (s1.2.1+1),())) else none) else none) else
 some (Step.done (s1.1,())))) N (List.replicate (Int.toNat (List.length x.1:Int)) (0,(0,(bE,()))),0,())).bind fun r3=>match r3 with
| .inl y4=>some (y4.1,())
| .inr z5=>some (z5.1,()) else none)
def l_toCell (N:Nat) (x:(Int×ByteArray×Int×Int×List (ByteArray)×List (Int×Int×ByteArray×Unit)×Unit)×Unit):Option ((Int×ByteArray×Int×Int×List (ByteArray)×List (Int×Int×ByteArray×Unit)×Unit)×Unit) :=
(l_toStringS N (x.1.2.2.2.2.1,())).bind fun r1 =>
(l_toValueS N (x.1.2.2.2.2.2.1,())).bind fun r2 =>
 some ((x.1.1,(x.1.2.1,(x.1.2.2.1,(x.1.2.2.2.1,(r1.1,(r2.1,())))))),())
def l_toCellS (N:Nat) (x:List (Int×ByteArray×Int×Int×List (ByteArray)×List (Int×Int×ByteArray×Unit)×Unit)×Unit):Option (List (Int×ByteArray×Int×Int×List (ByteArray)×List (Int×Int×ByteArray×Unit)×Unit)×Unit) :=
(if mkB (List.length x.1:Int) (List.length x.1:Int) then
(iter (A:=List (Int×ByteArray×Int×Int×List (ByteArray)×List (Int×Int×ByteArray×Unit)×Unit)×Int×Unit) (B:=List (Int×ByteArray×Int×Int×List (ByteArray)×List (Int×Int×ByteArray×Unit)×Unit)×Unit) (C:=List (Int×ByteArray×Int×Int×List (ByteArray)×List (Int×Int×ByteArray×Unit)×Unit)×Unit) (fun s1 =>
(if (decide (s1.2.1<(List.length x.1:Int)))=true then
(if inB s1.2.1 (List.length x.1) then
(l_toCell N (List.getD x.1 (Int.toNat s1.2.1) (0,(bE,(0,(0,([],([],())))))),())).bind fun r2 =>
(if inB s1.2.1 (List.length s1.1) then
 some (Step.more (List.set s1.1 (Int.toNat s1.2.1) r2.1,wI (s1.2.1+1),())) else none) else none) else
 some (Step.done (s1.1,())))) N (List.replicate (Int.toNat (List.length x.1:Int)) (0,(bE,(0,(0,([],([],())))))),0,())).bind fun r3=>match r3 with
| .inl y4=>some (y4.1,())
| .inr z5=>some (z5.1,()) else none)
def l_eqStringS (N:Nat) (x:List (ByteArray)×List (ByteArray)×Unit):Option (Bool×Unit) :=
(if (!decide ((List.length x.1:Int)=(List.length x.2.1:Int)))=true then
 some (false,()) else
(iter (A:=Int×Unit) (B:=Unit) (C:=Bool×Unit) (fun s1 =>
(if (decide (s1.1<(List.length x.1:Int)))=true then
(if inB s1.1 (List.length x.1) then
(if inB s1.1 (List.length x.2.1) then
(if (!decide ((List.getD x.1 (Int.toNat s1.1) bE)=(List.getD x.2.1 (Int.toNat s1.1) bE)))=true then
 some (Step.ret (false,())) else
 some (Step.more (wI (s1.1+1),()))) else none) else none) else
 some (Step.done (())))) N (0,())).bind fun r2=>match r2 with
| .inl y3=>some (true,())
| .inr z4=>some (z4.1,()))
def l_eqValue (N:Nat) (x:(Int×Int×ByteArray×Unit)×(Int×Int×ByteArray×Unit)×Unit):Option (Bool×Unit) :=
(if (!decide (x.1.1=x.2.1.1))=true then
 some (false,()) else
(if (!decide (x.1.2.1=x.2.1.2.1))=true then
 some (false,()) else
(if (!decide (x.1.2.2.1=x.2.1.2.2.1))=true then
 some (false,()) else
 some (true,()))))
def l_eqValueS (N:Nat) (x:List (Int×Int×ByteArray×Unit)×List (Int×Int×ByteArray×Unit)×Unit):Option (Bool×Unit) :=
(if (!decide ((List.length x.1:Int)=(List.length x.2.1:Int)))=true then
 some (false,()) else
(iter (A:=Int×Unit) (B:=Unit) (C:=Bool×Unit) (fun s1 =>
(if (decide (s1.1<(List.length x.1:Int)))=true then
(if inB s1.1 (List.length x.1) then
(if inB s1.1 (List.length x.2.1) then
(l_eqValue N (List.getD x.1 (Int.toNat s1.1) (0,(0,(bE,()))),List.getD x.2.1 (Int.toNat s1.1) (0,(0,(bE,()))),())).bind fun r2 =>
(if (!r2.1)=true then
 some (Step.ret (false,())) else
 some (Step.more (wI (s1.1+1),()))) else none) else none) else
 some (Step.done (())))) N (0,())).bind fun r3=>match r3 with
| .inl y4=>some (true,())
| .inr z5=>some (z5.1,()))
def l_eqCell (N:Nat) (x:(Int×ByteArray×Int×Int×List (ByteArray)×List (Int×Int×ByteArray×Unit)×Unit)×(Int×ByteArray×Int×Int×List (ByteArray)×List (Int×Int×ByteArray×Unit)×Unit)×Unit):Option (Bool×Unit) :=
(if (!decide (x.1.1=x.2.1.1))=true then
 some (false,()) else
(if (!decide (x.1.2.1=x.2.1.2.1))=true then
 some (false,()) else
(if (!decide (x.1.2.2.1=x.2.1.2.2.1))=true then
 some (false,()) else
(if (!decide (x.1.2.2.2.1=x.2.1.2.2.2.1))=true then
 some (false,()) else
(l_eqStringS N (x.1.2.2.2.2.1,x.2.1.2.2.2.2.1,())).bind fun r1 =>
(if (!r1.1)=true then
 some (false,()) else
(l_eqValueS N (x.1.2.2.2.2.2.1,x.2.1.2.2.2.2.2.1,())).bind fun r2 =>
(if (!r2.1)=true then
 some (false,()) else
 some (true,())))))))
def l_eqCellS (N:Nat) (x:List (Int×ByteArray×Int×Int×List (ByteArray)×List (Int×Int×ByteArray×Unit)×Unit)×List (Int×ByteArray×Int×Int×List (ByteArray)×List (Int×Int×ByteArray×Unit)×Unit)×Unit):Option (Bool×Unit) :=
(if (!decide ((List.length x.1:Int)=(List.length x.2.1:Int)))=true then
 some (false,()) else
(iter (A:=Int×Unit) (B:=Unit) (C:=Bool×Unit) (fun s1 =>
(if (decide (s1.1<(List.length x.1:Int)))=true then
(if inB s1.1 (List.length x.1) then
(if inB s1.1 (List.length x.2.1) then
(l_eqCell N (List.getD x.1 (Int.toNat s1.1) (0,(bE,(0,(0,([],([],())))))),List.getD x.2.1 (Int.toNat s1.1) (0,(bE,(0,(0,([],([],())))))),())).bind fun r2 =>
(if (!r2.1)=true then
 some (Step.ret (false,())) else
 some (Step.more (wI (s1.1+1),()))) else none) else none) else
 some (Step.done (())))) N (0,())).bind fun r3=>match r3 with
| .inl y4=>some (true,())
| .inr z5=>some (z5.1,()))
def i_Dec (N:Nat) (x:Int×Unit):Option (ByteArray×Unit) :=
(g_strconv_Itoa N (x.1,())).bind fun r1 =>
 some (r1.1,())
end Go.Rf
namespace Go.Rf
def l_szType (N:Nat) (x:(ByteArray×Int×Unit)×Int×Unit):Option (Int×Unit) :=
(if (decide ((wI (x.2.1-(ByteArray.size x.1.1:Int)))<0))=true then
 some ((-1),()) else
 some (wI (x.2.1-(ByteArray.size x.1.1:Int)),()))
def l_szTypeS (N:Nat) (x:List (ByteArray×Int×Unit)×Int×Unit):Option (Int×Unit) :=
(if (decide ((wI (x.2.1-(List.length x.1:Int)))<0))=true then
 some ((-1),()) else
(iter (A:=Int×Int×Unit) (B:=Int×Unit) (C:=Int×Unit) (fun s1 =>
(if (decide (s1.2.1<(List.length x.1:Int)))=true then
(if inB s1.2.1 (List.length x.1) then
(l_szType N (List.getD x.1 (Int.toNat s1.2.1) (bE,(0,())),s1.1,())).bind fun r2 =>
(if (decide (r2.1<0))=true then
 some (Step.ret ((-1),())) else
 some (Step.more (r2.1,wI (s1.2.1+1),()))) else none) else
 some (Step.done (s1.1,())))) N (wI (x.2.1-(List.length x.1:Int)),0,())).bind fun r3=>match r3 with
| .inl y4=>some (y4.1,())
| .inr z5=>some (z5.1,()))
def l_szIntS (N:Nat) (x:List (Int)×Int×Unit):Option (Int×Unit) :=
(if (decide ((wI (x.2.1-(List.length x.1:Int)))<0))=true then
 some ((-1),()) else
 some (wI (x.2.1-(List.length x.1:Int)),()))
def l_szNode (N:Nat) (x:(Int×Int×ByteArray×List (ByteArray)×List (Int)×Unit)×Int×Unit):Option (Int×Unit) :=
(if (decide ((wI (x.2.1-(ByteArray.size x.1.2.2.1:Int)))<0))=true then
 some ((-1),()) else
(l_szStringS N (x.1.2.2.2.1,wI (x.2.1-(ByteArray.size x.1.2.2.1:Int)),())).bind fun r1 =>
(if (decide (r1.1<0))=true then
 some ((-1),()) else
(l_szIntS N (x.1.2.2.2.2.1,r1.1,())).bind fun r2 =>
(if (decide (r2.1<0))=true then
 some ((-1),()) else
 some (r2.1,()))))
def l_szNodeS (N:Nat) (x:List (Int×Int×ByteArray×List (ByteArray)×List (Int)×Unit)×Int×Unit):Option (Int×Unit) :=
(if (decide ((wI (x.2.1-(List.length x.1:Int)))<0))=true then
 some ((-1),()) else
(iter (A:=Int×Int×Unit) (B:=Int×Unit) (C:=Int×Unit) (fun s1 =>
(if (decide (s1.2.1<(List.length x.1:Int)))=true then
(if inB s1.2.1 (List.length x.1) then
(l_szNode N (List.getD x.1 (Int.toNat s1.2.1) (0,(0,(bE,([],([],()))))),s1.1,())).bind fun r2 =>
(if (decide (r2.1<0))=true then
 some (Step.ret ((-1),())) else
 some (Step.more (r2.1,wI (s1.2.1+1),()))) else none) else
 some (Step.done (s1.1,())))) N (wI (x.2.1-(List.length x.1:Int)),0,())).bind fun r3=>match r3 with
| .inl y4=>some (y4.1,())
| .inr z5=>some (z5.1,()))
def l_szProg (N:Nat) (x:(List (Int×Int×ByteArray×List (ByteArray)×List (Int)×Unit)×Int×Unit)×Int×Unit):Option (Int×Unit) :=
(l_szNodeS N (x.1.1,x.2.1,())).bind fun r1 =>
(if (decide (r1.1<0))=true then
 some ((-1),()) else
 some (r1.1,()))
def l_szDef (N:Nat) (x:(ByteArray×(List (Int×Int×ByteArray×List (ByteArray)×List (Int)×Unit)×Int×Unit)×Unit)×Int×Unit):Option (Int×Unit) :=
(if (decide ((wI (x.2.1-(ByteArray.size x.1.1:Int)))<0))=true then
 some ((-1),()) else
(l_szProg N (x.1.2.1,wI (x.2.1-(ByteArray.size x.1.1:Int)),())).bind fun r1 =>
(if (decide (r1.1<0))=true then
 some ((-1),()) else
 some (r1.1,())))
def l_szDefS (N:Nat) (x:List (ByteArray×(List (Int×Int×ByteArray×List (ByteArray)×List (Int)×Unit)×Int×Unit)×Unit)×Int×Unit):Option (Int×Unit) :=
(if (decide ((wI (x.2.1-(List.length x.1:Int)))<0))=true then
 some ((-1),()) else
(iter (A:=Int×Int×Unit) (B:=Int×Unit) (C:=Int×Unit) (fun s1 =>
(if (decide (s1.2.1<(List.length x.1:Int)))=true then
(if inB s1.2.1 (List.length x.1) then
(l_szDef N (List.getD x.1 (Int.toNat s1.2.1) (bE,(([],(0,())),())),s1.1,())).bind fun r2 =>
(if (decide (r2.1<0))=true then
 some (Step.ret ((-1),())) else
 some (Step.more (r2.1,wI (s1.2.1+1),()))) else none) else
 some (Step.done (s1.1,())))) N (wI (x.2.1-(List.length x.1:Int)),0,())).bind fun r3=>match r3 with
| .inl y4=>some (y4.1,())
| .inr z5=>some (z5.1,()))
def l_szSrc (N:Nat) (x:(ByteArray×List (ByteArray)×List (ByteArray)×List (ByteArray×Int×Unit)×List (ByteArray×(List (Int×Int×ByteArray×List (ByteArray)×List (Int)×Unit)×Int×Unit)×Unit)×List (ByteArray×(List (Int×Int×ByteArray×List (ByteArray)×List (Int)×Unit)×Int×Unit)×Unit)×Unit)×Int×Unit):Option (Int×Unit) :=
(if (decide ((wI (x.2.1-(ByteArray.size x.1.1:Int)))<0))=true then
 some ((-1),()) else
(l_szStringS N (x.1.2.1,wI (x.2.1-(ByteArray.size x.1.1:Int)),())).bind fun r1 =>
(if (decide (r1.1<0))=true then
 some ((-1),()) else
(l_szStringS N (x.1.2.2.1,r1.1,())).bind fun r2 =>
(if (decide (r2.1<0))=true then
 some ((-1),()) else
(l_szTypeS N (x.1.2.2.2.1,r2.1,())).bind fun r3 =>
(if (decide (r3.1<0))=true then
 some ((-1),()) else
(l_szDefS N (x.1.2.2.2.2.1,r3.1,())).bind fun r4 =>
(if (decide (r4.1<0))=true then
 some ((-1),()) else
(l_szDefS N (x.1.2.2.2.2.2.1,r4.1,())).bind fun r5 =>
(if (decide (r5.1<0))=true then
 some ((-1),()) else
 some (r5.1,())))))))
def s_l11DefNames (N:Nat) (x:List (ByteArray×(List (Int×Int×ByteArray×List (ByteArray)×List (Int)×Unit)×Int×Unit)×Unit)×Unit):Option (List (ByteArray)×Unit) :=
(iter (A:=List (ByteArray)×Int×Unit) (B:=List (ByteArray)×Unit) (C:=List (ByteArray)×Unit) (fun s1 =>
(if (decide (s1.2.1<(List.length x.1:Int)))=true then
(if inB s1.2.1 (List.length x.1) then
(if List.length s1.1+List.length ([(List.getD x.1 (Int.toNat s1.2.1) (bE,(([],(0,())),()))).1]:List (ByteArray))≤4294967296 then
 some (Step.more (s1.1++([(List.getD x.1 (Int.toNat s1.2.1) (bE,(([],(0,())),()))).1]:List (ByteArray)),wI (s1.2.1+1),())) else none) else none) else
 some (Step.done (s1.1,())))) N ([],0,())).bind fun r2=>match r2 with
| .inl y3=>some (y3.1,())
| .inr z4=>some (z4.1,())
def s_l11Many (N:Nat) (x:(ByteArray×List (ByteArray)×List (ByteArray)×List (ByteArray×Int×Unit)×List (ByteArray×(List (Int×Int×ByteArray×List (ByteArray)×List (Int)×Unit)×Int×Unit)×Unit)×List (ByteArray×(List (Int×Int×ByteArray×List (ByteArray)×List (Int)×Unit)×Int×Unit)×Unit)×Unit)×Unit):Option (Bool×Unit) :=
((if (decide ((List.length x.1.2.1:Int)>30))=true then
 some true else some (decide ((List.length x.1.2.2.1:Int)>30)))).bind fun b1 =>
((if b1=true then
 some true else some (decide ((List.length x.1.2.2.2.2.1:Int)>30)))).bind fun b2 =>
((if b2=true then
 some true else some (decide ((List.length x.1.2.2.2.1:Int)>8)))).bind fun b3 =>
((if b3=true then
 some true else some (decide ((List.length x.1.2.2.2.2.2.1:Int)>8)))).bind fun b4 =>
 some (b4,())
def s_l11TypeNames (N:Nat) (x:List (ByteArray×Int×Unit)×Unit):Option (List (ByteArray)×Unit) :=
(iter (A:=List (ByteArray)×Int×Unit) (B:=List (ByteArray)×Unit) (C:=List (ByteArray)×Unit) (fun s1 =>
(if (decide (s1.2.1<(List.length x.1:Int)))=true then
(if inB s1.2.1 (List.length x.1) then
(if List.length s1.1+List.length ([(List.getD x.1 (Int.toNat s1.2.1) (bE,(0,()))).1]:List (ByteArray))≤4294967296 then
 some (Step.more (s1.1++([(List.getD x.1 (Int.toNat s1.2.1) (bE,(0,()))).1]:List (ByteArray)),wI (s1.2.1+1),())) else none) else none) else
 some (Step.done (s1.1,())))) N ([],0,())).bind fun r2=>match r2 with
| .inl y3=>some (y3.1,())
| .inr z4=>some (z4.1,())
def s_l11Twice (N:Nat) (x:List (ByteArray)×Unit):Option (Bool×Unit) :=
(iter (A:=Int×Unit) (B:=Unit) (C:=Bool×Unit) (fun s1 =>
(if (decide (s1.1<(List.length x.1:Int)))=true then
(if cutB 0 s1.1 (List.length x.1) then
(if inB s1.1 (List.length x.1) then
(s_l3In N (List.drop (Int.toNat 0) (List.take (Int.toNat s1.1) x.1),List.getD x.1 (Int.toNat s1.1) bE,())).bind fun r2 =>
(if r2.1=true then
 some (Step.ret (true,())) else
 some (Step.more (wI (s1.1+1),()))) else none) else none) else
 some (Step.done (())))) N (0,())).bind fun r3=>match r3 with
| .inl y4=>some (false,())
| .inr z5=>some (z5.1,())
def s_l11Dup (N:Nat) (x:(ByteArray×List (ByteArray)×List (ByteArray)×List (ByteArray×Int×Unit)×List (ByteArray×(List (Int×Int×ByteArray×List (ByteArray)×List (Int)×Unit)×Int×Unit)×Unit)×List (ByteArray×(List (Int×Int×ByteArray×List (ByteArray)×List (Int)×Unit)×Int×Unit)×Unit)×Unit)×Unit):Option (Bool×Unit) :=
(s_l11Twice N (x.1.2.1,())).bind fun r1 =>
((if r1.1=true then
 some true else (s_l11Twice N (x.1.2.2.1,())).bind fun r2 =>
 some r2.1)).bind fun b3 =>
(if b3=true then
(some true).bind fun b5 =>
 some (b5,()) else (s_l11TypeNames N (x.1.2.2.2.1,())).bind fun r6 =>
(s_l11Twice N (r6.1,())).bind fun r7 =>
(if r7.1=true then
(some true).bind fun b9 =>
 some (b9,()) else (s_l11DefNames N (x.1.2.2.2.2.1,())).bind fun r10 =>
(s_l11Twice N (r10.1,())).bind fun r11 =>
(if r11.1=true then
(some true).bind fun b13 =>
 some (b13,()) else (s_l11DefNames N (x.1.2.2.2.2.2.1,())).bind fun r14 =>
(s_l11Twice N (r14.1,())).bind fun r15 =>
((if r15.1=true then
 some true else (s_l3In N (x.1.2.1,x.1.1,())).bind fun r16 =>
 some r16.1)).bind fun b17 =>
 some (b17,()))))
def s_l11Lacks (N:Nat) (x:(ByteArray×List (ByteArray)×List (ByteArray)×List (ByteArray×Int×Unit)×List (ByteArray×(List (Int×Int×ByteArray×List (ByteArray)×List (Int)×Unit)×Int×Unit)×Unit)×List (ByteArray×(List (Int×Int×ByteArray×List (ByteArray)×List (Int)×Unit)×Int×Unit)×Unit)×Unit)×Unit):Option (Bool×Unit) :=
(iter (A:=(ByteArray×List (ByteArray)×List (ByteArray)×List (ByteArray×Int×Unit)×List (ByteArray×(List (Int×Int×ByteArray×List (ByteArray)×List (Int)×Unit)×Int×Unit)×Unit)×List (ByteArray×(List (Int×Int×ByteArray×List (ByteArray)×List (Int)×Unit)×Int×Unit)×Unit)×Unit)×Int×Unit) (B:=(ByteArray×List (ByteArray)×List (ByteArray)×List (ByteArray×Int×Unit)×List (ByteArray×(List (Int×Int×ByteArray×List (ByteArray)×List (Int)×Unit)×Int×Unit)×Unit)×List (ByteArray×(List (Int×Int×ByteArray×List (ByteArray)×List (Int)×Unit)×Int×Unit)×Unit)×Unit)×Unit) (C:=Bool×Unit) (fun s1 =>
(if (decide (s1.2.1<(List.length s1.1.2.2.1:Int)))=true then
(if inB s1.2.1 (List.length s1.1.2.2.1) then
(s_l11DefNames N (s1.1.2.2.2.2.1,())).bind fun r2 =>
(s_l3In N (r2.1,List.getD s1.1.2.2.1 (Int.toNat s1.2.1) bE,())).bind fun r3 =>
(if (!r3.1)=true then
 some (Step.ret (true,())) else
 some (Step.more (s1.1,wI (s1.2.1+1),()))) else none) else
 some (Step.done (s1.1,())))) N (x.1,0,())).bind fun r4=>match r4 with
| .inl y5=>((iter (A:=(ByteArray×List (ByteArray)×List (ByteArray)×List (ByteArray×Int×Unit)×List (ByteArray×(List (Int×Int×ByteArray×List (ByteArray)×List (Int)×Unit)×Int×Unit)×Unit)×List (ByteArray×(List (Int×Int×ByteArray×List (ByteArray)×List (Int)×Unit)×Int×Unit)×Unit)×Unit)×Int×Unit) (B:=Unit) (C:=Bool×Unit) (fun s7 =>
(if (decide (s7.2.1<(List.length s7.1.2.2.2.2.2.1:Int)))=true then
(if inB s7.2.1 (List.length s7.1.2.2.2.2.2.1) then
(s_l11TypeNames N (s7.1.2.2.2.1,())).bind fun r8 =>
(s_l3In N (r8.1,(List.getD s7.1.2.2.2.2.2.1 (Int.toNat s7.2.1) (bE,(([],(0,())),()))).1,())).bind fun r9 =>
(if (!r9.1)=true then
 some (Step.ret (true,())) else
 some (Step.more (s7.1,wI (s7.2.1+1),()))) else none) else
 some (Step.done (())))) N (y5.1,0,())).bind fun r10=>match r10 with
| .inl y11=>some (false,())
| .inr z12=>some (z12.1,()))
| .inr z6=>some (z6.1,())
def s_l11All (N:Nat) (x:List (ByteArray)×Unit):Option (Bool×Unit) :=
(iter (A:=Int×Unit) (B:=Unit) (C:=Bool×Unit) (fun s1 =>
(if (decide (s1.1<(List.length x.1:Int)))=true then
(if inB s1.1 (List.length x.1) then
(s_IsName N (List.getD x.1 (Int.toNat s1.1) bE,())).bind fun r2 =>
(if (!r2.1)=true then
 some (Step.ret (false,())) else
 some (Step.more (wI (s1.1+1),()))) else none) else
 some (Step.done (())))) N (0,())).bind fun r3=>match r3 with
| .inl y4=>some (true,())
| .inr z5=>some (z5.1,())
def s_l3Names (N:Nat) (x:List (ByteArray)×Int×Unit):Option (Bool×Unit) :=
(if (decide ((List.length x.1:Int)>x.2.1))=true then
 some (false,()) else
(iter (A:=Int×Unit) (B:=Unit) (C:=Bool×Unit) (fun s1 =>
(if (decide (s1.1<(List.length x.1:Int)))=true then
(if inB s1.1 (List.length x.1) then
(s_IsName N (List.getD x.1 (Int.toNat s1.1) bE,())).bind fun r2 =>
(if (!r2.1)=true then
 some (Step.ret (false,())) else (if cutB 0 s1.1 (List.length x.1) then
(if inB s1.1 (List.length x.1) then
(s_l3In N (List.drop (Int.toNat 0) (List.take (Int.toNat s1.1) x.1),List.getD x.1 (Int.toNat s1.1) bE,())).bind fun r3 =>
(if r3.1=true then
 some (Step.ret (false,())) else
 some (Step.more (wI (s1.1+1),()))) else none) else none)) else none) else
 some (Step.done (())))) N (0,())).bind fun r4=>match r4 with
| .inl y5=>some (true,())
| .inr z6=>some (z6.1,()))
def s_l3Prim (N:Nat) (x:(Int×Int×ByteArray×List (ByteArray)×List (Int)×Unit)×Unit):Option (Bool×Unit) :=
(if (decide (x.1.2.2.1=(ByteArray.mk #[109,97,107,101])))=true then
((if (decide ((List.length x.1.2.2.2.1:Int)=1))=true then
(if inB 0 (List.length x.1.2.2.2.1) then
(s_IsName N (List.getD x.1.2.2.2.1 (Int.toNat 0) bE,())).bind fun r1 =>
 some r1.1 else none) else some false)).bind fun b2 =>
((if b2=true then
 some (decide ((List.length x.1.2.2.2.2.1:Int)≤8)) else some false)).bind fun b3 =>
((if b3=true then
 some (decide (x.1.2.1=0)) else some false)).bind fun b4 =>
 some (b4,()) else
(if (decide (x.1.2.2.1=(ByteArray.mk #[102,105,101,108,100])))=true then
((if (decide ((List.length x.1.2.2.2.1:Int)=1))=true then
(if inB 0 (List.length x.1.2.2.2.1) then
(s_IsName N (List.getD x.1.2.2.2.1 (Int.toNat 0) bE,())).bind fun r5 =>
 some r5.1 else none) else some false)).bind fun b6 =>
((if b6=true then
 some (decide ((List.length x.1.2.2.2.2.1:Int)=1)) else some false)).bind fun b7 =>
((if b7=true then
(s_l1In N (x.1.2.1,0,7,())).bind fun r8 =>
 some r8.1 else some false)).bind fun b9 =>
 some (b9,()) else
(if (decide (x.1.2.2.1=(ByteArray.mk #[105,115])))=true then
((if (decide ((List.length x.1.2.2.2.1:Int)=1))=true then
(if inB 0 (List.length x.1.2.2.2.1) then
(s_IsName N (List.getD x.1.2.2.2.1 (Int.toNat 0) bE,())).bind fun r10 =>
 some r10.1 else none) else some false)).bind fun b11 =>
((if b11=true then
 some (decide ((List.length x.1.2.2.2.2.1:Int)=1)) else some false)).bind fun b12 =>
((if b12=true then
 some (decide (x.1.2.1=0)) else some false)).bind fun b13 =>
 some (b13,()) else
((if (decide ((List.length x.1.2.2.2.1:Int)=0))=true then
(s_Arity N (x.1.2.2.1,())).bind fun r14 =>
 some (decide (r14.1=(List.length x.1.2.2.2.2.1:Int))) else some false)).bind fun b15 =>
((if b15=true then
 some (decide (x.1.2.1=0)) else some false)).bind fun b16 =>
 some (b16,()))))
def s_l3Node (N:Nat) (x:(Int×Int×ByteArray×List (ByteArray)×List (Int)×Unit)×Unit):Option (Bool×Unit) :=
(if (decide (x.1.1=1))=true then
((if (decide ((List.length x.1.2.2.2.1:Int)=0))=true then
 some (decide ((List.length x.1.2.2.2.2.1:Int)=0)) else some false)).bind fun b1 =>
((if b1=true then
 some (decide (x.1.2.2.1=(ByteArray.mk #[]))) else some false)).bind fun b2 =>
((if b2=true then
(s_l1In N (x.1.2.1,(-1000000),1000000,())).bind fun r3 =>
 some r3.1 else some false)).bind fun b4 =>
 some (b4,()) else
(if (decide (x.1.1=2))=true then
((if (decide ((List.length x.1.2.2.2.1:Int)=0))=true then
 some (decide ((List.length x.1.2.2.2.2.1:Int)=0)) else some false)).bind fun b5 =>
((if b5=true then
 some (decide (x.1.2.2.1=(ByteArray.mk #[]))) else some false)).bind fun b6 =>
((if b6=true then
(s_l1In N (x.1.2.1,0,1,())).bind fun r7 =>
 some r7.1 else some false)).bind fun b8 =>
 some (b8,()) else
(if (decide (x.1.1=3))=true then
((if (decide ((List.length x.1.2.2.2.1:Int)=0))=true then
 some (decide ((List.length x.1.2.2.2.2.1:Int)=0)) else some false)).bind fun b9 =>
((if b9=true then
 some (decide (x.1.2.2.1=(ByteArray.mk #[]))) else some false)).bind fun b10 =>
((if b10=true then
 some (decide (x.1.2.1=0)) else some false)).bind fun b11 =>
 some (b11,()) else
(if (decide (x.1.1=4))=true then
((if (decide ((List.length x.1.2.2.2.1:Int)=0))=true then
 some (decide ((List.length x.1.2.2.2.2.1:Int)=0)) else some false)).bind fun b12 =>
((if b12=true then
(s_l2Sym N (x.1.2.2.1,())).bind fun r13 =>
 some r13.1 else some false)).bind fun b14 =>
((if b14=true then
 some (decide (x.1.2.1=0)) else some false)).bind fun b15 =>
 some (b15,()) else
(if (decide (x.1.1=5))=true then
((if (decide ((List.length x.1.2.2.2.1:Int)=0))=true then
 some (decide ((List.length x.1.2.2.2.2.1:Int)=0)) else some false)).bind fun b16 =>
((if b16=true then
(s_IsName N (x.1.2.2.1,())).bind fun r17 =>
 some r17.1 else some false)).bind fun b18 =>
((if b18=true then
 some (decide (x.1.2.1=0)) else some false)).bind fun b19 =>
 some (b19,()) else
(if (decide (x.1.1=6))=true then
((if (decide ((List.length x.1.2.2.2.1:Int)=0))=true then
 some (decide ((List.length x.1.2.2.2.2.1:Int)=3)) else some false)).bind fun b20 =>
((if b20=true then
 some (decide (x.1.2.2.1=(ByteArray.mk #[]))) else some false)).bind fun b21 =>
((if b21=true then
 some (decide (x.1.2.1=0)) else some false)).bind fun b22 =>
 some (b22,()) else
(if (decide (x.1.1=7))=true then
(s_l3Names N (x.1.2.2.2.1,8,())).bind fun r23 =>
((if r23.1=true then
 some (decide ((List.length x.1.2.2.2.2.1:Int)=1)) else some false)).bind fun b24 =>
((if b24=true then
 some (decide (x.1.2.2.1=(ByteArray.mk #[]))) else some false)).bind fun b25 =>
((if b25=true then
 some (decide (x.1.2.1=0)) else some false)).bind fun b26 =>
 some (b26,()) else
(if (decide (x.1.1=8))=true then
((if (decide ((List.length x.1.2.2.2.1:Int)=0))=true then
(s_l1In N ((List.length x.1.2.2.2.2.1:Int),1,9,())).bind fun r27 =>
 some r27.1 else some false)).bind fun b28 =>
((if b28=true then
 some (decide (x.1.2.2.1=(ByteArray.mk #[]))) else some false)).bind fun b29 =>
((if b29=true then
 some (decide (x.1.2.1=0)) else some false)).bind fun b30 =>
 some (b30,()) else
(if (decide (x.1.1=10))=true then
((if (decide ((List.length x.1.2.2.2.1:Int)=0))=true then
 some (decide ((List.length x.1.2.2.2.2.1:Int)=1)) else some false)).bind fun b31 =>
((if b31=true then
(s_IsName N (x.1.2.2.1,())).bind fun r32 =>
 some r32.1 else some false)).bind fun b33 =>
((if b33=true then
 some (decide (x.1.2.1=0)) else some false)).bind fun b34 =>
 some (b34,()) else
(if (decide (x.1.1=11))=true then
((if (decide ((List.length x.1.2.2.2.1:Int)=0))=true then
 some (decide ((List.length x.1.2.2.2.2.1:Int)≥2)) else some false)).bind fun b35 =>
((if b35=true then
 some (decide (x.1.2.2.1=(ByteArray.mk #[]))) else some false)).bind fun b36 =>
((if b36=true then
 some (decide (x.1.2.1=0)) else some false)).bind fun b37 =>
 some (b37,()) else
(if (decide (x.1.1=9))=true then
(s_l3Prim N (x.1,())).bind fun r38 =>
 some (r38.1,()) else
 some (false,()))))))))))))
def s_ProgOk (N:Nat) (x:(List (Int×Int×ByteArray×List (ByteArray)×List (Int)×Unit)×Int×Unit)×Unit):Option (Bool×Unit) :=
(s_l1In N ((List.length x.1.1:Int),1,400,())).bind fun r1 =>
((if (!r1.1)=true then
 some true else some (!decide (x.1.2.1=(wI ((List.length x.1.1:Int)-1)))))).bind fun b2 =>
(if b2=true then
 some (false,()) else
(if mkB (List.length x.1.1:Int) (List.length x.1.1:Int) then
(iter (A:=(List (Int×Int×ByteArray×List (ByteArray)×List (Int)×Unit)×Int×Unit)×List (Int)×Int×Unit) (B:=List (Int)×Unit) (C:=Bool×Unit) (fun s3 =>
(if (decide (s3.2.2.1<(List.length s3.1.1:Int)))=true then
(if inB s3.2.2.1 (List.length s3.1.1) then
(s_l3Node N (List.getD s3.1.1 (Int.toNat s3.2.2.1) (0,(0,(bE,([],([],()))))),())).bind fun r4 =>
(if (!r4.1)=true then
 some (Step.ret (false,())) else
(iter (A:=(List (Int×Int×ByteArray×List (ByteArray)×List (Int)×Unit)×Int×Unit)×List (Int)×Int×Unit) (B:=(List (Int×Int×ByteArray×List (ByteArray)×List (Int)×Unit)×Int×Unit)×List (Int)×Unit) (C:=Bool×Unit) (fun s5 =>
(if inB s3.2.2.1 (List.length s5.1.1) then
(if (decide (s5.2.2.1<(List.length ((((((List.getD s5.1.1 (Int.toNat s3.2.2.1) (0,(0,(bE,([],([],())))))).2).2).2).2).1):Int)))=true then
(if inB s3.2.2.1 (List.length s5.1.1) then
(if inB s5.2.2.1 (List.length ((((((List.getD s5.1.1 (Int.toNat s3.2.2.1) (0,(0,(bE,([],([],())))))).2).2).2).2).1)) then
((if (decide ((List.getD ((((((List.getD s5.1.1 (Int.toNat s3.2.2.1) (0,(0,(bE,([],([],())))))).2).2).2).2).1) (Int.toNat s5.2.2.1) 0)<0))=true then
 some true else some (decide ((List.getD ((((((List.getD s5.1.1 (Int.toNat s3.2.2.1) (0,(0,(bE,([],([],())))))).2).2).2).2).1) (Int.toNat s5.2.2.1) 0)≥s3.2.2.1)))).bind fun b6 =>
(if b6=true then
 some (Step.ret (false,())) else
(if inB (List.getD ((((((List.getD s5.1.1 (Int.toNat s3.2.2.1) (0,(0,(bE,([],([],())))))).2).2).2).2).1) (Int.toNat s5.2.2.1) 0) (List.length s5.2.1) then
(if inB (List.getD ((((((List.getD s5.1.1 (Int.toNat s3.2.2.1) (0,(0,(bE,([],([],())))))).2).2).2).2).1) (Int.toNat s5.2.2.1) 0) (List.length s5.2.1) then
 some (Step.more (s5.1,List.set s5.2.1 (Int.toNat (List.getD ((((((List.getD s5.1.1 (Int.toNat s3.2.2.1) (0,(0,(bE,([],([],())))))).2).2).2).2).1) (Int.toNat s5.2.2.1) 0)) (wI ((List.getD s5.2.1 (Int.toNat (List.getD ((((((List.getD s5.1.1 (Int.toNat s3.2.2.1) (0,(0,(bE,([],([],())))))).2).2).2).2).1) (Int.toNat s5.2.2.1) 0)) 0)+1)),wI (s5.2.2.1+1),())) else none) else none)) else none) else none) else
 some (Step.done (s5.1,s5.2.1,()))) else none)) N (s3.1,s3.2.1,0,())).bind fun r7=>match r7 with
| .inl y8=>some (Step.more (y8.1,y8.2.1,wI (s3.2.2.1+1),()))
| .inr z9=>some (Step.ret (z9.1,()))) else none) else
 some (Step.done (s3.2.1,())))) N (x.1,List.replicate (Int.toNat (List.length x.1.1:Int)) 0,0,())).bind fun r10=>match r10 with
| .inl y11=>((iter (A:=List (Int)×Int×Unit) (B:=Unit) (C:=Bool×Unit) (fun s13 =>
(if (decide (s13.2.1<(wI ((List.length s13.1:Int)-1))))=true then
(if inB s13.2.1 (List.length s13.1) then
(if (!decide ((List.getD s13.1 (Int.toNat s13.2.1) 0)=1))=true then
 some (Step.ret (false,())) else
 some (Step.more (s13.1,wI (s13.2.1+1),()))) else none) else
 some (Step.done (())))) N (y11.1,0,())).bind fun r14=>match r14 with
| .inl y15=>some (true,())
| .inr z16=>some (z16.1,()))
| .inr z12=>some (z12.1,()) else none))
def s_SrcOk (N:Nat) (x:(ByteArray×List (ByteArray)×List (ByteArray)×List (ByteArray×Int×Unit)×List (ByteArray×(List (Int×Int×ByteArray×List (ByteArray)×List (Int)×Unit)×Int×Unit)×Unit)×List (ByteArray×(List (Int×Int×ByteArray×List (ByteArray)×List (Int)×Unit)×Int×Unit)×Unit)×Unit)×Unit):Option (Bool×Unit) :=
(s_IsName N (x.1.1,())).bind fun r1 =>
((if (!r1.1)=true then
 some true else (s_l11Many N (x.1,())).bind fun r2 =>
 some r2.1)).bind fun b3 =>
((if b3=true then
 some true else (s_l11Dup N (x.1,())).bind fun r4 =>
 some r4.1)).bind fun b5 =>
((if b5=true then
 some true else (s_l11Lacks N (x.1,())).bind fun r6 =>
 some r6.1)).bind fun b7 =>
((if b7=true then
 some true else (s_l11All N (x.1.2.1,())).bind fun r8 =>
 some (!r8.1))).bind fun b9 =>
((if b9=true then
 some true else (s_l11All N (x.1.2.2.1,())).bind fun r10 =>
 some (!r10.1))).bind fun b11 =>
(if b11=true then
 some (false,()) else (s_l11TypeNames N (x.1.2.2.2.1,())).bind fun r12 =>
(s_l11All N (r12.1,())).bind fun r13 =>
(if (!r13.1)=true then
 some (false,()) else (s_l11DefNames N (x.1.2.2.2.2.1,())).bind fun r14 =>
(s_l11All N (r14.1,())).bind fun r15 =>
(if (!r15.1)=true then
 some (false,()) else (s_l11DefNames N (x.1.2.2.2.2.2.1,())).bind fun r16 =>
(s_l11All N (r16.1,())).bind fun r17 =>
(if (!r17.1)=true then
 some (false,()) else
(iter (A:=(ByteArray×List (ByteArray)×List (ByteArray)×List (ByteArray×Int×Unit)×List (ByteArray×(List (Int×Int×ByteArray×List (ByteArray)×List (Int)×Unit)×Int×Unit)×Unit)×List (ByteArray×(List (Int×Int×ByteArray×List (ByteArray)×List (Int)×Unit)×Int×Unit)×Unit)×Unit)×Int×Unit) (B:=(ByteArray×List (ByteArray)×List (ByteArray)×List (ByteArray×Int×Unit)×List (ByteArray×(List (Int×Int×ByteArray×List (ByteArray)×List (Int)×Unit)×Int×Unit)×Unit)×List (ByteArray×(List (Int×Int×ByteArray×List (ByteArray)×List (Int)×Unit)×Int×Unit)×Unit)×Unit)×Unit) (C:=Bool×Unit) (fun s18 =>
(if (decide (s18.2.1<(List.length s18.1.2.2.2.1:Int)))=true then
(if inB s18.2.1 (List.length s18.1.2.2.2.1) then
(s_l1In N (((List.getD s18.1.2.2.2.1 (Int.toNat s18.2.1) (bE,(0,()))).2).1,0,8,())).bind fun r19 =>
(if (!r19.1)=true then
 some (Step.ret (false,())) else
 some (Step.more (s18.1,wI (s18.2.1+1),()))) else none) else
 some (Step.done (s18.1,())))) N (x.1,0,())).bind fun r20=>match r20 with
| .inl y21=>((iter (A:=(ByteArray×List (ByteArray)×List (ByteArray)×List (ByteArray×Int×Unit)×List (ByteArray×(List (Int×Int×ByteArray×List (ByteArray)×List (Int)×Unit)×Int×Unit)×Unit)×List (ByteArray×(List (Int×Int×ByteArray×List (ByteArray)×List (Int)×Unit)×Int×Unit)×Unit)×Unit)×Int×Unit) (B:=(ByteArray×List (ByteArray)×List (ByteArray)×List (ByteArray×Int×Unit)×List (ByteArray×(List (Int×Int×ByteArray×List (ByteArray)×List (Int)×Unit)×Int×Unit)×Unit)×List (ByteArray×(List (Int×Int×ByteArray×List (ByteArray)×List (Int)×Unit)×Int×Unit)×Unit)×Unit)×Unit) (C:=Bool×Unit) (fun s23 =>
(if (decide (s23.2.1<(List.length s23.1.2.2.2.2.1:Int)))=true then
(if inB s23.2.1 (List.length s23.1.2.2.2.2.1) then
(s_ProgOk N (((List.getD s23.1.2.2.2.2.1 (Int.toNat s23.2.1) (bE,(([],(0,())),()))).2).1,())).bind fun r24 =>
(if (!r24.1)=true then
 some (Step.ret (false,())) else
 some (Step.more (s23.1,wI (s23.2.1+1),()))) else none) else
 some (Step.done (s23.1,())))) N (y21.1,0,())).bind fun r25=>match r25 with
| .inl y26=>((iter (A:=(ByteArray×List (ByteArray)×List (ByteArray)×List (ByteArray×Int×Unit)×List (ByteArray×(List (Int×Int×ByteArray×List (ByteArray)×List (Int)×Unit)×Int×Unit)×Unit)×List (ByteArray×(List (Int×Int×ByteArray×List (ByteArray)×List (Int)×Unit)×Int×Unit)×Unit)×Unit)×Int×Unit) (B:=Unit) (C:=Bool×Unit) (fun s28 =>
(if (decide (s28.2.1<(List.length s28.1.2.2.2.2.2.1:Int)))=true then
(if inB s28.2.1 (List.length s28.1.2.2.2.2.2.1) then
(s_ProgOk N (((List.getD s28.1.2.2.2.2.2.1 (Int.toNat s28.2.1) (bE,(([],(0,())),()))).2).1,())).bind fun r29 =>
(if (!r29.1)=true then
 some (Step.ret (false,())) else
 some (Step.more (s28.1,wI (s28.2.1+1),()))) else none) else
 some (Step.done (())))) N (y26.1,0,())).bind fun r30=>match r30 with
| .inl y31=>some (true,())
| .inr z32=>some (z32.1,()))
| .inr z27=>some (z27.1,()))
| .inr z22=>some (z22.1,())))))
def l_toType (N:Nat) (x:(ByteArray×Int×Unit)×Unit):Option ((ByteArray×Int×Unit)×Unit) :=
 some ((x.1.1,(x.1.2.1,())),())
def l_toTypeS (N:Nat) (x:List (ByteArray×Int×Unit)×Unit):Option (List (ByteArray×Int×Unit)×Unit) :=
(if mkB (List.length x.1:Int) (List.length x.1:Int) then
(iter (A:=List (ByteArray×Int×Unit)×Int×Unit) (B:=List (ByteArray×Int×Unit)×Unit) (C:=List (ByteArray×Int×Unit)×Unit) (fun s1 =>
(if (decide (s1.2.1<(List.length x.1:Int)))=true then
(if inB s1.2.1 (List.length x.1) then
(l_toType N (List.getD x.1 (Int.toNat s1.2.1) (bE,(0,())),())).bind fun r2 =>
(if inB s1.2.1 (List.length s1.1) then
 some (Step.more (List.set s1.1 (Int.toNat s1.2.1) r2.1,wI (s1.2.1+1),())) else none) else none) else
 some (Step.done (s1.1,())))) N (List.replicate (Int.toNat (List.length x.1:Int)) (bE,(0,())),0,())).bind fun r3=>match r3 with
| .inl y4=>some (y4.1,())
| .inr z5=>some (z5.1,()) else none)
def l_toIntS (N:Nat) (x:List (Int)×Unit):Option (List (Int)×Unit) :=
(if mkB (List.length x.1:Int) (List.length x.1:Int) then
(iter (A:=List (Int)×Int×Unit) (B:=List (Int)×Unit) (C:=List (Int)×Unit) (fun s1 =>
(if (decide (s1.2.1<(List.length x.1:Int)))=true then
(if inB s1.2.1 (List.length x.1) then
(if inB s1.2.1 (List.length s1.1) then
 some (Step.more (List.set s1.1 (Int.toNat s1.2.1) (List.getD x.1 (Int.toNat s1.2.1) 0),wI (s1.2.1+1),())) else none) else none) else
 some (Step.done (s1.1,())))) N (List.replicate (Int.toNat (List.length x.1:Int)) 0,0,())).bind fun r2=>match r2 with
| .inl y3=>some (y3.1,())
| .inr z4=>some (z4.1,()) else none)
def l_toNode (N:Nat) (x:(Int×Int×ByteArray×List (ByteArray)×List (Int)×Unit)×Unit):Option ((Int×Int×ByteArray×List (ByteArray)×List (Int)×Unit)×Unit) :=
(l_toStringS N (x.1.2.2.2.1,())).bind fun r1 =>
(l_toIntS N (x.1.2.2.2.2.1,())).bind fun r2 =>
 some ((x.1.1,(x.1.2.1,(x.1.2.2.1,(r1.1,(r2.1,()))))),())
def l_toNodeS (N:Nat) (x:List (Int×Int×ByteArray×List (ByteArray)×List (Int)×Unit)×Unit):Option (List (Int×Int×ByteArray×List (ByteArray)×List (Int)×Unit)×Unit) :=
(if mkB (List.length x.1:Int) (List.length x.1:Int) then
(iter (A:=List (Int×Int×ByteArray×List (ByteArray)×List (Int)×Unit)×Int×Unit) (B:=List (Int×Int×ByteArray×List (ByteArray)×List (Int)×Unit)×Unit) (C:=List (Int×Int×ByteArray×List (ByteArray)×List (Int)×Unit)×Unit) (fun s1 =>
(if (decide (s1.2.1<(List.length x.1:Int)))=true then
(if inB s1.2.1 (List.length x.1) then
(l_toNode N (List.getD x.1 (Int.toNat s1.2.1) (0,(0,(bE,([],([],()))))),())).bind fun r2 =>
(if inB s1.2.1 (List.length s1.1) then
 some (Step.more (List.set s1.1 (Int.toNat s1.2.1) r2.1,wI (s1.2.1+1),())) else none) else none) else
 some (Step.done (s1.1,())))) N (List.replicate (Int.toNat (List.length x.1:Int)) (0,(0,(bE,([],([],()))))),0,())).bind fun r3=>match r3 with
| .inl y4=>some (y4.1,())
| .inr z5=>some (z5.1,()) else none)
def l_toProg (N:Nat) (x:(List (Int×Int×ByteArray×List (ByteArray)×List (Int)×Unit)×Int×Unit)×Unit):Option ((List (Int×Int×ByteArray×List (ByteArray)×List (Int)×Unit)×Int×Unit)×Unit) :=
(l_toNodeS N (x.1.1,())).bind fun r1 =>
 some ((r1.1,(x.1.2.1,())),())
def l_toDef (N:Nat) (x:(ByteArray×(List (Int×Int×ByteArray×List (ByteArray)×List (Int)×Unit)×Int×Unit)×Unit)×Unit):Option ((ByteArray×(List (Int×Int×ByteArray×List (ByteArray)×List (Int)×Unit)×Int×Unit)×Unit)×Unit) :=
(l_toProg N (x.1.2.1,())).bind fun r1 =>
 some ((x.1.1,(r1.1,())),())
def l_toDefS (N:Nat) (x:List (ByteArray×(List (Int×Int×ByteArray×List (ByteArray)×List (Int)×Unit)×Int×Unit)×Unit)×Unit):Option (List (ByteArray×(List (Int×Int×ByteArray×List (ByteArray)×List (Int)×Unit)×Int×Unit)×Unit)×Unit) :=
(if mkB (List.length x.1:Int) (List.length x.1:Int) then
(iter (A:=List (ByteArray×(List (Int×Int×ByteArray×List (ByteArray)×List (Int)×Unit)×Int×Unit)×Unit)×Int×Unit) (B:=List (ByteArray×(List (Int×Int×ByteArray×List (ByteArray)×List (Int)×Unit)×Int×Unit)×Unit)×Unit) (C:=List (ByteArray×(List (Int×Int×ByteArray×List (ByteArray)×List (Int)×Unit)×Int×Unit)×Unit)×Unit) (fun s1 =>
(if (decide (s1.2.1<(List.length x.1:Int)))=true then
(if inB s1.2.1 (List.length x.1) then
(l_toDef N (List.getD x.1 (Int.toNat s1.2.1) (bE,(([],(0,())),())),())).bind fun r2 =>
(if inB s1.2.1 (List.length s1.1) then
 some (Step.more (List.set s1.1 (Int.toNat s1.2.1) r2.1,wI (s1.2.1+1),())) else none) else none) else
 some (Step.done (s1.1,())))) N (List.replicate (Int.toNat (List.length x.1:Int)) (bE,(([],(0,())),())),0,())).bind fun r3=>match r3 with
| .inl y4=>some (y4.1,())
| .inr z5=>some (z5.1,()) else none)
def l_toSrc (N:Nat) (x:(ByteArray×List (ByteArray)×List (ByteArray)×List (ByteArray×Int×Unit)×List (ByteArray×(List (Int×Int×ByteArray×List (ByteArray)×List (Int)×Unit)×Int×Unit)×Unit)×List (ByteArray×(List (Int×Int×ByteArray×List (ByteArray)×List (Int)×Unit)×Int×Unit)×Unit)×Unit)×Unit):Option ((ByteArray×List (ByteArray)×List (ByteArray)×List (ByteArray×Int×Unit)×List (ByteArray×(List (Int×Int×ByteArray×List (ByteArray)×List (Int)×Unit)×Int×Unit)×Unit)×List (ByteArray×(List (Int×Int×ByteArray×List (ByteArray)×List (Int)×Unit)×Int×Unit)×Unit)×Unit)×Unit) :=
(l_toStringS N (x.1.2.1,())).bind fun r1 =>
(l_toStringS N (x.1.2.2.1,())).bind fun r2 =>
(l_toTypeS N (x.1.2.2.2.1,())).bind fun r3 =>
(l_toDefS N (x.1.2.2.2.2.1,())).bind fun r4 =>
(l_toDefS N (x.1.2.2.2.2.2.1,())).bind fun r5 =>
 some ((x.1.1,(r1.1,(r2.1,(r3.1,(r4.1,(r5.1,())))))),())
def i_Src_isFew (N:Nat) (x:(ByteArray×List (ByteArray)×List (ByteArray)×List (ByteArray×Int×Unit)×List (ByteArray×(List (Int×Int×ByteArray×List (ByteArray)×List (Int)×Unit)×Int×Unit)×Unit)×List (ByteArray×(List (Int×Int×ByteArray×List (ByteArray)×List (Int)×Unit)×Int×Unit)×Unit)×Unit)×Unit):Option (Bool×Unit) :=
((if (decide ((List.length x.1.2.1:Int)≤30))=true then
 some (decide ((List.length x.1.2.2.1:Int)≤30)) else some false)).bind fun b1 =>
((if b1=true then
 some (decide ((List.length x.1.2.2.2.2.1:Int)≤30)) else some false)).bind fun b2 =>
((if b2=true then
 some (decide ((List.length x.1.2.2.2.1:Int)≤8)) else some false)).bind fun b3 =>
((if b3=true then
 some (decide ((List.length x.1.2.2.2.2.2.1:Int)≤8)) else some false)).bind fun b4 =>
 some (b4,())
def g_slices_Index_string_string_ (N:Nat) (x:List (ByteArray)×ByteArray×Unit):Option (Int×Unit) :=
(iter (A:=Int×Unit) (B:=Unit) (C:=Int×Unit) (fun s1 =>
(if (decide (s1.1<(List.length x.1:Int)))=true then
(if inB s1.1 (List.length x.1) then
(if (decide (x.2.1=(List.getD x.1 (Int.toNat s1.1) bE)))=true then
 some (Step.ret (s1.1,())) else
 some (Step.more (wI (s1.1+1),()))) else none) else
 some (Step.done (())))) N (0,())).bind fun r2=>match r2 with
| .inl y3=>some ((-1),())
| .inr z4=>some (z4.1,())
def g_slices_Contains_string_string_ (N:Nat) (x:List (ByteArray)×ByteArray×Unit):Option (Bool×Unit) :=
(g_slices_Index_string_string_ N (x.1,x.2.1,())).bind fun r1 =>
 some (decide (r1.1≥0),())
def i_namesOfDefs (N:Nat) (x:List (ByteArray×(List (Int×Int×ByteArray×List (ByteArray)×List (Int)×Unit)×Int×Unit)×Unit)×Unit):Option (List (ByteArray)×Unit) :=
(iter (A:=List (ByteArray)×Int×Unit) (B:=List (ByteArray)×Unit) (C:=List (ByteArray)×Unit) (fun s1 =>
(if (decide (s1.2.1<(List.length x.1:Int)))=true then
(if inB s1.2.1 (List.length x.1) then
(if List.length s1.1+List.length ([(List.getD x.1 (Int.toNat s1.2.1) (bE,(([],(0,())),()))).1]:List (ByteArray))≤4294967296 then
 some (Step.more (s1.1++([(List.getD x.1 (Int.toNat s1.2.1) (bE,(([],(0,())),()))).1]:List (ByteArray)),wI (s1.2.1+1),())) else none) else none) else
 some (Step.done (s1.1,())))) N ([],0,())).bind fun r2=>match r2 with
| .inl y3=>some (y3.1,())
| .inr z4=>some (z4.1,())
def i_isOnce (N:Nat) (x:List (ByteArray)×Unit):Option (Bool×Unit) :=
(iter (A:=Int×Unit) (B:=Unit) (C:=Bool×Unit) (fun s1 =>
(if (decide (s1.1<(List.length x.1:Int)))=true then
(if inB s1.1 (List.length x.1) then
(g_slices_Index_string_string_ N (x.1,List.getD x.1 (Int.toNat s1.1) bE,())).bind fun r2 =>
(if (!decide (r2.1=s1.1))=true then
 some (Step.ret (false,())) else
 some (Step.more (wI (s1.1+1),()))) else none) else
 some (Step.done (())))) N (0,())).bind fun r3=>match r3 with
| .inl y4=>some (true,())
| .inr z5=>some (z5.1,())
def i_namesOfTypes (N:Nat) (x:List (ByteArray×Int×Unit)×Unit):Option (List (ByteArray)×Unit) :=
(iter (A:=List (ByteArray)×Int×Unit) (B:=List (ByteArray)×Unit) (C:=List (ByteArray)×Unit) (fun s1 =>
(if (decide (s1.2.1<(List.length x.1:Int)))=true then
(if inB s1.2.1 (List.length x.1) then
(if List.length s1.1+List.length ([(List.getD x.1 (Int.toNat s1.2.1) (bE,(0,()))).1]:List (ByteArray))≤4294967296 then
 some (Step.more (s1.1++([(List.getD x.1 (Int.toNat s1.2.1) (bE,(0,()))).1]:List (ByteArray)),wI (s1.2.1+1),())) else none) else none) else
 some (Step.done (s1.1,())))) N ([],0,())).bind fun r2=>match r2 with
| .inl y3=>some (y3.1,())
| .inr z4=>some (z4.1,())
def i_Src_isUnlike (N:Nat) (x:(ByteArray×List (ByteArray)×List (ByteArray)×List (ByteArray×Int×Unit)×List (ByteArray×(List (Int×Int×ByteArray×List (ByteArray)×List (Int)×Unit)×Int×Unit)×Unit)×List (ByteArray×(List (Int×Int×ByteArray×List (ByteArray)×List (Int)×Unit)×Int×Unit)×Unit)×Unit)×Unit):Option (Bool×Unit) :=
(i_isOnce N (x.1.2.1,())).bind fun r1 =>
(if r1.1=true then
(i_isOnce N (x.1.2.2.1,())).bind fun r2 =>
(if r2.1=true then
(i_namesOfTypes N (x.1.2.2.2.1,())).bind fun r3 =>
(i_isOnce N (r3.1,())).bind fun r4 =>
(if r4.1=true then
(i_namesOfDefs N (x.1.2.2.2.2.1,())).bind fun r5 =>
(i_isOnce N (r5.1,())).bind fun r6 =>
(if r6.1=true then
(i_namesOfDefs N (x.1.2.2.2.2.2.1,())).bind fun r7 =>
(i_isOnce N (r7.1,())).bind fun r8 =>
(if r8.1=true then
(g_slices_Contains_string_string_ N (x.1.2.1,x.1.1,())).bind fun r9 =>
 some (!r9.1,()) else some (false,())) else some (false,())) else some (false,())) else some (false,())) else some (false,()))
def i_areIn (N:Nat) (x:List (ByteArray)×List (ByteArray)×Unit):Option (Bool×Unit) :=
(iter (A:=Int×Unit) (B:=Unit) (C:=Bool×Unit) (fun s1 =>
(if (decide (s1.1<(List.length x.1:Int)))=true then
(if inB s1.1 (List.length x.1) then
(g_slices_Contains_string_string_ N (x.2.1,List.getD x.1 (Int.toNat s1.1) bE,())).bind fun r2 =>
(if (!r2.1)=true then
 some (Step.ret (false,())) else
 some (Step.more (wI (s1.1+1),()))) else none) else
 some (Step.done (())))) N (0,())).bind fun r3=>match r3 with
| .inl y4=>some (true,())
| .inr z5=>some (z5.1,())
def i_Src_isFit (N:Nat) (x:(ByteArray×List (ByteArray)×List (ByteArray)×List (ByteArray×Int×Unit)×List (ByteArray×(List (Int×Int×ByteArray×List (ByteArray)×List (Int)×Unit)×Int×Unit)×Unit)×List (ByteArray×(List (Int×Int×ByteArray×List (ByteArray)×List (Int)×Unit)×Int×Unit)×Unit)×Unit)×Unit):Option (Bool×Unit) :=
(i_namesOfDefs N (x.1.2.2.2.2.1,())).bind fun r1 =>
(i_areIn N (x.1.2.2.1,r1.1,())).bind fun r2 =>
(if r2.1=true then
(i_namesOfDefs N (x.1.2.2.2.2.2.1,())).bind fun r3 =>
(i_namesOfTypes N (x.1.2.2.2.1,())).bind fun r4 =>
(i_areIn N (r3.1,r4.1,())).bind fun r5 =>
 some (r5.1,()) else some (false,()))
def i_namesOk (N:Nat) (x:List (ByteArray)×Int×Unit):Option (Bool×Unit) :=
(iter (A:=Int×Unit) (B:=Unit) (C:=Bool×Unit) (fun s1 =>
(if (decide (s1.1<(List.length x.1:Int)))=true then
(if inB s1.1 (List.length x.1) then
(i_IsName N (List.getD x.1 (Int.toNat s1.1) bE,())).bind fun r2 =>
((if (!r2.1)=true then
 some true else (g_slices_Index_string_string_ N (x.1,List.getD x.1 (Int.toNat s1.1) bE,())).bind fun r3 =>
 some (!decide (r3.1=s1.1)))).bind fun b4 =>
(if b4=true then
 some (Step.ret (false,())) else
 some (Step.more (wI (s1.1+1),()))) else none) else
 some (Step.done (())))) N (0,())).bind fun r5=>match r5 with
| .inl y6=>some (decide ((List.length x.1:Int)≤x.2.1),())
| .inr z7=>some (z7.1,())
def i_typesOk (N:Nat) (x:List (ByteArray×Int×Unit)×Unit):Option (Bool×Unit) :=
(iter (A:=List (ByteArray)×Int×Unit) (B:=List (ByteArray)×Unit) (C:=Bool×Unit) (fun s1 =>
(if (decide (s1.2.1<(List.length x.1:Int)))=true then
(if inB s1.2.1 (List.length x.1) then
(if List.length s1.1+List.length ([(List.getD x.1 (Int.toNat s1.2.1) (bE,(0,()))).1]:List (ByteArray))≤4294967296 then
(i_inRange N (((List.getD x.1 (Int.toNat s1.2.1) (bE,(0,()))).2).1,0,8,())).bind fun r2 =>
(if (!r2.1)=true then
 some (Step.ret (false,())) else
 some (Step.more (s1.1++([(List.getD x.1 (Int.toNat s1.2.1) (bE,(0,()))).1]:List (ByteArray)),wI (s1.2.1+1),()))) else none) else none) else
 some (Step.done (s1.1,())))) N ([],0,())).bind fun r3=>match r3 with
| .inl y4=>(i_namesOk N (y4.1,8,())).bind fun r6 =>
 some (r6.1,())
| .inr z5=>some (z5.1,())
def i_isTyped (N:Nat) (x:ByteArray×Unit):Option (Bool×Unit) :=
((if (decide (x.1=(ByteArray.mk #[109,97,107,101])))=true then
 some true else some (decide (x.1=(ByteArray.mk #[102,105,101,108,100]))))).bind fun b1 =>
((if b1=true then
 some true else some (decide (x.1=(ByteArray.mk #[105,115]))))).bind fun b2 =>
 some (b2,())
def i_primOk (N:Nat) (x:(Int×Int×ByteArray×List (ByteArray)×List (Int)×Unit)×Unit):Option (Bool×Unit) :=
(i_Arity N (x.1.2.2.1,())).bind fun r1 =>
(if (decide (x.1.2.2.1=(ByteArray.mk #[109,97,107,101])))=true then
((if (decide (x.1.2.1=0))=true then
 some (decide ((List.length x.1.2.2.2.2.1:Int)≤8)) else some false)).bind fun b2 =>
((if b2=true then
 some (decide ((List.length x.1.2.2.2.1:Int)=1)) else some false)).bind fun b3 =>
((if b3=true then
(if inB 0 (List.length x.1.2.2.2.1) then
(i_IsName N (List.getD x.1.2.2.2.1 (Int.toNat 0) bE,())).bind fun r4 =>
 some r4.1 else none) else some false)).bind fun b5 =>
 some (b5,()) else
((if (decide (r1.1<0))=true then
 some true else some (!decide ((List.length x.1.2.2.2.2.1:Int)=r1.1)))).bind fun b6 =>
(if b6=true then
 some (false,()) else
((if (decide (x.1.2.2.1=(ByteArray.mk #[102,105,101,108,100])))=true then
(i_inRange N (x.1.2.1,0,7,())).bind fun r7 =>
 some (!r7.1) else some false)).bind fun b8 =>
((if b8=true then
 some true else ((if (!decide (x.1.2.2.1=(ByteArray.mk #[102,105,101,108,100])))=true then
 some (!decide (x.1.2.1=0)) else some false)).bind fun b9 =>
 some b9)).bind fun b10 =>
(if b10=true then
 some (false,()) else
(i_isTyped N (x.1.2.2.1,())).bind fun r11 =>
(if r11.1=true then
((if (decide ((List.length x.1.2.2.2.1:Int)=1))=true then
(if inB 0 (List.length x.1.2.2.2.1) then
(i_IsName N (List.getD x.1.2.2.2.1 (Int.toNat 0) bE,())).bind fun r12 =>
 some r12.1 else none) else some false)).bind fun b13 =>
 some (b13,()) else
 some (decide ((List.length x.1.2.2.2.1:Int)=0),())))))
def i_nodeOk (N:Nat) (x:(Int×Int×ByteArray×List (ByteArray)×List (Int)×Unit)×Unit):Option (Bool×Unit) :=
(if (decide (x.1.1=1))=true then
(i_inRange N (x.1.2.1,(-1000000),1000000,())).bind fun r1 =>
((if r1.1=true then
 some (decide (x.1.2.2.1=(ByteArray.mk #[]))) else some false)).bind fun b2 =>
((if b2=true then
 some (decide ((List.length x.1.2.2.2.1:Int)=0)) else some false)).bind fun b3 =>
((if b3=true then
 some (decide ((List.length x.1.2.2.2.2.1:Int)=0)) else some false)).bind fun b4 =>
 some (b4,()) else
(if (decide (x.1.1=2))=true then
(i_inRange N (x.1.2.1,0,1,())).bind fun r5 =>
((if r5.1=true then
 some (decide (x.1.2.2.1=(ByteArray.mk #[]))) else some false)).bind fun b6 =>
((if b6=true then
 some (decide ((List.length x.1.2.2.2.1:Int)=0)) else some false)).bind fun b7 =>
((if b7=true then
 some (decide ((List.length x.1.2.2.2.2.1:Int)=0)) else some false)).bind fun b8 =>
 some (b8,()) else
(if (decide (x.1.1=3))=true then
((if (decide (x.1.2.1=0))=true then
 some (decide (x.1.2.2.1=(ByteArray.mk #[]))) else some false)).bind fun b9 =>
((if b9=true then
 some (decide ((List.length x.1.2.2.2.1:Int)=0)) else some false)).bind fun b10 =>
((if b10=true then
 some (decide ((List.length x.1.2.2.2.2.1:Int)=0)) else some false)).bind fun b11 =>
 some (b11,()) else
(if (decide (x.1.1=4))=true then
((if (decide (x.1.2.1=0))=true then
(i_symOk N (x.1.2.2.1,())).bind fun r12 =>
 some r12.1 else some false)).bind fun b13 =>
((if b13=true then
 some (decide ((List.length x.1.2.2.2.1:Int)=0)) else some false)).bind fun b14 =>
((if b14=true then
 some (decide ((List.length x.1.2.2.2.2.1:Int)=0)) else some false)).bind fun b15 =>
 some (b15,()) else
(if (decide (x.1.1=5))=true then
((if (decide (x.1.2.1=0))=true then
(i_IsName N (x.1.2.2.1,())).bind fun r16 =>
 some r16.1 else some false)).bind fun b17 =>
((if b17=true then
 some (decide ((List.length x.1.2.2.2.1:Int)=0)) else some false)).bind fun b18 =>
((if b18=true then
 some (decide ((List.length x.1.2.2.2.2.1:Int)=0)) else some false)).bind fun b19 =>
 some (b19,()) else
(if (decide (x.1.1=6))=true then
((if (decide (x.1.2.1=0))=true then
 some (decide (x.1.2.2.1=(ByteArray.mk #[]))) else some false)).bind fun b20 =>
((if b20=true then
 some (decide ((List.length x.1.2.2.2.1:Int)=0)) else some false)).bind fun b21 =>
((if b21=true then
 some (decide ((List.length x.1.2.2.2.2.1:Int)=3)) else some false)).bind fun b22 =>
 some (b22,()) else
(if (decide (x.1.1=7))=true then
((if (decide (x.1.2.1=0))=true then
 some (decide (x.1.2.2.1=(ByteArray.mk #[]))) else some false)).bind fun b23 =>
((if b23=true then
(i_namesOk N (x.1.2.2.2.1,8,())).bind fun r24 =>
 some r24.1 else some false)).bind fun b25 =>
((if b25=true then
 some (decide ((List.length x.1.2.2.2.2.1:Int)=1)) else some false)).bind fun b26 =>
 some (b26,()) else
(if (decide (x.1.1=8))=true then
((if (decide (x.1.2.1=0))=true then
 some (decide (x.1.2.2.1=(ByteArray.mk #[]))) else some false)).bind fun b27 =>
((if b27=true then
 some (decide ((List.length x.1.2.2.2.1:Int)=0)) else some false)).bind fun b28 =>
((if b28=true then
(i_inRange N ((List.length x.1.2.2.2.2.1:Int),1,9,())).bind fun r29 =>
 some r29.1 else some false)).bind fun b30 =>
 some (b30,()) else
(if (decide (x.1.1=9))=true then
(i_primOk N (x.1,())).bind fun r31 =>
 some (r31.1,()) else
(if (decide (x.1.1=10))=true then
((if (decide (x.1.2.1=0))=true then
(i_IsName N (x.1.2.2.1,())).bind fun r32 =>
 some r32.1 else some false)).bind fun b33 =>
((if b33=true then
 some (decide ((List.length x.1.2.2.2.1:Int)=0)) else some false)).bind fun b34 =>
((if b34=true then
 some (decide ((List.length x.1.2.2.2.2.1:Int)=1)) else some false)).bind fun b35 =>
 some (b35,()) else
(if (decide (x.1.1=11))=true then
((if (decide (x.1.2.1=0))=true then
 some (decide (x.1.2.2.1=(ByteArray.mk #[]))) else some false)).bind fun b36 =>
((if b36=true then
 some (decide ((List.length x.1.2.2.2.1:Int)=0)) else some false)).bind fun b37 =>
((if b37=true then
 some (decide ((List.length x.1.2.2.2.2.1:Int)≥2)) else some false)).bind fun b38 =>
 some (b38,()) else
 some (false,()))))))))))))
def i_ProgOk (N:Nat) (x:(List (Int×Int×ByteArray×List (ByteArray)×List (Int)×Unit)×Int×Unit)×Unit):Option (Bool×Unit) :=
(i_inRange N ((List.length x.1.1:Int),1,400,())).bind fun r1 =>
((if (!r1.1)=true then
 some true else some (!decide (x.1.2.1=(wI ((List.length x.1.1:Int)-1)))))).bind fun b2 =>
(if b2=true then
 some (false,()) else
(if mkB (List.length x.1.1:Int) (List.length x.1.1:Int) then
(iter (A:=List (Int)×Int×Unit) (B:=List (Int)×Unit) (C:=Bool×Unit) (fun s3 =>
(if (decide (s3.2.1<(List.length x.1.1:Int)))=true then
(if inB s3.2.1 (List.length x.1.1) then
(i_nodeOk N (List.getD x.1.1 (Int.toNat s3.2.1) (0,(0,(bE,([],([],()))))),())).bind fun r4 =>
(if (!r4.1)=true then
 some (Step.ret (false,())) else
(iter (A:=List (Int)×Int×Unit) (B:=List (Int)×Unit) (C:=Bool×Unit) (fun s5 =>
(if (decide (s5.2.1<(List.length ((((((List.getD x.1.1 (Int.toNat s3.2.1) (0,(0,(bE,([],([],())))))).2).2).2).2).1):Int)))=true then
(if inB s5.2.1 (List.length ((((((List.getD x.1.1 (Int.toNat s3.2.1) (0,(0,(bE,([],([],())))))).2).2).2).2).1)) then
(i_inRange N (List.getD ((((((List.getD x.1.1 (Int.toNat s3.2.1) (0,(0,(bE,([],([],())))))).2).2).2).2).1) (Int.toNat s5.2.1) 0,0,wI (s3.2.1-1),())).bind fun r6 =>
(if (!r6.1)=true then
 some (Step.ret (false,())) else
(if inB (List.getD ((((((List.getD x.1.1 (Int.toNat s3.2.1) (0,(0,(bE,([],([],())))))).2).2).2).2).1) (Int.toNat s5.2.1) 0) (List.length s5.1) then
(if inB (List.getD ((((((List.getD x.1.1 (Int.toNat s3.2.1) (0,(0,(bE,([],([],())))))).2).2).2).2).1) (Int.toNat s5.2.1) 0) (List.length s5.1) then
 some (Step.more (List.set s5.1 (Int.toNat (List.getD ((((((List.getD x.1.1 (Int.toNat s3.2.1) (0,(0,(bE,([],([],())))))).2).2).2).2).1) (Int.toNat s5.2.1) 0)) (wI ((List.getD s5.1 (Int.toNat (List.getD ((((((List.getD x.1.1 (Int.toNat s3.2.1) (0,(0,(bE,([],([],())))))).2).2).2).2).1) (Int.toNat s5.2.1) 0)) 0)+1)),wI (s5.2.1+1),())) else none) else none)) else none) else
 some (Step.done (s5.1,())))) N (s3.1,0,())).bind fun r7=>match r7 with
| .inl y8=>some (Step.more (y8.1,wI (s3.2.1+1),()))
| .inr z9=>some (Step.ret (z9.1,()))) else none) else
 some (Step.done (s3.1,())))) N (List.replicate (Int.toNat (List.length x.1.1:Int)) 0,0,())).bind fun r10=>match r10 with
| .inl y11=>(if cutB 0 (wI ((List.length x.1.1:Int)-1)) (List.length y11.1) then
(iter (A:=Int×Unit) (B:=Unit) (C:=Bool×Unit) (fun s13 =>
(if (decide (s13.1<(List.length (List.drop (Int.toNat 0) (List.take (Int.toNat (wI ((List.length x.1.1:Int)-1))) y11.1)):Int)))=true then
(if inB s13.1 (List.length (List.drop (Int.toNat 0) (List.take (Int.toNat (wI ((List.length x.1.1:Int)-1))) y11.1))) then
(if (!decide ((List.getD (List.drop (Int.toNat 0) (List.take (Int.toNat (wI ((List.length x.1.1:Int)-1))) y11.1)) (Int.toNat s13.1) 0)=1))=true then
 some (Step.ret (false,())) else
 some (Step.more (wI (s13.1+1),()))) else none) else
 some (Step.done (())))) N (0,())).bind fun r14=>match r14 with
| .inl y15=>(if inB (wI ((List.length x.1.1:Int)-1)) (List.length y11.1) then
 some (decide ((List.getD y11.1 (Int.toNat (wI ((List.length x.1.1:Int)-1))) 0)=0),()) else none)
| .inr z16=>some (z16.1,()) else none)
| .inr z12=>some (z12.1,()) else none))
def i_progsOk (N:Nat) (x:List (ByteArray×(List (Int×Int×ByteArray×List (ByteArray)×List (Int)×Unit)×Int×Unit)×Unit)×Unit):Option (Bool×Unit) :=
(iter (A:=Int×Unit) (B:=Unit) (C:=Bool×Unit) (fun s1 =>
(if (decide (s1.1<(List.length x.1:Int)))=true then
(if inB s1.1 (List.length x.1) then
(i_ProgOk N (((List.getD x.1 (Int.toNat s1.1) (bE,(([],(0,())),()))).2).1,())).bind fun r2 =>
(if (!r2.1)=true then
 some (Step.ret (false,())) else
 some (Step.more (wI (s1.1+1),()))) else none) else
 some (Step.done (())))) N (0,())).bind fun r3=>match r3 with
| .inl y4=>some (true,())
| .inr z5=>some (z5.1,())
def i_SrcOk (N:Nat) (x:(ByteArray×List (ByteArray)×List (ByteArray)×List (ByteArray×Int×Unit)×List (ByteArray×(List (Int×Int×ByteArray×List (ByteArray)×List (Int)×Unit)×Int×Unit)×Unit)×List (ByteArray×(List (Int×Int×ByteArray×List (ByteArray)×List (Int)×Unit)×Int×Unit)×Unit)×Unit)×Unit):Option (Bool×Unit) :=
(i_IsName N (x.1.1,())).bind fun r1 =>
(if (!r1.1)=true then
 some (false,()) else (i_Src_isFew N (x.1,())).bind fun r2 =>
(if (!r2.1)=true then
 some (false,()) else (i_Src_isUnlike N (x.1,())).bind fun r3 =>
(if (!r3.1)=true then
 some (false,()) else (i_Src_isFit N (x.1,())).bind fun r4 =>
(if (!r4.1)=true then
 some (false,()) else
(i_allNames N (x.1.2.1,())).bind fun r5 =>
((if (!r5.1)=true then
 some true else (i_allNames N (x.1.2.2.1,())).bind fun r6 =>
 some (!r6.1))).bind fun b7 =>
(if b7=true then
 some (false,()) else (i_namesOfDefs N (x.1.2.2.2.2.1,())).bind fun r8 =>
(i_allNames N (r8.1,())).bind fun r9 =>
(if (!r9.1)=true then
 some (false,()) else (i_namesOfDefs N (x.1.2.2.2.2.2.1,())).bind fun r10 =>
(i_allNames N (r10.1,())).bind fun r11 =>
(if (!r11.1)=true then
 some (false,()) else
(i_typesOk N (x.1.2.2.2.1,())).bind fun r12 =>
((if r12.1=true then
(i_progsOk N (x.1.2.2.2.2.1,())).bind fun r13 =>
 some r13.1 else some false)).bind fun b14 =>
((if b14=true then
(i_progsOk N (x.1.2.2.2.2.2.1,())).bind fun r15 =>
 some r15.1 else some false)).bind fun b16 =>
 some (b16,()))))))))
def l_eqType (N:Nat) (x:(ByteArray×Int×Unit)×(ByteArray×Int×Unit)×Unit):Option (Bool×Unit) :=
(if (!decide (x.1.1=x.2.1.1))=true then
 some (false,()) else
(if (!decide (x.1.2.1=x.2.1.2.1))=true then
 some (false,()) else
 some (true,())))
def l_eqTypeS (N:Nat) (x:List (ByteArray×Int×Unit)×List (ByteArray×Int×Unit)×Unit):Option (Bool×Unit) :=
(if (!decide ((List.length x.1:Int)=(List.length x.2.1:Int)))=true then
 some (false,()) else
(iter (A:=Int×Unit) (B:=Unit) (C:=Bool×Unit) (fun s1 =>
(if (decide (s1.1<(List.length x.1:Int)))=true then
(if inB s1.1 (List.length x.1) then
(if inB s1.1 (List.length x.2.1) then
(l_eqType N (List.getD x.1 (Int.toNat s1.1) (bE,(0,())),List.getD x.2.1 (Int.toNat s1.1) (bE,(0,())),())).bind fun r2 =>
(if (!r2.1)=true then
 some (Step.ret (false,())) else
 some (Step.more (wI (s1.1+1),()))) else none) else none) else
 some (Step.done (())))) N (0,())).bind fun r3=>match r3 with
| .inl y4=>some (true,())
| .inr z5=>some (z5.1,()))
def l_eqIntS (N:Nat) (x:List (Int)×List (Int)×Unit):Option (Bool×Unit) :=
(if (!decide ((List.length x.1:Int)=(List.length x.2.1:Int)))=true then
 some (false,()) else
(iter (A:=Int×Unit) (B:=Unit) (C:=Bool×Unit) (fun s1 =>
(if (decide (s1.1<(List.length x.1:Int)))=true then
(if inB s1.1 (List.length x.1) then
(if inB s1.1 (List.length x.2.1) then
(if (!decide ((List.getD x.1 (Int.toNat s1.1) 0)=(List.getD x.2.1 (Int.toNat s1.1) 0)))=true then
 some (Step.ret (false,())) else
 some (Step.more (wI (s1.1+1),()))) else none) else none) else
 some (Step.done (())))) N (0,())).bind fun r2=>match r2 with
| .inl y3=>some (true,())
| .inr z4=>some (z4.1,()))
def l_eqNode (N:Nat) (x:(Int×Int×ByteArray×List (ByteArray)×List (Int)×Unit)×(Int×Int×ByteArray×List (ByteArray)×List (Int)×Unit)×Unit):Option (Bool×Unit) :=
(if (!decide (x.1.1=x.2.1.1))=true then
 some (false,()) else
(if (!decide (x.1.2.1=x.2.1.2.1))=true then
 some (false,()) else
(if (!decide (x.1.2.2.1=x.2.1.2.2.1))=true then
 some (false,()) else
(l_eqStringS N (x.1.2.2.2.1,x.2.1.2.2.2.1,())).bind fun r1 =>
(if (!r1.1)=true then
 some (false,()) else
(l_eqIntS N (x.1.2.2.2.2.1,x.2.1.2.2.2.2.1,())).bind fun r2 =>
(if (!r2.1)=true then
 some (false,()) else
 some (true,()))))))
def l_eqNodeS (N:Nat) (x:List (Int×Int×ByteArray×List (ByteArray)×List (Int)×Unit)×List (Int×Int×ByteArray×List (ByteArray)×List (Int)×Unit)×Unit):Option (Bool×Unit) :=
(if (!decide ((List.length x.1:Int)=(List.length x.2.1:Int)))=true then
 some (false,()) else
(iter (A:=Int×Unit) (B:=Unit) (C:=Bool×Unit) (fun s1 =>
(if (decide (s1.1<(List.length x.1:Int)))=true then
(if inB s1.1 (List.length x.1) then
(if inB s1.1 (List.length x.2.1) then
(l_eqNode N (List.getD x.1 (Int.toNat s1.1) (0,(0,(bE,([],([],()))))),List.getD x.2.1 (Int.toNat s1.1) (0,(0,(bE,([],([],()))))),())).bind fun r2 =>
(if (!r2.1)=true then
 some (Step.ret (false,())) else
 some (Step.more (wI (s1.1+1),()))) else none) else none) else
 some (Step.done (())))) N (0,())).bind fun r3=>match r3 with
| .inl y4=>some (true,())
| .inr z5=>some (z5.1,()))
def l_eqProg (N:Nat) (x:(List (Int×Int×ByteArray×List (ByteArray)×List (Int)×Unit)×Int×Unit)×(List (Int×Int×ByteArray×List (ByteArray)×List (Int)×Unit)×Int×Unit)×Unit):Option (Bool×Unit) :=
(l_eqNodeS N (x.1.1,x.2.1.1,())).bind fun r1 =>
(if (!r1.1)=true then
 some (false,()) else
(if (!decide (x.1.2.1=x.2.1.2.1))=true then
 some (false,()) else
 some (true,())))
def l_eqDef (N:Nat) (x:(ByteArray×(List (Int×Int×ByteArray×List (ByteArray)×List (Int)×Unit)×Int×Unit)×Unit)×(ByteArray×(List (Int×Int×ByteArray×List (ByteArray)×List (Int)×Unit)×Int×Unit)×Unit)×Unit):Option (Bool×Unit) :=
(if (!decide (x.1.1=x.2.1.1))=true then
 some (false,()) else
(l_eqProg N (x.1.2.1,x.2.1.2.1,())).bind fun r1 =>
(if (!r1.1)=true then
 some (false,()) else
 some (true,())))
def l_eqDefS (N:Nat) (x:List (ByteArray×(List (Int×Int×ByteArray×List (ByteArray)×List (Int)×Unit)×Int×Unit)×Unit)×List (ByteArray×(List (Int×Int×ByteArray×List (ByteArray)×List (Int)×Unit)×Int×Unit)×Unit)×Unit):Option (Bool×Unit) :=
(if (!decide ((List.length x.1:Int)=(List.length x.2.1:Int)))=true then
 some (false,()) else
(iter (A:=Int×Unit) (B:=Unit) (C:=Bool×Unit) (fun s1 =>
(if (decide (s1.1<(List.length x.1:Int)))=true then
(if inB s1.1 (List.length x.1) then
(if inB s1.1 (List.length x.2.1) then
(l_eqDef N (List.getD x.1 (Int.toNat s1.1) (bE,(([],(0,())),())),List.getD x.2.1 (Int.toNat s1.1) (bE,(([],(0,())),())),())).bind fun r2 =>
(if (!r2.1)=true then
 some (Step.ret (false,())) else
 some (Step.more (wI (s1.1+1),()))) else none) else none) else
 some (Step.done (())))) N (0,())).bind fun r3=>match r3 with
| .inl y4=>some (true,())
| .inr z5=>some (z5.1,()))
def l_eqSrc (N:Nat) (x:(ByteArray×List (ByteArray)×List (ByteArray)×List (ByteArray×Int×Unit)×List (ByteArray×(List (Int×Int×ByteArray×List (ByteArray)×List (Int)×Unit)×Int×Unit)×Unit)×List (ByteArray×(List (Int×Int×ByteArray×List (ByteArray)×List (Int)×Unit)×Int×Unit)×Unit)×Unit)×(ByteArray×List (ByteArray)×List (ByteArray)×List (ByteArray×Int×Unit)×List (ByteArray×(List (Int×Int×ByteArray×List (ByteArray)×List (Int)×Unit)×Int×Unit)×Unit)×List (ByteArray×(List (Int×Int×ByteArray×List (ByteArray)×List (Int)×Unit)×Int×Unit)×Unit)×Unit)×Unit):Option (Bool×Unit) :=
(if (!decide (x.1.1=x.2.1.1))=true then
 some (false,()) else
(l_eqStringS N (x.1.2.1,x.2.1.2.1,())).bind fun r1 =>
(if (!r1.1)=true then
 some (false,()) else
(l_eqStringS N (x.1.2.2.1,x.2.1.2.2.1,())).bind fun r2 =>
(if (!r2.1)=true then
 some (false,()) else
(l_eqTypeS N (x.1.2.2.2.1,x.2.1.2.2.2.1,())).bind fun r3 =>
(if (!r3.1)=true then
 some (false,()) else
(l_eqDefS N (x.1.2.2.2.2.1,x.2.1.2.2.2.2.1,())).bind fun r4 =>
(if (!r4.1)=true then
 some (false,()) else
(l_eqDefS N (x.1.2.2.2.2.2.1,x.2.1.2.2.2.2.2.1,())).bind fun r5 =>
(if (!r5.1)=true then
 some (false,()) else
 some (true,())))))))
def l_markText (N:Nat) (x:Int×Unit):Option (ByteArray×Unit) :=
(if (decide (x.1≤0))=true then
 some (ByteArray.mk #[109,48],()) else
(iter (A:=Int×ByteArray×Unit) (B:=ByteArray×Unit) (C:=ByteArray×Unit) (fun s1 =>
(if (decide (s1.1>0))=true then
(if ByteArray.size (ofBytes [IntKind.wrap .u8 (wI (48+(Int.tmod s1.1 10)))])+ByteArray.size s1.2.1<4611686018427387904 then
 some (Step.more (wI (Int.tdiv s1.1 10),(ofBytes [IntKind.wrap .u8 (wI (48+(Int.tmod s1.1 10)))])++s1.2.1,())) else none) else
 some (Step.done (s1.2.1,())))) N (x.1,ByteArray.mk #[],())).bind fun r2=>match r2 with
| .inl y3=>(if ByteArray.size (ByteArray.mk #[109])+ByteArray.size y3.1<4611686018427387904 then
 some ((ByteArray.mk #[109])++y3.1,()) else none)
| .inr z4=>some (z4.1,()))
def l_markStringS (N:Nat) (x:List (ByteArray)×Int×Unit):Option (Int×List (ByteArray)×Unit) :=
(iter (A:=List (ByteArray)×Int×Int×Unit) (B:=List (ByteArray)×Int×Unit) (C:=Int×List (ByteArray)×Unit) (fun s1 =>
(if (decide (s1.2.2.1<(List.length s1.1:Int)))=true then
(l_markText N (s1.2.1,())).bind fun r2 =>
(if inB s1.2.2.1 (List.length s1.1) then
((some (List.set s1.1 (Int.toNat s1.2.2.1) r2.1):Option (List (ByteArray)))).bind fun a3 =>
 some (Step.more (a3,wI (s1.2.1+1),wI (s1.2.2.1+1),())) else none) else
 some (Step.done (s1.1,s1.2.1,())))) N (x.1,x.2.1,0,())).bind fun r4=>match r4 with
| .inl y5=>some (y5.2.1,y5.1,())
| .inr z6=>some (z6.1,z6.2.1,())
def l_markTypeS (N:Nat) (x:List (ByteArray×Int×Unit)×Int×Unit):Option (Int×List (ByteArray×Int×Unit)×Unit) :=
(iter (A:=List (ByteArray×Int×Unit)×Int×Int×Unit) (B:=List (ByteArray×Int×Unit)×Int×Unit) (C:=Int×List (ByteArray×Int×Unit)×Unit) (fun s1 =>
(if (decide (s1.2.2.1<(List.length s1.1:Int)))=true then
(l_markText N (s1.2.1,())).bind fun r2 =>
(if inB s1.2.2.1 (List.length s1.1) then
((some (List.set s1.1 (Int.toNat s1.2.2.1) (r2.1,(List.getD s1.1 (Int.toNat s1.2.2.1) (bE,(0,()))).2)):Option (List (ByteArray×Int×Unit)))).bind fun a3 =>
(if inB s1.2.2.1 (List.length a3) then
((some (List.set a3 (Int.toNat s1.2.2.1) ((List.getD a3 (Int.toNat s1.2.2.1) (bE,(0,()))).1,(wI (s1.2.1+1),((List.getD a3 (Int.toNat s1.2.2.1) (bE,(0,()))).2).2))):Option (List (ByteArray×Int×Unit)))).bind fun a4 =>
 some (Step.more (a4,wI ((wI (s1.2.1+1))+1),wI (s1.2.2.1+1),())) else none) else none) else
 some (Step.done (s1.1,s1.2.1,())))) N (x.1,x.2.1,0,())).bind fun r5=>match r5 with
| .inl y6=>some (y6.2.1,y6.1,())
| .inr z7=>some (z7.1,z7.2.1,())
def l_markIntS (N:Nat) (x:List (Int)×Int×Unit):Option (Int×List (Int)×Unit) :=
(iter (A:=List (Int)×Int×Int×Unit) (B:=List (Int)×Int×Unit) (C:=Int×List (Int)×Unit) (fun s1 =>
(if (decide (s1.2.2.1<(List.length s1.1:Int)))=true then
(if inB s1.2.2.1 (List.length s1.1) then
((some (List.set s1.1 (Int.toNat s1.2.2.1) s1.2.1):Option (List (Int)))).bind fun a2 =>
 some (Step.more (a2,wI (s1.2.1+1),wI (s1.2.2.1+1),())) else none) else
 some (Step.done (s1.1,s1.2.1,())))) N (x.1,x.2.1,0,())).bind fun r3=>match r3 with
| .inl y4=>some (y4.2.1,y4.1,())
| .inr z5=>some (z5.1,z5.2.1,())
def l_markNodeS (N:Nat) (x:List (Int×Int×ByteArray×List (ByteArray)×List (Int)×Unit)×Int×Unit):Option (Int×List (Int×Int×ByteArray×List (ByteArray)×List (Int)×Unit)×Unit) :=
(iter (A:=List (Int×Int×ByteArray×List (ByteArray)×List (Int)×Unit)×Int×Int×Unit) (B:=List (Int×Int×ByteArray×List (ByteArray)×List (Int)×Unit)×Int×Unit) (C:=Int×List (Int×Int×ByteArray×List (ByteArray)×List (Int)×Unit)×Unit) (fun s1 =>
(if (decide (s1.2.2.1<(List.length s1.1:Int)))=true then
(if inB s1.2.2.1 (List.length s1.1) then
((some (List.set s1.1 (Int.toNat s1.2.2.1) (s1.2.1,(List.getD s1.1 (Int.toNat s1.2.2.1) (0,(0,(bE,([],([],())))))).2)):Option (List (Int×Int×ByteArray×List (ByteArray)×List (Int)×Unit)))).bind fun a2 =>
(if inB s1.2.2.1 (List.length a2) then
((some (List.set a2 (Int.toNat s1.2.2.1) ((List.getD a2 (Int.toNat s1.2.2.1) (0,(0,(bE,([],([],())))))).1,(wI (s1.2.1+1),((List.getD a2 (Int.toNat s1.2.2.1) (0,(0,(bE,([],([],())))))).2).2))):Option (List (Int×Int×ByteArray×List (ByteArray)×List (Int)×Unit)))).bind fun a3 =>
(l_markText N (wI ((wI (s1.2.1+1))+1),())).bind fun r4 =>
(if inB s1.2.2.1 (List.length a3) then
((some (List.set a3 (Int.toNat s1.2.2.1) ((List.getD a3 (Int.toNat s1.2.2.1) (0,(0,(bE,([],([],())))))).1,(((List.getD a3 (Int.toNat s1.2.2.1) (0,(0,(bE,([],([],())))))).2).1,(r4.1,(((List.getD a3 (Int.toNat s1.2.2.1) (0,(0,(bE,([],([],())))))).2).2).2)))):Option (List (Int×Int×ByteArray×List (ByteArray)×List (Int)×Unit)))).bind fun a5 =>
(if inB s1.2.2.1 (List.length a5) then
(l_markStringS N (((((List.getD a5 (Int.toNat s1.2.2.1) (0,(0,(bE,([],([],())))))).2).2).2).1,wI ((wI ((wI (s1.2.1+1))+1))+1),())).bind fun r6 =>
((some (List.set a5 (Int.toNat s1.2.2.1) ((List.getD a5 (Int.toNat s1.2.2.1) (0,(0,(bE,([],([],())))))).1,(((List.getD a5 (Int.toNat s1.2.2.1) (0,(0,(bE,([],([],())))))).2).1,((((List.getD a5 (Int.toNat s1.2.2.1) (0,(0,(bE,([],([],())))))).2).2).1,(r6.2.1,((((List.getD a5 (Int.toNat s1.2.2.1) (0,(0,(bE,([],([],())))))).2).2).2).2))))):Option (List (Int×Int×ByteArray×List (ByteArray)×List (Int)×Unit)))).bind fun a7 =>
(if inB s1.2.2.1 (List.length a7) then
(l_markIntS N ((((((List.getD a7 (Int.toNat s1.2.2.1) (0,(0,(bE,([],([],())))))).2).2).2).2).1,r6.1,())).bind fun r8 =>
((some (List.set a7 (Int.toNat s1.2.2.1) ((List.getD a7 (Int.toNat s1.2.2.1) (0,(0,(bE,([],([],())))))).1,(((List.getD a7 (Int.toNat s1.2.2.1) (0,(0,(bE,([],([],())))))).2).1,((((List.getD a7 (Int.toNat s1.2.2.1) (0,(0,(bE,([],([],())))))).2).2).1,(((((List.getD a7 (Int.toNat s1.2.2.1) (0,(0,(bE,([],([],())))))).2).2).2).1,(r8.2.1,(((((List.getD a7 (Int.toNat s1.2.2.1) (0,(0,(bE,([],([],())))))).2).2).2).2).2)))))):Option (List (Int×Int×ByteArray×List (ByteArray)×List (Int)×Unit)))).bind fun a9 =>
 some (Step.more (a9,r8.1,wI (s1.2.2.1+1),())) else none) else none) else none) else none) else none) else
 some (Step.done (s1.1,s1.2.1,())))) N (x.1,x.2.1,0,())).bind fun r10=>match r10 with
| .inl y11=>some (y11.2.1,y11.1,())
| .inr z12=>some (z12.1,z12.2.1,())
def l_markDefS (N:Nat) (x:List (ByteArray×(List (Int×Int×ByteArray×List (ByteArray)×List (Int)×Unit)×Int×Unit)×Unit)×Int×Unit):Option (Int×List (ByteArray×(List (Int×Int×ByteArray×List (ByteArray)×List (Int)×Unit)×Int×Unit)×Unit)×Unit) :=
(iter (A:=List (ByteArray×(List (Int×Int×ByteArray×List (ByteArray)×List (Int)×Unit)×Int×Unit)×Unit)×Int×Int×Unit) (B:=List (ByteArray×(List (Int×Int×ByteArray×List (ByteArray)×List (Int)×Unit)×Int×Unit)×Unit)×Int×Unit) (C:=Int×List (ByteArray×(List (Int×Int×ByteArray×List (ByteArray)×List (Int)×Unit)×Int×Unit)×Unit)×Unit) (fun s1 =>
(if (decide (s1.2.2.1<(List.length s1.1:Int)))=true then
(l_markText N (s1.2.1,())).bind fun r2 =>
(if inB s1.2.2.1 (List.length s1.1) then
((some (List.set s1.1 (Int.toNat s1.2.2.1) (r2.1,(List.getD s1.1 (Int.toNat s1.2.2.1) (bE,(([],(0,())),()))).2)):Option (List (ByteArray×(List (Int×Int×ByteArray×List (ByteArray)×List (Int)×Unit)×Int×Unit)×Unit)))).bind fun a3 =>
(if inB s1.2.2.1 (List.length a3) then
(l_markNodeS N ((((List.getD a3 (Int.toNat s1.2.2.1) (bE,(([],(0,())),()))).2).1).1,wI (s1.2.1+1),())).bind fun r4 =>
((some (List.set a3 (Int.toNat s1.2.2.1) ((List.getD a3 (Int.toNat s1.2.2.1) (bE,(([],(0,())),()))).1,((r4.2.1,(((List.getD a3 (Int.toNat s1.2.2.1) (bE,(([],(0,())),()))).2).1).2),((List.getD a3 (Int.toNat s1.2.2.1) (bE,(([],(0,())),()))).2).2))):Option (List (ByteArray×(List (Int×Int×ByteArray×List (ByteArray)×List (Int)×Unit)×Int×Unit)×Unit)))).bind fun a5 =>
(if inB s1.2.2.1 (List.length a5) then
((some (List.set a5 (Int.toNat s1.2.2.1) ((List.getD a5 (Int.toNat s1.2.2.1) (bE,(([],(0,())),()))).1,(((((List.getD a5 (Int.toNat s1.2.2.1) (bE,(([],(0,())),()))).2).1).1,(r4.1,((((List.getD a5 (Int.toNat s1.2.2.1) (bE,(([],(0,())),()))).2).1).2).2)),((List.getD a5 (Int.toNat s1.2.2.1) (bE,(([],(0,())),()))).2).2))):Option (List (ByteArray×(List (Int×Int×ByteArray×List (ByteArray)×List (Int)×Unit)×Int×Unit)×Unit)))).bind fun a6 =>
 some (Step.more (a6,wI (r4.1+1),wI (s1.2.2.1+1),())) else none) else none) else none) else
 some (Step.done (s1.1,s1.2.1,())))) N (x.1,x.2.1,0,())).bind fun r7=>match r7 with
| .inl y8=>some (y8.2.1,y8.1,())
| .inr z9=>some (z9.1,z9.2.1,())
end Go.Rf
namespace Go.Rf
def s_l12At (N:Nat) (x:List (ByteArray×List (ByteArray)×List (ByteArray)×List (ByteArray×Int×Unit)×List (ByteArray×(List (Int×Int×ByteArray×List (ByteArray)×List (Int)×Unit)×Int×Unit)×Unit)×List (ByteArray×(List (Int×Int×ByteArray×List (ByteArray)×List (Int)×Unit)×Int×Unit)×Unit)×Unit)×ByteArray×Unit):Option (Int×Unit) :=
(iter (A:=Int×Unit) (B:=Unit) (C:=Int×Unit) (fun s1 =>
(if (decide (s1.1<(List.length x.1:Int)))=true then
(if inB s1.1 (List.length x.1) then
(if (decide (((List.getD x.1 (Int.toNat s1.1) (bE,([],([],([],([],([],()))))))).1)=x.2.1))=true then
 some (Step.ret (s1.1,())) else
 some (Step.more (wI (s1.1+1),()))) else none) else
 some (Step.done (())))) N (0,())).bind fun r2=>match r2 with
| .inl y3=>some ((-1),())
| .inr z4=>some (z4.1,())
def s_l12Ok (N:Nat) (x:List (ByteArray×List (ByteArray)×List (ByteArray)×List (ByteArray×Int×Unit)×List (ByteArray×(List (Int×Int×ByteArray×List (ByteArray)×List (Int)×Unit)×Int×Unit)×Unit)×List (ByteArray×(List (Int×Int×ByteArray×List (ByteArray)×List (Int)×Unit)×Int×Unit)×Unit)×Unit)×Unit):Option (Bool×Unit) :=
(iter (A:=Int×Unit) (B:=Unit) (C:=Bool×Unit) (fun s1 =>
(if (decide (s1.1<(List.length x.1:Int)))=true then
(if inB s1.1 (List.length x.1) then
(s_SrcOk N (List.getD x.1 (Int.toNat s1.1) (bE,([],([],([],([],([],())))))),())).bind fun r2 =>
(if (!r2.1)=true then
 some (Step.ret (false,())) else (if cutB 0 s1.1 (List.length x.1) then
(if inB s1.1 (List.length x.1) then
(s_l12At N (List.drop (Int.toNat 0) (List.take (Int.toNat s1.1) x.1),(List.getD x.1 (Int.toNat s1.1) (bE,([],([],([],([],([],()))))))).1,())).bind fun r3 =>
(if (decide (r3.1≥0))=true then
 some (Step.ret (false,())) else
(iter (A:=Int×Unit) (B:=Unit) (C:=Bool×Unit) (fun s4 =>
(if inB s1.1 (List.length x.1) then
(if (decide (s4.1<(List.length (((List.getD x.1 (Int.toNat s1.1) (bE,([],([],([],([],([],()))))))).2).1):Int)))=true then
(if inB s1.1 (List.length x.1) then
(if inB s4.1 (List.length (((List.getD x.1 (Int.toNat s1.1) (bE,([],([],([],([],([],()))))))).2).1)) then
(s_l12At N (x.1,List.getD (((List.getD x.1 (Int.toNat s1.1) (bE,([],([],([],([],([],()))))))).2).1) (Int.toNat s4.1) bE,())).bind fun r5 =>
(if (decide (r5.1<0))=true then
 some (Step.ret (false,())) else
 some (Step.more (wI (s4.1+1),()))) else none) else none) else
 some (Step.done (()))) else none)) N (0,())).bind fun r6=>match r6 with
| .inl y7=>some (Step.more (wI (s1.1+1),()))
| .inr z8=>some (Step.ret (z8.1,()))) else none) else none)) else none) else
 some (Step.done (())))) N (0,())).bind fun r9=>match r9 with
| .inl y10=>some (true,())
| .inr z11=>some (z11.1,())
def s_l12All (N:Nat) (x:List (ByteArray)×List (ByteArray)×Unit):Option (Bool×Unit) :=
(iter (A:=Int×Unit) (B:=Unit) (C:=Bool×Unit) (fun s1 =>
(if (decide (s1.1<(List.length x.1:Int)))=true then
(if inB s1.1 (List.length x.1) then
(s_l3In N (x.2.1,List.getD x.1 (Int.toNat s1.1) bE,())).bind fun r2 =>
(if (!r2.1)=true then
 some (Step.ret (false,())) else
 some (Step.more (wI (s1.1+1),()))) else none) else
 some (Step.done (())))) N (0,())).bind fun r3=>match r3 with
| .inl y4=>some (true,())
| .inr z5=>some (z5.1,())
def s_l12Order (N:Nat) (x:List (ByteArray×List (ByteArray)×List (ByteArray)×List (ByteArray×Int×Unit)×List (ByteArray×(List (Int×Int×ByteArray×List (ByteArray)×List (Int)×Unit)×Int×Unit)×Unit)×List (ByteArray×(List (Int×Int×ByteArray×List (ByteArray)×List (Int)×Unit)×Int×Unit)×Unit)×Unit)×Unit):Option (List (ByteArray)×Bool×Unit) :=
(iter (A:=List (ByteArray)×Unit) (B:=List (ByteArray)×Unit) (C:=List (ByteArray)×Bool×Unit) (fun s1 =>
(if (decide ((List.length s1.1:Int)<(List.length x.1:Int)))=true then
(iter (A:=List (ByteArray)×ByteArray×Int×Unit) (B:=List (ByteArray)×ByteArray×Unit) (C:=List (ByteArray)×Bool×Unit) (fun s2 =>
(if (decide (s2.2.2.1<(List.length x.1:Int)))=true then
(if inB s2.2.2.1 (List.length x.1) then
(s_l3In N (s2.1,(List.getD x.1 (Int.toNat s2.2.2.1) (bE,([],([],([],([],([],()))))))).1,())).bind fun r3 =>
((if (!r3.1)=true then
(if inB s2.2.2.1 (List.length x.1) then
(s_l12All N (((List.getD x.1 (Int.toNat s2.2.2.1) (bE,([],([],([],([],([],()))))))).2).1,s2.1,())).bind fun r4 =>
 some r4.1 else none) else some false)).bind fun b5 =>
((if b5=true then
((if (decide (s2.2.1=(ByteArray.mk #[])))=true then
 some true else some (Op.bytesLess (ByteArray.toList ((List.getD x.1 (Int.toNat s2.2.2.1) (bE,([],([],([],([],([],()))))))).1)) (ByteArray.toList s2.2.1)))).bind fun b6 =>
 some b6 else some false)).bind fun b7 =>
((if b7=true then
 some (s2.1,(List.getD x.1 (Int.toNat s2.2.2.1) (bE,([],([],([],([],([],()))))))).1,()) else
 some (s2.1,s2.2.1,())):Option (List (ByteArray)×ByteArray×Unit)).bind fun j8 =>
 some (Step.more (j8.1,j8.2.1,wI (s2.2.2.1+1),())) else none) else
 some (Step.done (s2.1,s2.2.1,())))) N (s1.1,ByteArray.mk #[],0,())).bind fun r9=>match r9 with
| .inl y10=>(if (decide (y10.2.1=(ByteArray.mk #[])))=true then
 some (Step.ret ([],false,())) else
(if List.length y10.1+List.length ([y10.2.1]:List (ByteArray))≤4294967296 then
 some (Step.more (y10.1++([y10.2.1]:List (ByteArray)),())) else none))
| .inr z11=>some (Step.ret (z11.1,z11.2.1,())) else
 some (Step.done (s1.1,())))) N ([],())).bind fun r12=>match r12 with
| .inl y13=>some (y13.1,true,())
| .inr z14=>some (z14.1,z14.2.1,())
def s_Order (N:Nat) (x:List (ByteArray×List (ByteArray)×List (ByteArray)×List (ByteArray×Int×Unit)×List (ByteArray×(List (Int×Int×ByteArray×List (ByteArray)×List (Int)×Unit)×Int×Unit)×Unit)×List (ByteArray×(List (Int×Int×ByteArray×List (ByteArray)×List (Int)×Unit)×Int×Unit)×Unit)×Unit)×Unit):Option (List (ByteArray)×Bool×Unit) :=
(s_l12Ok N (x.1,())).bind fun r1 =>
(if (!r1.1)=true then
 some ([],false,()) else
(s_l12Order N (x.1,())).bind fun r2 =>
 some (r2.1,r2.2.1,()))
def i_namesOfSrcs (N:Nat) (x:List (ByteArray×List (ByteArray)×List (ByteArray)×List (ByteArray×Int×Unit)×List (ByteArray×(List (Int×Int×ByteArray×List (ByteArray)×List (Int)×Unit)×Int×Unit)×Unit)×List (ByteArray×(List (Int×Int×ByteArray×List (ByteArray)×List (Int)×Unit)×Int×Unit)×Unit)×Unit)×Unit):Option (List (ByteArray)×Unit) :=
(iter (A:=List (ByteArray)×Int×Unit) (B:=List (ByteArray)×Unit) (C:=List (ByteArray)×Unit) (fun s1 =>
(if (decide (s1.2.1<(List.length x.1:Int)))=true then
(if inB s1.2.1 (List.length x.1) then
(if List.length s1.1+List.length ([(List.getD x.1 (Int.toNat s1.2.1) (bE,([],([],([],([],([],()))))))).1]:List (ByteArray))≤4294967296 then
 some (Step.more (s1.1++([(List.getD x.1 (Int.toNat s1.2.1) (bE,([],([],([],([],([],()))))))).1]:List (ByteArray)),wI (s1.2.1+1),())) else none) else none) else
 some (Step.done (s1.1,())))) N ([],0,())).bind fun r2=>match r2 with
| .inl y3=>some (y3.1,())
| .inr z4=>some (z4.1,())
def i_order (N:Nat) (x:List (ByteArray×List (ByteArray)×List (ByteArray)×List (ByteArray×Int×Unit)×List (ByteArray×(List (Int×Int×ByteArray×List (ByteArray)×List (Int)×Unit)×Int×Unit)×Unit)×List (ByteArray×(List (Int×Int×ByteArray×List (ByteArray)×List (Int)×Unit)×Int×Unit)×Unit)×Unit)×Unit):Option (List (ByteArray)×Bool×Unit) :=
(iter (A:=List (ByteArray)×Unit) (B:=List (ByteArray)×Unit) (C:=List (ByteArray)×Bool×Unit) (fun s1 =>
(if (decide ((List.length s1.1:Int)<(List.length x.1:Int)))=true then
(iter (A:=List (ByteArray)×Int×Int×Unit) (B:=List (ByteArray)×Int×Unit) (C:=List (ByteArray)×Bool×Unit) (fun s2 =>
(if (decide (s2.2.2.1<(List.length x.1:Int)))=true then
(if inB s2.2.2.1 (List.length x.1) then
(g_slices_Contains_string_string_ N (s2.1,(List.getD x.1 (Int.toNat s2.2.2.1) (bE,([],([],([],([],([],()))))))).1,())).bind fun r3 =>
(if (!r3.1)=true then
(i_areIn N (((List.getD x.1 (Int.toNat s2.2.2.1) (bE,([],([],([],([],([],()))))))).2).1,s2.1,())).bind fun r4 =>
(if r4.1=true then
(if (decide (s2.2.1<0))=true then
 some (Step.more (s2.1,s2.2.2.1,wI (s2.2.2.1+1),())) else (if inB s2.2.1 (List.length x.1) then
((if (Op.bytesLess (ByteArray.toList ((List.getD x.1 (Int.toNat s2.2.2.1) (bE,([],([],([],([],([],()))))))).1)) (ByteArray.toList ((List.getD x.1 (Int.toNat s2.2.1) (bE,([],([],([],([],([],()))))))).1)))=true then
 some (s2.1,s2.2.2.1,()) else
 some (s2.1,s2.2.1,())):Option (List (ByteArray)×Int×Unit)).bind fun j5 =>
 some (Step.more (j5.1,j5.2.1,wI (s2.2.2.1+1),())) else none)) else some (Step.more (s2.1,s2.2.1,wI (s2.2.2.1+1),()))) else some (Step.more (s2.1,s2.2.1,wI (s2.2.2.1+1),()))) else none) else
 some (Step.done (s2.1,s2.2.1,())))) N (s1.1,(-1),0,())).bind fun r6=>match r6 with
| .inl y7=>(if (decide (y7.2.1<0))=true then
 some (Step.ret ([],false,())) else
(if inB y7.2.1 (List.length x.1) then
(if List.length y7.1+List.length ([(List.getD x.1 (Int.toNat y7.2.1) (bE,([],([],([],([],([],()))))))).1]:List (ByteArray))≤4294967296 then
 some (Step.more (y7.1++([(List.getD x.1 (Int.toNat y7.2.1) (bE,([],([],([],([],([],()))))))).1]:List (ByteArray)),())) else none) else none))
| .inr z8=>some (Step.ret (z8.1,z8.2.1,())) else
 some (Step.done (s1.1,())))) N ([],())).bind fun r9=>match r9 with
| .inl y10=>some (y10.1,true,())
| .inr z11=>some (z11.1,z11.2.1,())
def i_Order (N:Nat) (x:List (ByteArray×List (ByteArray)×List (ByteArray)×List (ByteArray×Int×Unit)×List (ByteArray×(List (Int×Int×ByteArray×List (ByteArray)×List (Int)×Unit)×Int×Unit)×Unit)×List (ByteArray×(List (Int×Int×ByteArray×List (ByteArray)×List (Int)×Unit)×Int×Unit)×Unit)×Unit)×Unit):Option (List (ByteArray)×Bool×Unit) :=
(i_namesOfSrcs N (x.1,())).bind fun r1 =>
(iter (A:=List (ByteArray)×Int×Unit) (B:=List (ByteArray)×Unit) (C:=List (ByteArray)×Bool×Unit) (fun s2 =>
(if (decide (s2.2.1<(List.length x.1:Int)))=true then
(if inB s2.2.1 (List.length x.1) then
(i_SrcOk N (List.getD x.1 (Int.toNat s2.2.1) (bE,([],([],([],([],([],())))))),())).bind fun r3 =>
((if (!r3.1)=true then
 some true else (i_areIn N (((List.getD x.1 (Int.toNat s2.2.1) (bE,([],([],([],([],([],()))))))).2).1,s2.1,())).bind fun r4 =>
 some (!r4.1))).bind fun b5 =>
(if b5=true then
 some (Step.ret ([],false,())) else
 some (Step.more (s2.1,wI (s2.2.1+1),()))) else none) else
 some (Step.done (s2.1,())))) N (r1.1,0,())).bind fun r6=>match r6 with
| .inl y7=>(i_isOnce N (y7.1,())).bind fun r9 =>
(if (!r9.1)=true then
 some ([],false,()) else
(i_order N (x.1,())).bind fun r10 =>
 some (r10.1,r10.2.1,()))
| .inr z8=>some (z8.1,z8.2.1,())
end Go.Rf
namespace Go.Rf
abbrev Y228:=ByteArray×Int×ByteArray×Unit
abbrev Y103:=Int×Int×ByteArray×Unit
abbrev Y180:=Int×Int×ByteArray×List (ByteArray)×List (Int)×Unit
abbrev Y64:=Int×ByteArray×Int×Int×List (ByteArray)×List (Y103)×Unit
abbrev Y188:=ByteArray×(List (Y180)×Int×Unit)×Unit
abbrev Y167:=Int×(List (Y180)×Int×Unit)×Unit
abbrev Y194:=Int×Int×List (Y103)×List (ByteArray×Y103×Unit)×Unit
abbrev Y114:=ByteArray×Int×List (ByteArray)×List (Y103)×List (Y228)×List (ByteArray×Int×Unit)×Unit
abbrev Y106:=Int×Int×Int×List (ByteArray×Y103×Unit)×Y103×List (Y194)×Int×Unit
abbrev Y75:=ByteArray×List (ByteArray)×List (ByteArray)×List (ByteArray×Int×Unit)×List (Y188)×List (Y188)×Unit
abbrev Y26:=List (Y64)×List (Y114)×List (Y167)×List (ByteArray)×Unit
abbrev Y30:=Y26×List (Y75×Int×Int×Unit)×List (Int×Y106×Unit)×Int×Unit
def l_szLink (N:Nat) (x:(Y228)×Int×Unit):Option (Int×Unit) :=
(if (decide ((wI (x.2.1-(ByteArray.size x.1.1:Int)))<0))=true then
 some ((-1),()) else
(if (decide ((wI ((wI (x.2.1-(ByteArray.size x.1.1:Int)))-(ByteArray.size x.1.2.2.1:Int)))<0))=true then
 some ((-1),()) else
 some (wI ((wI (x.2.1-(ByteArray.size x.1.1:Int)))-(ByteArray.size x.1.2.2.1:Int)),())))
def l_szLinkS (N:Nat) (x:List (Y228)×Int×Unit):Option (Int×Unit) :=
(if (decide ((wI (x.2.1-(List.length x.1:Int)))<0))=true then
 some ((-1),()) else
(iter (A:=Int×Int×Unit) (B:=Int×Unit) (C:=Int×Unit) (fun s1 =>
(if (decide (s1.2.1<(List.length x.1:Int)))=true then
(if inB s1.2.1 (List.length x.1) then
(l_szLink N (List.getD x.1 (Int.toNat s1.2.1) (bE,(0,(bE,()))),s1.1,())).bind fun r2 =>
(if (decide (r2.1<0))=true then
 some (Step.ret ((-1),())) else
 some (Step.more (r2.1,wI (s1.2.1+1),()))) else none) else
 some (Step.done (s1.1,())))) N (wI (x.2.1-(List.length x.1:Int)),0,())).bind fun r3=>match r3 with
| .inl y4=>some (y4.1,())
| .inr z5=>some (z5.1,()))
def l_szInst (N:Nat) (x:(Y114)×Int×Unit):Option (Int×Unit) :=
(if (decide ((wI (x.2.1-(ByteArray.size x.1.1:Int)))<0))=true then
 some ((-1),()) else
(l_szStringS N (x.1.2.2.1,wI (x.2.1-(ByteArray.size x.1.1:Int)),())).bind fun r1 =>
(if (decide (r1.1<0))=true then
 some ((-1),()) else
(l_szValueS N (x.1.2.2.2.1,r1.1,())).bind fun r2 =>
(if (decide (r2.1<0))=true then
 some ((-1),()) else
(l_szLinkS N (x.1.2.2.2.2.1,r2.1,())).bind fun r3 =>
(if (decide (r3.1<0))=true then
 some ((-1),()) else
(l_szTypeS N (x.1.2.2.2.2.2.1,r3.1,())).bind fun r4 =>
(if (decide (r4.1<0))=true then
 some ((-1),()) else
 some (r4.1,()))))))
def l_szInstS (N:Nat) (x:List (Y114)×Int×Unit):Option (Int×Unit) :=
(if (decide ((wI (x.2.1-(List.length x.1:Int)))<0))=true then
 some ((-1),()) else
(iter (A:=Int×Int×Unit) (B:=Int×Unit) (C:=Int×Unit) (fun s1 =>
(if (decide (s1.2.1<(List.length x.1:Int)))=true then
(if inB s1.2.1 (List.length x.1) then
(l_szInst N (List.getD x.1 (Int.toNat s1.2.1) (bE,(0,([],([],([],([],())))))),s1.1,())).bind fun r2 =>
(if (decide (r2.1<0))=true then
 some (Step.ret ((-1),())) else
 some (Step.more (r2.1,wI (s1.2.1+1),()))) else none) else
 some (Step.done (s1.1,())))) N (wI (x.2.1-(List.length x.1:Int)),0,())).bind fun r3=>match r3 with
| .inl y4=>some (y4.1,())
| .inr z5=>some (z5.1,()))
def l_szUnit (N:Nat) (x:(Y167)×Int×Unit):Option (Int×Unit) :=
(l_szProg N (x.1.2.1,x.2.1,())).bind fun r1 =>
(if (decide (r1.1<0))=true then
 some ((-1),()) else
 some (r1.1,()))
def l_szUnitS (N:Nat) (x:List (Y167)×Int×Unit):Option (Int×Unit) :=
(if (decide ((wI (x.2.1-(List.length x.1:Int)))<0))=true then
 some ((-1),()) else
(iter (A:=Int×Int×Unit) (B:=Int×Unit) (C:=Int×Unit) (fun s1 =>
(if (decide (s1.2.1<(List.length x.1:Int)))=true then
(if inB s1.2.1 (List.length x.1) then
(l_szUnit N (List.getD x.1 (Int.toNat s1.2.1) (0,(([],(0,())),())),s1.1,())).bind fun r2 =>
(if (decide (r2.1<0))=true then
 some (Step.ret ((-1),())) else
 some (Step.more (r2.1,wI (s1.2.1+1),()))) else none) else
 some (Step.done (s1.1,())))) N (wI (x.2.1-(List.length x.1:Int)),0,())).bind fun r3=>match r3 with
| .inl y4=>some (y4.1,())
| .inr z5=>some (z5.1,()))
def l_szSys (N:Nat) (x:(Y26)×Int×Unit):Option (Int×Unit) :=
(l_szCellS N (x.1.1,x.2.1,())).bind fun r1 =>
(if (decide (r1.1<0))=true then
 some ((-1),()) else
(l_szInstS N (x.1.2.1,r1.1,())).bind fun r2 =>
(if (decide (r2.1<0))=true then
 some ((-1),()) else
(l_szUnitS N (x.1.2.2.1,r2.1,())).bind fun r3 =>
(if (decide (r3.1<0))=true then
 some ((-1),()) else
(l_szStringS N (x.1.2.2.2.1,r3.1,())).bind fun r4 =>
(if (decide (r4.1<0))=true then
 some ((-1),()) else
 some (r4.1,())))))
def l_szEnt (N:Nat) (x:(Y75×Int×Int×Unit)×Int×Unit):Option (Int×Unit) :=
(l_szSrc N (x.1.1,x.2.1,())).bind fun r1 =>
(if (decide (r1.1<0))=true then
 some ((-1),()) else
 some (r1.1,()))
def l_szEntS (N:Nat) (x:List (Y75×Int×Int×Unit)×Int×Unit):Option (Int×Unit) :=
(if (decide ((wI (x.2.1-(List.length x.1:Int)))<0))=true then
 some ((-1),()) else
(iter (A:=Int×Int×Unit) (B:=Int×Unit) (C:=Int×Unit) (fun s1 =>
(if (decide (s1.2.1<(List.length x.1:Int)))=true then
(if inB s1.2.1 (List.length x.1) then
(l_szEnt N (List.getD x.1 (Int.toNat s1.2.1) ((bE,([],([],([],([],([],())))))),(0,(0,()))),s1.1,())).bind fun r2 =>
(if (decide (r2.1<0))=true then
 some (Step.ret ((-1),())) else
 some (Step.more (r2.1,wI (s1.2.1+1),()))) else none) else
 some (Step.done (s1.1,())))) N (wI (x.2.1-(List.length x.1:Int)),0,())).bind fun r3=>match r3 with
| .inl y4=>some (y4.1,())
| .inr z5=>some (z5.1,()))
def l_szBind (N:Nat) (x:(ByteArray×Y103×Unit)×Int×Unit):Option (Int×Unit) :=
(if (decide ((wI (x.2.1-(ByteArray.size x.1.1:Int)))<0))=true then
 some ((-1),()) else
(l_szValue N (x.1.2.1,wI (x.2.1-(ByteArray.size x.1.1:Int)),())).bind fun r1 =>
(if (decide (r1.1<0))=true then
 some ((-1),()) else
 some (r1.1,())))
def l_szBindS (N:Nat) (x:List (ByteArray×Y103×Unit)×Int×Unit):Option (Int×Unit) :=
(if (decide ((wI (x.2.1-(List.length x.1:Int)))<0))=true then
 some ((-1),()) else
(iter (A:=Int×Int×Unit) (B:=Int×Unit) (C:=Int×Unit) (fun s1 =>
(if (decide (s1.2.1<(List.length x.1:Int)))=true then
(if inB s1.2.1 (List.length x.1) then
(l_szBind N (List.getD x.1 (Int.toNat s1.2.1) (bE,((0,(0,(bE,()))),())),s1.1,())).bind fun r2 =>
(if (decide (r2.1<0))=true then
 some (Step.ret ((-1),())) else
 some (Step.more (r2.1,wI (s1.2.1+1),()))) else none) else
 some (Step.done (s1.1,())))) N (wI (x.2.1-(List.length x.1:Int)),0,())).bind fun r3=>match r3 with
| .inl y4=>some (y4.1,())
| .inr z5=>some (z5.1,()))
def l_szFrame (N:Nat) (x:(Y194)×Int×Unit):Option (Int×Unit) :=
(l_szValueS N (x.1.2.2.1,x.2.1,())).bind fun r1 =>
(if (decide (r1.1<0))=true then
 some ((-1),()) else
(l_szBindS N (x.1.2.2.2.1,r1.1,())).bind fun r2 =>
(if (decide (r2.1<0))=true then
 some ((-1),()) else
 some (r2.1,())))
def l_szFrameS (N:Nat) (x:List (Y194)×Int×Unit):Option (Int×Unit) :=
(if (decide ((wI (x.2.1-(List.length x.1:Int)))<0))=true then
 some ((-1),()) else
(iter (A:=Int×Int×Unit) (B:=Int×Unit) (C:=Int×Unit) (fun s1 =>
(if (decide (s1.2.1<(List.length x.1:Int)))=true then
(if inB s1.2.1 (List.length x.1) then
(l_szFrame N (List.getD x.1 (Int.toNat s1.2.1) (0,(0,([],([],())))),s1.1,())).bind fun r2 =>
(if (decide (r2.1<0))=true then
 some (Step.ret ((-1),())) else
 some (Step.more (r2.1,wI (s1.2.1+1),()))) else none) else
 some (Step.done (s1.1,())))) N (wI (x.2.1-(List.length x.1:Int)),0,())).bind fun r3=>match r3 with
| .inl y4=>some (y4.1,())
| .inr z5=>some (z5.1,()))
def l_szMachine (N:Nat) (x:(Y106)×Int×Unit):Option (Int×Unit) :=
(l_szBindS N (x.1.2.2.2.1,x.2.1,())).bind fun r1 =>
(if (decide (r1.1<0))=true then
 some ((-1),()) else
(l_szValue N (x.1.2.2.2.2.1,r1.1,())).bind fun r2 =>
(if (decide (r2.1<0))=true then
 some ((-1),()) else
(l_szFrameS N (x.1.2.2.2.2.2.1,r2.1,())).bind fun r3 =>
(if (decide (r3.1<0))=true then
 some ((-1),()) else
 some (r3.1,()))))
def l_szTask (N:Nat) (x:(Int×Y106×Unit)×Int×Unit):Option (Int×Unit) :=
(l_szMachine N (x.1.2.1,x.2.1,())).bind fun r1 =>
(if (decide (r1.1<0))=true then
 some ((-1),()) else
 some (r1.1,()))
def l_szTaskS (N:Nat) (x:List (Int×Y106×Unit)×Int×Unit):Option (Int×Unit) :=
(if (decide ((wI (x.2.1-(List.length x.1:Int)))<0))=true then
 some ((-1),()) else
(iter (A:=Int×Int×Unit) (B:=Int×Unit) (C:=Int×Unit) (fun s1 =>
(if (decide (s1.2.1<(List.length x.1:Int)))=true then
(if inB s1.2.1 (List.length x.1) then
(l_szTask N (List.getD x.1 (Int.toNat s1.2.1) (0,((0,(0,(0,([],((0,(0,(bE,()))),([],(0,()))))))),())),s1.1,())).bind fun r2 =>
(if (decide (r2.1<0))=true then
 some (Step.ret ((-1),())) else
 some (Step.more (r2.1,wI (s1.2.1+1),()))) else none) else
 some (Step.done (s1.1,())))) N (wI (x.2.1-(List.length x.1:Int)),0,())).bind fun r3=>match r3 with
| .inl y4=>some (y4.1,())
| .inr z5=>some (z5.1,()))
def l_szWorld (N:Nat) (x:(Y30)×Int×Unit):Option (Int×Unit) :=
(l_szSys N (x.1.1,x.2.1,())).bind fun r1 =>
(if (decide (r1.1<0))=true then
 some ((-1),()) else
(l_szEntS N (x.1.2.1,r1.1,())).bind fun r2 =>
(if (decide (r2.1<0))=true then
 some ((-1),()) else
(l_szTaskS N (x.1.2.2.1,r2.1,())).bind fun r3 =>
(if (decide (r3.1<0))=true then
 some ((-1),()) else
 some (r3.1,()))))
def s_l8InstOk (N:Nat) (x:(Y26)×Int×Unit):Option (Bool×Unit) :=
(if inB x.2.1 (List.length x.1.2.1) then
((if (decide (x.2.1=0))=true then
((if (!decide (((List.getD x.1.2.1 (Int.toNat x.2.1) (bE,(0,([],([],([],([],()))))))).1)=(ByteArray.mk #[])))=true then
 some true else some (!decide ((((List.getD x.1.2.1 (Int.toNat x.2.1) (bE,(0,([],([],([],([],()))))))).2).1)=0)))).bind fun b1 =>
 some b1 else some false)).bind fun b2 =>
((if b2=true then
 some true else ((if (decide (x.2.1>0))=true then
(s_IsName N ((List.getD x.1.2.1 (Int.toNat x.2.1) (bE,(0,([],([],([],([],()))))))).1,())).bind fun r3 =>
((if (!r3.1)=true then
 some true else (s_l1In N (((List.getD x.1.2.1 (Int.toNat x.2.1) (bE,(0,([],([],([],([],()))))))).2).1,1,1000,())).bind fun r4 =>
 some (!r4.1))).bind fun b5 =>
 some b5 else some false)).bind fun b6 =>
 some b6)).bind fun b7 =>
((if b7=true then
 some true else (s_l3Names N ((((List.getD x.1.2.1 (Int.toNat x.2.1) (bE,(0,([],([],([],([],()))))))).2).2).1,30,())).bind fun r8 =>
 some (!r8.1))).bind fun b9 =>
((if b9=true then
 some true else some (!decide ((List.length (((((List.getD x.1.2.1 (Int.toNat x.2.1) (bE,(0,([],([],([],([],()))))))).2).2).2).1):Int)=(List.length ((((List.getD x.1.2.1 (Int.toNat x.2.1) (bE,(0,([],([],([],([],()))))))).2).2).1):Int))))).bind fun b10 =>
((if b10=true then
 some true else some (decide ((List.length ((((((List.getD x.1.2.1 (Int.toNat x.2.1) (bE,(0,([],([],([],([],()))))))).2).2).2).2).1):Int)>30)))).bind fun b11 =>
((if b11=true then
 some true else some (decide ((List.length (((((((List.getD x.1.2.1 (Int.toNat x.2.1) (bE,(0,([],([],([],([],()))))))).2).2).2).2).2).1):Int)>8)))).bind fun b12 =>
(if b12=true then
 some (false,()) else
(iter (A:=Int×Unit) (B:=Unit) (C:=Bool×Unit) (fun s13 =>
(if (decide (s13.1<(List.length (((((List.getD x.1.2.1 (Int.toNat x.2.1) (bE,(0,([],([],([],([],()))))))).2).2).2).1):Int)))=true then
(if inB s13.1 (List.length (((((List.getD x.1.2.1 (Int.toNat x.2.1) (bE,(0,([],([],([],([],()))))))).2).2).2).1)) then
(if (!(decide (((List.getD (((((List.getD x.1.2.1 (Int.toNat x.2.1) (bE,(0,([],([],([],([],()))))))).2).2).2).1) (Int.toNat s13.1) (0,(0,(bE,())))).1)=0) && (decide ((((List.getD (((((List.getD x.1.2.1 (Int.toNat x.2.1) (bE,(0,([],([],([],([],()))))))).2).2).2).1) (Int.toNat s13.1) (0,(0,(bE,())))).2).1)=0) && (decide (((((List.getD (((((List.getD x.1.2.1 (Int.toNat x.2.1) (bE,(0,([],([],([],([],()))))))).2).2).2).1) (Int.toNat s13.1) (0,(0,(bE,())))).2).2).1)=bE) && (true)))))=true then
(if inB s13.1 (List.length (((((List.getD x.1.2.1 (Int.toNat x.2.1) (bE,(0,([],([],([],([],()))))))).2).2).2).1)) then
(s_ValueOk N (x.1.1,List.getD (((((List.getD x.1.2.1 (Int.toNat x.2.1) (bE,(0,([],([],([],([],()))))))).2).2).2).1) (Int.toNat s13.1) (0,(0,(bE,()))),())).bind fun r14 =>
(if (!r14.1)=true then
 some (Step.ret (false,())) else
 some (Step.more (wI (s13.1+1),()))) else none) else some (Step.more (wI (s13.1+1),()))) else none) else
 some (Step.done (())))) N (0,())).bind fun r15=>match r15 with
| .inl y16=>(if List.length ((((List.getD x.1.2.1 (Int.toNat x.2.1) (bE,(0,([],([],([],([],()))))))).2).2).1)≤4294967296 then
(iter (A:=List (ByteArray)×Int×Unit) (B:=Unit) (C:=Bool×Unit) (fun s18 =>
(if (decide (s18.2.1<(List.length ((((((List.getD x.1.2.1 (Int.toNat x.2.1) (bE,(0,([],([],([],([],()))))))).2).2).2).2).1):Int)))=true then
(if inB s18.2.1 (List.length ((((((List.getD x.1.2.1 (Int.toNat x.2.1) (bE,(0,([],([],([],([],()))))))).2).2).2).2).1)) then
(s_IsName N ((List.getD ((((((List.getD x.1.2.1 (Int.toNat x.2.1) (bE,(0,([],([],([],([],()))))))).2).2).2).2).1) (Int.toNat s18.2.1) (bE,(0,(bE,())))).1,())).bind fun r19 =>
((if (!r19.1)=true then
 some true else (s_l3In N (s18.1,(List.getD ((((((List.getD x.1.2.1 (Int.toNat x.2.1) (bE,(0,([],([],([],([],()))))))).2).2).2).2).1) (Int.toNat s18.2.1) (bE,(0,(bE,())))).1,())).bind fun r20 =>
 some r20.1)).bind fun b21 =>
((if b21=true then
 some true else some (decide ((((List.getD ((((((List.getD x.1.2.1 (Int.toNat x.2.1) (bE,(0,([],([],([],([],()))))))).2).2).2).2).1) (Int.toNat s18.2.1) (bE,(0,(bE,())))).2).1)<0)))).bind fun b22 =>
((if b22=true then
 some true else some (decide ((((List.getD ((((((List.getD x.1.2.1 (Int.toNat x.2.1) (bE,(0,([],([],([],([],()))))))).2).2).2).2).1) (Int.toNat s18.2.1) (bE,(0,(bE,())))).2).1)≥(List.length x.1.2.1:Int))))).bind fun b23 =>
((if b23=true then
 some true else (s_IsName N ((((List.getD ((((((List.getD x.1.2.1 (Int.toNat x.2.1) (bE,(0,([],([],([],([],()))))))).2).2).2).2).1) (Int.toNat s18.2.1) (bE,(0,(bE,())))).2).2).1,())).bind fun r24 =>
 some (!r24.1))).bind fun b25 =>
(if b25=true then
 some (Step.ret (false,())) else
(if List.length s18.1+List.length ([(List.getD ((((((List.getD x.1.2.1 (Int.toNat x.2.1) (bE,(0,([],([],([],([],()))))))).2).2).2).2).1) (Int.toNat s18.2.1) (bE,(0,(bE,())))).1]:List (ByteArray))≤4294967296 then
 some (Step.more (s18.1++([(List.getD ((((((List.getD x.1.2.1 (Int.toNat x.2.1) (bE,(0,([],([],([],([],()))))))).2).2).2).2).1) (Int.toNat s18.2.1) (bE,(0,(bE,())))).1]:List (ByteArray)),wI (s18.2.1+1),())) else none)) else none) else
 some (Step.done (())))) N ((((List.getD x.1.2.1 (Int.toNat x.2.1) (bE,(0,([],([],([],([],()))))))).2).2).1,0,())).bind fun r26=>match r26 with
| .inl y27=>((iter (A:=List (ByteArray)×Int×Unit) (B:=Unit) (C:=Bool×Unit) (fun s29 =>
(if (decide (s29.2.1<(List.length (((((((List.getD x.1.2.1 (Int.toNat x.2.1) (bE,(0,([],([],([],([],()))))))).2).2).2).2).2).1):Int)))=true then
(if inB s29.2.1 (List.length (((((((List.getD x.1.2.1 (Int.toNat x.2.1) (bE,(0,([],([],([],([],()))))))).2).2).2).2).2).1)) then
(s_IsName N ((List.getD (((((((List.getD x.1.2.1 (Int.toNat x.2.1) (bE,(0,([],([],([],([],()))))))).2).2).2).2).2).1) (Int.toNat s29.2.1) (bE,(0,()))).1,())).bind fun r30 =>
((if (!r30.1)=true then
 some true else (if inB s29.2.1 (List.length (((((((List.getD x.1.2.1 (Int.toNat x.2.1) (bE,(0,([],([],([],([],()))))))).2).2).2).2).2).1)) then
(s_l3In N (s29.1,(List.getD (((((((List.getD x.1.2.1 (Int.toNat x.2.1) (bE,(0,([],([],([],([],()))))))).2).2).2).2).2).1) (Int.toNat s29.2.1) (bE,(0,()))).1,())).bind fun r31 =>
 some r31.1 else none))).bind fun b32 =>
((if b32=true then
 some true else (if inB s29.2.1 (List.length (((((((List.getD x.1.2.1 (Int.toNat x.2.1) (bE,(0,([],([],([],([],()))))))).2).2).2).2).2).1)) then
(s_l1In N (((List.getD (((((((List.getD x.1.2.1 (Int.toNat x.2.1) (bE,(0,([],([],([],([],()))))))).2).2).2).2).2).1) (Int.toNat s29.2.1) (bE,(0,()))).2).1,0,8,())).bind fun r33 =>
 some (!r33.1) else none))).bind fun b34 =>
(if b34=true then
 some (Step.ret (false,())) else
(if inB s29.2.1 (List.length (((((((List.getD x.1.2.1 (Int.toNat x.2.1) (bE,(0,([],([],([],([],()))))))).2).2).2).2).2).1)) then
(if List.length s29.1+List.length ([(List.getD (((((((List.getD x.1.2.1 (Int.toNat x.2.1) (bE,(0,([],([],([],([],()))))))).2).2).2).2).2).1) (Int.toNat s29.2.1) (bE,(0,()))).1]:List (ByteArray))≤4294967296 then
 some (Step.more (s29.1++([(List.getD (((((((List.getD x.1.2.1 (Int.toNat x.2.1) (bE,(0,([],([],([],([],()))))))).2).2).2).2).2).1) (Int.toNat s29.2.1) (bE,(0,()))).1]:List (ByteArray)),wI (s29.2.1+1),())) else none) else none)) else none) else
 some (Step.done (())))) N ([],0,())).bind fun r35=>match r35 with
| .inl y36=>some (true,())
| .inr z37=>some (z37.1,()))
| .inr z28=>some (z28.1,()) else none)
| .inr z17=>some (z17.1,())) else none)
def s_SysOk (N:Nat) (x:(Y26)×Unit):Option (Bool×Unit) :=
(s_HeapOk N (x.1.1,())).bind fun r1 =>
((if (!r1.1)=true then
 some true else (s_l1In N ((List.length x.1.2.1:Int),1,12,())).bind fun r2 =>
 some (!r2.1))).bind fun b3 =>
((if b3=true then
 some true else some (decide ((List.length x.1.2.2.1:Int)>60)))).bind fun b4 =>
((if b4=true then
 some true else some (decide ((List.length x.1.2.2.2.1:Int)>40)))).bind fun b5 =>
(if b5=true then
 some (false,()) else
(iter (A:=(Y26)×Int×Unit) (B:=(Y26)×Unit) (C:=Bool×Unit) (fun s6 =>
(if (decide (s6.2.1<(List.length s6.1.2.1:Int)))=true then
(s_l8InstOk N (s6.1,s6.2.1,())).bind fun r7 =>
(if (!r7.1)=true then
 some (Step.ret (false,())) else
 some (Step.more (s6.1,wI (s6.2.1+1),()))) else
 some (Step.done (s6.1,())))) N (x.1,0,())).bind fun r8=>match r8 with
| .inl y9=>((iter (A:=(Y26)×Int×Unit) (B:=(Y26)×Unit) (C:=Bool×Unit) (fun s11 =>
(if (decide (s11.2.1<(List.length s11.1.2.2.1:Int)))=true then
(if inB s11.2.1 (List.length s11.1.2.2.1) then
(if (decide (((List.getD s11.1.2.2.1 (Int.toNat s11.2.1) (0,(([],(0,())),()))).1)<0))=true then
 some (Step.ret (false,())) else (if inB s11.2.1 (List.length s11.1.2.2.1) then
(if (decide (((List.getD s11.1.2.2.1 (Int.toNat s11.2.1) (0,(([],(0,())),()))).1)≥(List.length s11.1.2.1:Int)))=true then
 some (Step.ret (false,())) else (if inB s11.2.1 (List.length s11.1.2.2.1) then
(s_ProgOk N (((List.getD s11.1.2.2.1 (Int.toNat s11.2.1) (0,(([],(0,())),()))).2).1,())).bind fun r12 =>
(if (!r12.1)=true then
 some (Step.ret (false,())) else
 some (Step.more (s11.1,wI (s11.2.1+1),()))) else none)) else none)) else none) else
 some (Step.done (s11.1,())))) N (y9.1,0,())).bind fun r13=>match r13 with
| .inl y14=>((iter (A:=(Y26)×Int×Unit) (B:=Unit) (C:=Bool×Unit) (fun s16 =>
(if (decide (s16.2.1<(List.length s16.1.1:Int)))=true then
(if inB s16.2.1 (List.length s16.1.1) then
(if (decide (((List.getD s16.1.1 (Int.toNat s16.2.1) (0,(bE,(0,(0,([],([],()))))))).1)=2))=true then
(if (decide (((((List.getD s16.1.1 (Int.toNat s16.2.1) (0,(bE,(0,(0,([],([],()))))))).2).2).1)≥(List.length s16.1.2.2.1:Int)))=true then
 some (Step.ret (false,())) else (if inB ((((List.getD s16.1.1 (Int.toNat s16.2.1) (0,(bE,(0,(0,([],([],()))))))).2).2).1) (List.length s16.1.2.2.1) then
(if (decide ((((((List.getD s16.1.1 (Int.toNat s16.2.1) (0,(bE,(0,(0,([],([],()))))))).2).2).2).1)≥(List.length ((((List.getD s16.1.2.2.1 (Int.toNat ((((List.getD s16.1.1 (Int.toNat s16.2.1) (0,(bE,(0,(0,([],([],()))))))).2).2).1)) (0,(([],(0,())),()))).2).1).1):Int)))=true then
 some (Step.ret (false,())) else (if inB ((((List.getD s16.1.1 (Int.toNat s16.2.1) (0,(bE,(0,(0,([],([],()))))))).2).2).1) (List.length s16.1.2.2.1) then
(if inB (((((List.getD s16.1.1 (Int.toNat s16.2.1) (0,(bE,(0,(0,([],([],()))))))).2).2).2).1) (List.length ((((List.getD s16.1.2.2.1 (Int.toNat ((((List.getD s16.1.1 (Int.toNat s16.2.1) (0,(bE,(0,(0,([],([],()))))))).2).2).1)) (0,(([],(0,())),()))).2).1).1)) then
(if (!decide (((List.getD ((((List.getD s16.1.2.2.1 (Int.toNat ((((List.getD s16.1.1 (Int.toNat s16.2.1) (0,(bE,(0,(0,([],([],()))))))).2).2).1)) (0,(([],(0,())),()))).2).1).1) (Int.toNat (((((List.getD s16.1.1 (Int.toNat s16.2.1) (0,(bE,(0,(0,([],([],()))))))).2).2).2).1)) (0,(0,(bE,([],([],())))))).1)=7))=true then
 some (Step.ret (false,())) else
 some (Step.more (s16.1,wI (s16.2.1+1),()))) else none) else none)) else none)) else some (Step.more (s16.1,wI (s16.2.1+1),()))) else none) else
 some (Step.done (())))) N (y14.1,0,())).bind fun r17=>match r17 with
| .inl y18=>some (true,())
| .inr z19=>some (z19.1,()))
| .inr z15=>some (z15.1,()))
| .inr z10=>some (z10.1,()))
def s_l8Name (N:Nat) (x:(Y114)×ByteArray×Unit):Option (Int×Unit) :=
(iter (A:=(Y114)×Int×Unit) (B:=Unit) (C:=Int×Unit) (fun s1 =>
(if (decide (s1.2.1<(List.length s1.1.2.2.1:Int)))=true then
(if inB s1.2.1 (List.length s1.1.2.2.1) then
(if (decide ((List.getD s1.1.2.2.1 (Int.toNat s1.2.1) bE)=x.2.1))=true then
 some (Step.ret (s1.2.1,())) else
 some (Step.more (s1.1,wI (s1.2.1+1),()))) else none) else
 some (Step.done (())))) N (x.1,0,())).bind fun r2=>match r2 with
| .inl y3=>some ((-1),())
| .inr z4=>some (z4.1,())
def s_l13Srcs (N:Nat) (x:(Y30)×Unit):Option (List (Y75)×Unit) :=
(iter (A:=(Y30)×List (Y75)×Int×Unit) (B:=List (Y75)×Unit) (C:=List (Y75)×Unit) (fun s1 =>
(if (decide (s1.2.2.1<(List.length s1.1.2.1:Int)))=true then
(if inB s1.2.2.1 (List.length s1.1.2.1) then
(if List.length s1.2.1+List.length ([(List.getD s1.1.2.1 (Int.toNat s1.2.2.1) ((bE,([],([],([],([],([],())))))),(0,(0,())))).1]:List (Y75))≤4294967296 then
 some (Step.more (s1.1,s1.2.1++([(List.getD s1.1.2.1 (Int.toNat s1.2.2.1) ((bE,([],([],([],([],([],())))))),(0,(0,())))).1]:List (Y75)),wI (s1.2.2.1+1),())) else none) else none) else
 some (Step.done (s1.2.1,())))) N (x.1,[],0,())).bind fun r2=>match r2 with
| .inl y3=>some (y3.1,())
| .inr z4=>some (z4.1,())
def s_l9At (N:Nat) (x:(Y26)×Int×Int×Unit):Option (Bool×Unit) :=
((if (decide (x.2.1≥0))=true then
 some (decide (x.2.1<(List.length x.1.2.2.1:Int))) else some false)).bind fun b1 =>
((if b1=true then
 some (decide (x.2.2.1≥0)) else some false)).bind fun b2 =>
((if b2=true then
(if inB x.2.1 (List.length x.1.2.2.1) then
 some (decide (x.2.2.1<(List.length ((((List.getD x.1.2.2.1 (Int.toNat x.2.1) (0,(([],(0,())),()))).2).1).1):Int))) else none) else some false)).bind fun b3 =>
 some (b3,())
def s_l9Env (N:Nat) (x:(Y26)×List (ByteArray×Y103×Unit)×Unit):Option (Bool×Unit) :=
(iter (A:=(Y26)×Int×Unit) (B:=Unit) (C:=Bool×Unit) (fun s1 =>
(if (decide (s1.2.1<(List.length x.2.1:Int)))=true then
(if inB s1.2.1 (List.length x.2.1) then
(s_IsName N ((List.getD x.2.1 (Int.toNat s1.2.1) (bE,((0,(0,(bE,()))),()))).1,())).bind fun r2 =>
(if (!r2.1)=true then
 some (Step.ret (false,())) else (if inB s1.2.1 (List.length x.2.1) then
(s_ValueOk N (s1.1.1,((List.getD x.2.1 (Int.toNat s1.2.1) (bE,((0,(0,(bE,()))),()))).2).1,())).bind fun r3 =>
(if (!r3.1)=true then
 some (Step.ret (false,())) else
 some (Step.more (s1.1,wI (s1.2.1+1),()))) else none)) else none) else
 some (Step.done (())))) N (x.1,0,())).bind fun r4=>match r4 with
| .inl y5=>some (true,())
| .inr z6=>some (z6.1,())
def s_l9Frame (N:Nat) (x:(Y26)×(Y194)×Unit):Option (Bool×Unit) :=
(s_l9At N (x.1,x.2.1.1,x.2.1.2.1,())).bind fun r1 =>
((if (!r1.1)=true then
 some true else (s_l9Env N (x.1,x.2.1.2.2.2.1,())).bind fun r2 =>
 some (!r2.1))).bind fun b3 =>
(if b3=true then
 some (false,()) else
(iter (A:=Int×Unit) (B:=Unit) (C:=Bool×Unit) (fun s4 =>
(if (decide (s4.1<(List.length x.2.1.2.2.1:Int)))=true then
(if inB s4.1 (List.length x.2.1.2.2.1) then
(s_ValueOk N (x.1.1,List.getD x.2.1.2.2.1 (Int.toNat s4.1) (0,(0,(bE,()))),())).bind fun r5 =>
(if (!r5.1)=true then
 some (Step.ret (false,())) else
 some (Step.more (wI (s4.1+1),()))) else none) else
 some (Step.done (())))) N (0,())).bind fun r6=>match r6 with
| .inl y7=>(if inB x.2.1.1 (List.length x.1.2.2.1) then
(if inB x.2.1.2.1 (List.length ((((List.getD x.1.2.2.1 (Int.toNat x.2.1.1) (0,(([],(0,())),()))).2).1).1)) then
((if (decide (((List.getD ((((List.getD x.1.2.2.1 (Int.toNat x.2.1.1) (0,(([],(0,())),()))).2).1).1) (Int.toNat x.2.1.2.1) (0,(0,(bE,([],([],())))))).1)=6))=true then
 some (List.getD ((((List.getD x.1.2.2.1 (Int.toNat x.2.1.1) (0,(([],(0,())),()))).2).1).1) (Int.toNat x.2.1.2.1) (0,(0,(bE,([],([],()))))),decide (((List.getD ((((List.getD x.1.2.2.1 (Int.toNat x.2.1.1) (0,(([],(0,())),()))).2).1).1) (Int.toNat x.2.1.2.1) (0,(0,(bE,([],([],())))))).1)=6),()) else
 some (List.getD ((((List.getD x.1.2.2.1 (Int.toNat x.2.1.1) (0,(([],(0,())),()))).2).1).1) (Int.toNat x.2.1.2.1) (0,(0,(bE,([],([],()))))),decide (((List.getD ((((List.getD x.1.2.2.1 (Int.toNat x.2.1.1) (0,(([],(0,())),()))).2).1).1) (Int.toNat x.2.1.2.1) (0,(0,(bE,([],([],())))))).1)=10),())):Option ((Y180)×Bool×Unit)).bind fun j9 =>
(if j9.2.1=true then
 some (decide ((List.length x.2.1.2.2.1:Int)=0),()) else
((if (decide (((List.getD ((((List.getD x.1.2.2.1 (Int.toNat x.2.1.1) (0,(([],(0,())),()))).2).1).1) (Int.toNat x.2.1.2.1) (0,(0,(bE,([],([],())))))).1)=8))=true then
 some (j9.1,decide (((List.getD ((((List.getD x.1.2.2.1 (Int.toNat x.2.1.1) (0,(([],(0,())),()))).2).1).1) (Int.toNat x.2.1.2.1) (0,(0,(bE,([],([],())))))).1)=8),()) else
((if (decide (((List.getD ((((List.getD x.1.2.2.1 (Int.toNat x.2.1.1) (0,(([],(0,())),()))).2).1).1) (Int.toNat x.2.1.2.1) (0,(0,(bE,([],([],())))))).1)=9))=true then
 some (j9.1,decide (((List.getD ((((List.getD x.1.2.2.1 (Int.toNat x.2.1.1) (0,(([],(0,())),()))).2).1).1) (Int.toNat x.2.1.2.1) (0,(0,(bE,([],([],())))))).1)=9),()) else
 some (j9.1,decide (((List.getD ((((List.getD x.1.2.2.1 (Int.toNat x.2.1.1) (0,(([],(0,())),()))).2).1).1) (Int.toNat x.2.1.2.1) (0,(0,(bE,([],([],())))))).1)=11),())):Option ((Y180)×Bool×Unit)).bind fun j12 =>
 some (j12.1,j12.2.1,())):Option ((Y180)×Bool×Unit)).bind fun j11 =>
(if j11.2.1=true then
 some (decide ((List.length x.2.1.2.2.1:Int)<(List.length j11.1.2.2.2.2.1:Int)),()) else
 some (false,()))) else none) else none)
| .inr z8=>some (z8.1,()))
def s_MachineOk (N:Nat) (x:(Y26)×(Y106)×Unit):Option (Bool×Unit) :=
(s_SysOk N (x.1,())).bind fun r1 =>
((if (!r1.1)=true then
 some true else (s_l1In N (x.2.1.2.2.2.2.2.2.1,0,7,())).bind fun r2 =>
 some (!r2.1))).bind fun b3 =>
((if b3=true then
 some true else (s_l9At N (x.1,x.2.1.2.1,x.2.1.2.2.1,())).bind fun r4 =>
 some (!r4.1))).bind fun b5 =>
((if b5=true then
 some true else some (decide ((List.length x.2.1.2.2.2.2.2.1:Int)>120)))).bind fun b6 =>
((if b6=true then
 some true else (s_l9Env N (x.1,x.2.1.2.2.2.1,())).bind fun r7 =>
 some (!r7.1))).bind fun b8 =>
(if b8=true then
 some (false,()) else
(iter (A:=(Y26)×(Y106)×Int×Unit) (B:=(Y26)×(Y106)×Unit) (C:=Bool×Unit) (fun s9 =>
(if (decide (s9.2.2.1<(List.length s9.2.1.2.2.2.2.2.1:Int)))=true then
(if inB s9.2.2.1 (List.length s9.2.1.2.2.2.2.2.1) then
(s_l9Frame N (s9.1,List.getD s9.2.1.2.2.2.2.2.1 (Int.toNat s9.2.2.1) (0,(0,([],([],())))),())).bind fun r10 =>
(if (!r10.1)=true then
 some (Step.ret (false,())) else
 some (Step.more (s9.1,s9.2.1,wI (s9.2.2.1+1),()))) else none) else
 some (Step.done (s9.1,s9.2.1,())))) N (x.1,x.2.1,0,())).bind fun r11=>match r11 with
| .inl y12=>(if (decide (y12.2.1.1=1))=true then
 some (decide (y12.2.1.2.2.2.2.1.1=0) && (decide (y12.2.1.2.2.2.2.1.2.1=0) && (decide (y12.2.1.2.2.2.2.1.2.2.1=bE) && (true))),()) else
(if (decide (y12.2.1.1=2))=true then
(s_ValueOk N (y12.1.1,y12.2.1.2.2.2.2.1,())).bind fun r14 =>
 some (r14.1,()) else
(if (decide (y12.2.1.1=3))=true then
((if (decide (y12.2.1.2.2.2.2.1.1=0) && (decide (y12.2.1.2.2.2.2.1.2.1=0) && (decide (y12.2.1.2.2.2.2.1.2.2.1=bE) && (true))))=true then
 some true else (s_ValueOk N (y12.1.1,y12.2.1.2.2.2.2.1,())).bind fun r15 =>
 some r15.1)).bind fun b16 =>
 some (b16,()) else
 some (false,()))))
| .inr z13=>some (z13.1,()))
def s_WorldOk (N:Nat) (x:(Y30)×Unit):Option (Bool×Unit) :=
(s_SysOk N (x.1.1,())).bind fun r1 =>
((if (!r1.1)=true then
 some true else some (decide ((List.length x.1.2.1:Int)>6)))).bind fun b2 =>
((if b2=true then
 some true else some (decide ((List.length x.1.2.2.1:Int)>6)))).bind fun b3 =>
((if b3=true then
 some true else (s_l1In N (x.1.2.2.2.1,1,100000,())).bind fun r4 =>
 some (!r4.1))).bind fun b5 =>
(if b5=true then
 some (false,()) else
(iter (A:=Int×Unit) (B:=Unit) (C:=Bool×Unit) (fun s6 =>
(if (decide (s6.1<(List.length x.1.2.1:Int)))=true then
(if inB s6.1 (List.length x.1.2.1) then
(s_SrcOk N ((List.getD x.1.2.1 (Int.toNat s6.1) ((bE,([],([],([],([],([],())))))),(0,(0,())))).1,())).bind fun r7 =>
(if (!r7.1)=true then
 some (Step.ret (false,())) else (if (decide (s6.1>0))=true then
(if inB (wI (s6.1-1)) (List.length x.1.2.1) then
(if (!(Op.bytesLess (ByteArray.toList (((List.getD x.1.2.1 (Int.toNat (wI (s6.1-1))) ((bE,([],([],([],([],([],())))))),(0,(0,())))).1).1)) (ByteArray.toList (((List.getD x.1.2.1 (Int.toNat s6.1) ((bE,([],([],([],([],([],())))))),(0,(0,())))).1).1))))=true then
 some (Step.ret (false,())) else (s_l1In N (((List.getD x.1.2.1 (Int.toNat s6.1) ((bE,([],([],([],([],([],())))))),(0,(0,())))).2).1,1,1000,())).bind fun r8 =>
(if (!r8.1)=true then
 some (Step.ret (false,())) else (if (decide (((((List.getD x.1.2.1 (Int.toNat s6.1) ((bE,([],([],([],([],([],())))))),(0,(0,())))).2).2).1)<0))=true then
 some (Step.ret (false,())) else (if (decide (((((List.getD x.1.2.1 (Int.toNat s6.1) ((bE,([],([],([],([],([],())))))),(0,(0,())))).2).2).1)≥(List.length x.1.1.2.1:Int)))=true then
 some (Step.ret (false,())) else (if inB ((((List.getD x.1.2.1 (Int.toNat s6.1) ((bE,([],([],([],([],([],())))))),(0,(0,())))).2).2).1) (List.length x.1.1.2.1) then
(if (!decide (((List.getD x.1.1.2.1 (Int.toNat ((((List.getD x.1.2.1 (Int.toNat s6.1) ((bE,([],([],([],([],([],())))))),(0,(0,())))).2).2).1)) (bE,(0,([],([],([],([],()))))))).1)=(((List.getD x.1.2.1 (Int.toNat s6.1) ((bE,([],([],([],([],([],())))))),(0,(0,())))).1).1)))=true then
 some (Step.ret (false,())) else (if inB ((((List.getD x.1.2.1 (Int.toNat s6.1) ((bE,([],([],([],([],([],())))))),(0,(0,())))).2).2).1) (List.length x.1.1.2.1) then
(if (!decide ((((List.getD x.1.1.2.1 (Int.toNat ((((List.getD x.1.2.1 (Int.toNat s6.1) ((bE,([],([],([],([],([],())))))),(0,(0,())))).2).2).1)) (bE,(0,([],([],([],([],()))))))).2).1)=(((List.getD x.1.2.1 (Int.toNat s6.1) ((bE,([],([],([],([],([],())))))),(0,(0,())))).2).1)))=true then
 some (Step.ret (false,())) else
(iter (A:=Int×Unit) (B:=Unit) (C:=Bool×Unit) (fun s9 =>
(if (decide (s9.1<(List.length (((((List.getD x.1.2.1 (Int.toNat s6.1) ((bE,([],([],([],([],([],())))))),(0,(0,())))).1).2).2).1):Int)))=true then
(if inB ((((List.getD x.1.2.1 (Int.toNat s6.1) ((bE,([],([],([],([],([],())))))),(0,(0,())))).2).2).1) (List.length x.1.1.2.1) then
(if inB s9.1 (List.length (((((List.getD x.1.2.1 (Int.toNat s6.1) ((bE,([],([],([],([],([],())))))),(0,(0,())))).1).2).2).1)) then
(s_l8Name N (List.getD x.1.1.2.1 (Int.toNat ((((List.getD x.1.2.1 (Int.toNat s6.1) ((bE,([],([],([],([],([],())))))),(0,(0,())))).2).2).1)) (bE,(0,([],([],([],([],())))))),List.getD (((((List.getD x.1.2.1 (Int.toNat s6.1) ((bE,([],([],([],([],([],())))))),(0,(0,())))).1).2).2).1) (Int.toNat s9.1) bE,())).bind fun r10 =>
(if (decide (r10.1<0))=true then
 some (Step.ret (false,())) else (if inB ((((List.getD x.1.2.1 (Int.toNat s6.1) ((bE,([],([],([],([],([],())))))),(0,(0,())))).2).2).1) (List.length x.1.1.2.1) then
(if inB r10.1 (List.length (((((List.getD x.1.1.2.1 (Int.toNat ((((List.getD x.1.2.1 (Int.toNat s6.1) ((bE,([],([],([],([],([],())))))),(0,(0,())))).2).2).1)) (bE,(0,([],([],([],([],()))))))).2).2).2).1)) then
(if (decide (((List.getD (((((List.getD x.1.1.2.1 (Int.toNat ((((List.getD x.1.2.1 (Int.toNat s6.1) ((bE,([],([],([],([],([],())))))),(0,(0,())))).2).2).1)) (bE,(0,([],([],([],([],()))))))).2).2).2).1) (Int.toNat r10.1) (0,(0,(bE,())))).1)=0) && (decide ((((List.getD (((((List.getD x.1.1.2.1 (Int.toNat ((((List.getD x.1.2.1 (Int.toNat s6.1) ((bE,([],([],([],([],([],())))))),(0,(0,())))).2).2).1)) (bE,(0,([],([],([],([],()))))))).2).2).2).1) (Int.toNat r10.1) (0,(0,(bE,())))).2).1)=0) && (decide (((((List.getD (((((List.getD x.1.1.2.1 (Int.toNat ((((List.getD x.1.2.1 (Int.toNat s6.1) ((bE,([],([],([],([],([],())))))),(0,(0,())))).2).2).1)) (bE,(0,([],([],([],([],()))))))).2).2).2).1) (Int.toNat r10.1) (0,(0,(bE,())))).2).2).1)=bE) && (true))))=true then
 some (Step.ret (false,())) else
 some (Step.more (wI (s9.1+1),()))) else none) else none)) else none) else none) else
 some (Step.done (())))) N (0,())).bind fun r11=>match r11 with
| .inl y12=>some (Step.more (wI (s6.1+1),()))
| .inr z13=>some (Step.ret (z13.1,()))) else none)) else none))))) else none) else (s_l1In N (((List.getD x.1.2.1 (Int.toNat s6.1) ((bE,([],([],([],([],([],())))))),(0,(0,())))).2).1,1,1000,())).bind fun r14 =>
(if (!r14.1)=true then
 some (Step.ret (false,())) else (if (decide (((((List.getD x.1.2.1 (Int.toNat s6.1) ((bE,([],([],([],([],([],())))))),(0,(0,())))).2).2).1)<0))=true then
 some (Step.ret (false,())) else (if (decide (((((List.getD x.1.2.1 (Int.toNat s6.1) ((bE,([],([],([],([],([],())))))),(0,(0,())))).2).2).1)≥(List.length x.1.1.2.1:Int)))=true then
 some (Step.ret (false,())) else (if inB ((((List.getD x.1.2.1 (Int.toNat s6.1) ((bE,([],([],([],([],([],())))))),(0,(0,())))).2).2).1) (List.length x.1.1.2.1) then
(if (!decide (((List.getD x.1.1.2.1 (Int.toNat ((((List.getD x.1.2.1 (Int.toNat s6.1) ((bE,([],([],([],([],([],())))))),(0,(0,())))).2).2).1)) (bE,(0,([],([],([],([],()))))))).1)=(((List.getD x.1.2.1 (Int.toNat s6.1) ((bE,([],([],([],([],([],())))))),(0,(0,())))).1).1)))=true then
 some (Step.ret (false,())) else (if inB ((((List.getD x.1.2.1 (Int.toNat s6.1) ((bE,([],([],([],([],([],())))))),(0,(0,())))).2).2).1) (List.length x.1.1.2.1) then
(if (!decide ((((List.getD x.1.1.2.1 (Int.toNat ((((List.getD x.1.2.1 (Int.toNat s6.1) ((bE,([],([],([],([],([],())))))),(0,(0,())))).2).2).1)) (bE,(0,([],([],([],([],()))))))).2).1)=(((List.getD x.1.2.1 (Int.toNat s6.1) ((bE,([],([],([],([],([],())))))),(0,(0,())))).2).1)))=true then
 some (Step.ret (false,())) else
(iter (A:=Int×Unit) (B:=Unit) (C:=Bool×Unit) (fun s15 =>
(if (decide (s15.1<(List.length (((((List.getD x.1.2.1 (Int.toNat s6.1) ((bE,([],([],([],([],([],())))))),(0,(0,())))).1).2).2).1):Int)))=true then
(if inB ((((List.getD x.1.2.1 (Int.toNat s6.1) ((bE,([],([],([],([],([],())))))),(0,(0,())))).2).2).1) (List.length x.1.1.2.1) then
(if inB s15.1 (List.length (((((List.getD x.1.2.1 (Int.toNat s6.1) ((bE,([],([],([],([],([],())))))),(0,(0,())))).1).2).2).1)) then
(s_l8Name N (List.getD x.1.1.2.1 (Int.toNat ((((List.getD x.1.2.1 (Int.toNat s6.1) ((bE,([],([],([],([],([],())))))),(0,(0,())))).2).2).1)) (bE,(0,([],([],([],([],())))))),List.getD (((((List.getD x.1.2.1 (Int.toNat s6.1) ((bE,([],([],([],([],([],())))))),(0,(0,())))).1).2).2).1) (Int.toNat s15.1) bE,())).bind fun r16 =>
(if (decide (r16.1<0))=true then
 some (Step.ret (false,())) else (if inB ((((List.getD x.1.2.1 (Int.toNat s6.1) ((bE,([],([],([],([],([],())))))),(0,(0,())))).2).2).1) (List.length x.1.1.2.1) then
(if inB r16.1 (List.length (((((List.getD x.1.1.2.1 (Int.toNat ((((List.getD x.1.2.1 (Int.toNat s6.1) ((bE,([],([],([],([],([],())))))),(0,(0,())))).2).2).1)) (bE,(0,([],([],([],([],()))))))).2).2).2).1)) then
(if (decide (((List.getD (((((List.getD x.1.1.2.1 (Int.toNat ((((List.getD x.1.2.1 (Int.toNat s6.1) ((bE,([],([],([],([],([],())))))),(0,(0,())))).2).2).1)) (bE,(0,([],([],([],([],()))))))).2).2).2).1) (Int.toNat r16.1) (0,(0,(bE,())))).1)=0) && (decide ((((List.getD (((((List.getD x.1.1.2.1 (Int.toNat ((((List.getD x.1.2.1 (Int.toNat s6.1) ((bE,([],([],([],([],([],())))))),(0,(0,())))).2).2).1)) (bE,(0,([],([],([],([],()))))))).2).2).2).1) (Int.toNat r16.1) (0,(0,(bE,())))).2).1)=0) && (decide (((((List.getD (((((List.getD x.1.1.2.1 (Int.toNat ((((List.getD x.1.2.1 (Int.toNat s6.1) ((bE,([],([],([],([],([],())))))),(0,(0,())))).2).2).1)) (bE,(0,([],([],([],([],()))))))).2).2).2).1) (Int.toNat r16.1) (0,(0,(bE,())))).2).2).1)=bE) && (true))))=true then
 some (Step.ret (false,())) else
 some (Step.more (wI (s15.1+1),()))) else none) else none)) else none) else none) else
 some (Step.done (())))) N (0,())).bind fun r17=>match r17 with
| .inl y18=>some (Step.more (wI (s6.1+1),()))
| .inr z19=>some (Step.ret (z19.1,()))) else none)) else none)))))) else none) else
 some (Step.done (())))) N (0,())).bind fun r20=>match r20 with
| .inl y21=>((s_l13Srcs N (x.1,())).bind fun r23 =>
(s_Order N (r23.1,())).bind fun r24 =>
(if (!r24.2.1)=true then
 some (false,()) else
(iter (A:=Int×Unit) (B:=Unit) (C:=Bool×Unit) (fun s25 =>
(if (decide (s25.1<(List.length x.1.2.2.1:Int)))=true then
(if inB s25.1 (List.length x.1.2.2.1) then
(s_l1In N ((List.getD x.1.2.2.1 (Int.toNat s25.1) (0,((0,(0,(0,([],((0,(0,(bE,()))),([],(0,()))))))),()))).1,1,wI (x.1.2.2.2.1-1),())).bind fun r26 =>
(if (!r26.1)=true then
 some (Step.ret (false,())) else (if (decide (s25.1>0))=true then
(if inB (wI (s25.1-1)) (List.length x.1.2.2.1) then
(if (decide (((List.getD x.1.2.2.1 (Int.toNat (wI (s25.1-1))) (0,((0,(0,(0,([],((0,(0,(bE,()))),([],(0,()))))))),()))).1)≥((List.getD x.1.2.2.1 (Int.toNat s25.1) (0,((0,(0,(0,([],((0,(0,(bE,()))),([],(0,()))))))),()))).1)))=true then
 some (Step.ret (false,())) else (s_MachineOk N (x.1.1,((List.getD x.1.2.2.1 (Int.toNat s25.1) (0,((0,(0,(0,([],((0,(0,(bE,()))),([],(0,()))))))),()))).2).1,())).bind fun r27 =>
(if (!r27.1)=true then
 some (Step.ret (false,())) else
 some (Step.more (wI (s25.1+1),())))) else none) else (s_MachineOk N (x.1.1,((List.getD x.1.2.2.1 (Int.toNat s25.1) (0,((0,(0,(0,([],((0,(0,(bE,()))),([],(0,()))))))),()))).2).1,())).bind fun r28 =>
(if (!r28.1)=true then
 some (Step.ret (false,())) else
 some (Step.more (wI (s25.1+1),()))))) else none) else
 some (Step.done (())))) N (0,())).bind fun r29=>match r29 with
| .inl y30=>some (true,())
| .inr z31=>some (z31.1,())))
| .inr z22=>some (z22.1,()))
def l_toLink (N:Nat) (x:(Y228)×Unit):Option ((Y228)×Unit) :=
 some ((x.1.1,(x.1.2.1,(x.1.2.2.1,()))),())
def l_toLinkS (N:Nat) (x:List (Y228)×Unit):Option (List (Y228)×Unit) :=
(if mkB (List.length x.1:Int) (List.length x.1:Int) then
(iter (A:=List (Y228)×Int×Unit) (B:=List (Y228)×Unit) (C:=List (Y228)×Unit) (fun s1 =>
(if (decide (s1.2.1<(List.length x.1:Int)))=true then
(if inB s1.2.1 (List.length x.1) then
(l_toLink N (List.getD x.1 (Int.toNat s1.2.1) (bE,(0,(bE,()))),())).bind fun r2 =>
(if inB s1.2.1 (List.length s1.1) then
 some (Step.more (List.set s1.1 (Int.toNat s1.2.1) r2.1,wI (s1.2.1+1),())) else none) else none) else
 some (Step.done (s1.1,())))) N (List.replicate (Int.toNat (List.length x.1:Int)) (bE,(0,(bE,()))),0,())).bind fun r3=>match r3 with
| .inl y4=>some (y4.1,())
| .inr z5=>some (z5.1,()) else none)
def l_toInst (N:Nat) (x:(Y114)×Unit):Option ((Y114)×Unit) :=
(l_toStringS N (x.1.2.2.1,())).bind fun r1 =>
(l_toValueS N (x.1.2.2.2.1,())).bind fun r2 =>
(l_toLinkS N (x.1.2.2.2.2.1,())).bind fun r3 =>
(l_toTypeS N (x.1.2.2.2.2.2.1,())).bind fun r4 =>
 some ((x.1.1,(x.1.2.1,(r1.1,(r2.1,(r3.1,(r4.1,())))))),())
def l_toInstS (N:Nat) (x:List (Y114)×Unit):Option (List (Y114)×Unit) :=
(if mkB (List.length x.1:Int) (List.length x.1:Int) then
(iter (A:=List (Y114)×Int×Unit) (B:=List (Y114)×Unit) (C:=List (Y114)×Unit) (fun s1 =>
(if (decide (s1.2.1<(List.length x.1:Int)))=true then
(if inB s1.2.1 (List.length x.1) then
(l_toInst N (List.getD x.1 (Int.toNat s1.2.1) (bE,(0,([],([],([],([],())))))),())).bind fun r2 =>
(if inB s1.2.1 (List.length s1.1) then
 some (Step.more (List.set s1.1 (Int.toNat s1.2.1) r2.1,wI (s1.2.1+1),())) else none) else none) else
 some (Step.done (s1.1,())))) N (List.replicate (Int.toNat (List.length x.1:Int)) (bE,(0,([],([],([],([],())))))),0,())).bind fun r3=>match r3 with
| .inl y4=>some (y4.1,())
| .inr z5=>some (z5.1,()) else none)
def l_toUnit (N:Nat) (x:(Y167)×Unit):Option ((Y167)×Unit) :=
(l_toProg N (x.1.2.1,())).bind fun r1 =>
 some ((x.1.1,(r1.1,())),())
def l_toUnitS (N:Nat) (x:List (Y167)×Unit):Option (List (Y167)×Unit) :=
(if mkB (List.length x.1:Int) (List.length x.1:Int) then
(iter (A:=List (Y167)×Int×Unit) (B:=List (Y167)×Unit) (C:=List (Y167)×Unit) (fun s1 =>
(if (decide (s1.2.1<(List.length x.1:Int)))=true then
(if inB s1.2.1 (List.length x.1) then
(l_toUnit N (List.getD x.1 (Int.toNat s1.2.1) (0,(([],(0,())),())),())).bind fun r2 =>
(if inB s1.2.1 (List.length s1.1) then
 some (Step.more (List.set s1.1 (Int.toNat s1.2.1) r2.1,wI (s1.2.1+1),())) else none) else none) else
 some (Step.done (s1.1,())))) N (List.replicate (Int.toNat (List.length x.1:Int)) (0,(([],(0,())),())),0,())).bind fun r3=>match r3 with
| .inl y4=>some (y4.1,())
| .inr z5=>some (z5.1,()) else none)
def l_toSys (N:Nat) (x:(Y26)×Unit):Option ((Y26)×Unit) :=
(l_toCellS N (x.1.1,())).bind fun r1 =>
(l_toInstS N (x.1.2.1,())).bind fun r2 =>
(l_toUnitS N (x.1.2.2.1,())).bind fun r3 =>
(l_toStringS N (x.1.2.2.2.1,())).bind fun r4 =>
 some ((r1.1,(r2.1,(r3.1,(r4.1,())))),())
def l_toEnt (N:Nat) (x:(Y75×Int×Int×Unit)×Unit):Option ((Y75×Int×Int×Unit)×Unit) :=
(l_toSrc N (x.1.1,())).bind fun r1 =>
 some ((r1.1,(x.1.2.1,(x.1.2.2.1,()))),())
def l_toEntS (N:Nat) (x:List (Y75×Int×Int×Unit)×Unit):Option (List (Y75×Int×Int×Unit)×Unit) :=
(if mkB (List.length x.1:Int) (List.length x.1:Int) then
(iter (A:=List (Y75×Int×Int×Unit)×Int×Unit) (B:=List (Y75×Int×Int×Unit)×Unit) (C:=List (Y75×Int×Int×Unit)×Unit) (fun s1 =>
(if (decide (s1.2.1<(List.length x.1:Int)))=true then
(if inB s1.2.1 (List.length x.1) then
(l_toEnt N (List.getD x.1 (Int.toNat s1.2.1) ((bE,([],([],([],([],([],())))))),(0,(0,()))),())).bind fun r2 =>
(if inB s1.2.1 (List.length s1.1) then
 some (Step.more (List.set s1.1 (Int.toNat s1.2.1) r2.1,wI (s1.2.1+1),())) else none) else none) else
 some (Step.done (s1.1,())))) N (List.replicate (Int.toNat (List.length x.1:Int)) ((bE,([],([],([],([],([],())))))),(0,(0,()))),0,())).bind fun r3=>match r3 with
| .inl y4=>some (y4.1,())
| .inr z5=>some (z5.1,()) else none)
def l_toBind (N:Nat) (x:(ByteArray×Y103×Unit)×Unit):Option ((ByteArray×Y103×Unit)×Unit) :=
(l_toValue N (x.1.2.1,())).bind fun r1 =>
 some ((x.1.1,(r1.1,())),())
def l_toBindS (N:Nat) (x:List (ByteArray×Y103×Unit)×Unit):Option (List (ByteArray×Y103×Unit)×Unit) :=
(if mkB (List.length x.1:Int) (List.length x.1:Int) then
(iter (A:=List (ByteArray×Y103×Unit)×Int×Unit) (B:=List (ByteArray×Y103×Unit)×Unit) (C:=List (ByteArray×Y103×Unit)×Unit) (fun s1 =>
(if (decide (s1.2.1<(List.length x.1:Int)))=true then
(if inB s1.2.1 (List.length x.1) then
(l_toBind N (List.getD x.1 (Int.toNat s1.2.1) (bE,((0,(0,(bE,()))),())),())).bind fun r2 =>
(if inB s1.2.1 (List.length s1.1) then
 some (Step.more (List.set s1.1 (Int.toNat s1.2.1) r2.1,wI (s1.2.1+1),())) else none) else none) else
 some (Step.done (s1.1,())))) N (List.replicate (Int.toNat (List.length x.1:Int)) (bE,((0,(0,(bE,()))),())),0,())).bind fun r3=>match r3 with
| .inl y4=>some (y4.1,())
| .inr z5=>some (z5.1,()) else none)
def l_toFrame (N:Nat) (x:(Y194)×Unit):Option ((Y194)×Unit) :=
(l_toValueS N (x.1.2.2.1,())).bind fun r1 =>
(l_toBindS N (x.1.2.2.2.1,())).bind fun r2 =>
 some ((x.1.1,(x.1.2.1,(r1.1,(r2.1,())))),())
def l_toFrameS (N:Nat) (x:List (Y194)×Unit):Option (List (Y194)×Unit) :=
(if mkB (List.length x.1:Int) (List.length x.1:Int) then
(iter (A:=List (Y194)×Int×Unit) (B:=List (Y194)×Unit) (C:=List (Y194)×Unit) (fun s1 =>
(if (decide (s1.2.1<(List.length x.1:Int)))=true then
(if inB s1.2.1 (List.length x.1) then
(l_toFrame N (List.getD x.1 (Int.toNat s1.2.1) (0,(0,([],([],())))),())).bind fun r2 =>
(if inB s1.2.1 (List.length s1.1) then
 some (Step.more (List.set s1.1 (Int.toNat s1.2.1) r2.1,wI (s1.2.1+1),())) else none) else none) else
 some (Step.done (s1.1,())))) N (List.replicate (Int.toNat (List.length x.1:Int)) (0,(0,([],([],())))),0,())).bind fun r3=>match r3 with
| .inl y4=>some (y4.1,())
| .inr z5=>some (z5.1,()) else none)
def l_toMachine (N:Nat) (x:(Y106)×Unit):Option ((Y106)×Unit) :=
(l_toBindS N (x.1.2.2.2.1,())).bind fun r1 =>
(l_toValue N (x.1.2.2.2.2.1,())).bind fun r2 =>
(l_toFrameS N (x.1.2.2.2.2.2.1,())).bind fun r3 =>
 some ((x.1.1,(x.1.2.1,(x.1.2.2.1,(r1.1,(r2.1,(r3.1,(x.1.2.2.2.2.2.2.1,()))))))),())
def l_toTask (N:Nat) (x:(Int×Y106×Unit)×Unit):Option ((Int×Y106×Unit)×Unit) :=
(l_toMachine N (x.1.2.1,())).bind fun r1 =>
 some ((x.1.1,(r1.1,())),())
def l_toTaskS (N:Nat) (x:List (Int×Y106×Unit)×Unit):Option (List (Int×Y106×Unit)×Unit) :=
(if mkB (List.length x.1:Int) (List.length x.1:Int) then
(iter (A:=List (Int×Y106×Unit)×Int×Unit) (B:=List (Int×Y106×Unit)×Unit) (C:=List (Int×Y106×Unit)×Unit) (fun s1 =>
(if (decide (s1.2.1<(List.length x.1:Int)))=true then
(if inB s1.2.1 (List.length x.1) then
(l_toTask N (List.getD x.1 (Int.toNat s1.2.1) (0,((0,(0,(0,([],((0,(0,(bE,()))),([],(0,()))))))),())),())).bind fun r2 =>
(if inB s1.2.1 (List.length s1.1) then
 some (Step.more (List.set s1.1 (Int.toNat s1.2.1) r2.1,wI (s1.2.1+1),())) else none) else none) else
 some (Step.done (s1.1,())))) N (List.replicate (Int.toNat (List.length x.1:Int)) (0,((0,(0,(0,([],((0,(0,(bE,()))),([],(0,()))))))),())),0,())).bind fun r3=>match r3 with
| .inl y4=>some (y4.1,())
| .inr z5=>some (z5.1,()) else none)
def l_toWorld (N:Nat) (x:(Y30)×Unit):Option ((Y30)×Unit) :=
(l_toSys N (x.1.1,())).bind fun r1 =>
(l_toEntS N (x.1.2.1,())).bind fun r2 =>
(l_toTaskS N (x.1.2.2.1,())).bind fun r3 =>
 some ((r1.1,(r2.1,(r3.1,(x.1.2.2.2.1,())))),())
def i_Sys_linksOk (N:Nat) (x:(Y26)×(Y114)×Unit):Option (Bool×Unit) :=
(iter (A:=(Y114)×List (ByteArray)×Int×Unit) (B:=List (ByteArray)×Unit) (C:=Bool×Unit) (fun s1 =>
(if (decide (s1.2.2.1<(List.length x.2.1.2.2.2.2.1:Int)))=true then
(if inB s1.2.2.1 (List.length x.2.1.2.2.2.2.1) then
(if List.length s1.2.1+List.length ([(List.getD x.2.1.2.2.2.2.1 (Int.toNat s1.2.2.1) (bE,(0,(bE,())))).1]:List (ByteArray))≤4294967296 then
(g_slices_Contains_string_string_ N (s1.1.2.2.1,(List.getD x.2.1.2.2.2.2.1 (Int.toNat s1.2.2.1) (bE,(0,(bE,())))).1,())).bind fun r2 =>
(if r2.1=true then
 some (Step.ret (false,())) else (i_inRange N (((List.getD x.2.1.2.2.2.2.1 (Int.toNat s1.2.2.1) (bE,(0,(bE,())))).2).1,0,wI ((List.length x.1.2.1:Int)-1),())).bind fun r3 =>
(if (!r3.1)=true then
 some (Step.ret (false,())) else (i_IsName N ((((List.getD x.2.1.2.2.2.2.1 (Int.toNat s1.2.2.1) (bE,(0,(bE,())))).2).2).1,())).bind fun r4 =>
(if (!r4.1)=true then
 some (Step.ret (false,())) else
 some (Step.more (s1.1,s1.2.1++([(List.getD x.2.1.2.2.2.2.1 (Int.toNat s1.2.2.1) (bE,(0,(bE,())))).1]:List (ByteArray)),wI (s1.2.2.1+1),()))))) else none) else none) else
 some (Step.done (s1.2.1,())))) N (x.2.1,[],0,())).bind fun r5=>match r5 with
| .inl y6=>(i_namesOk N (y6.1,30,())).bind fun r8 =>
 some (r8.1,())
| .inr z7=>some (z7.1,())
def i_Sys_instOk (N:Nat) (x:(Y26)×Int×Unit):Option (Bool×Unit) :=
(if inB x.2.1 (List.length x.1.2.1) then
((if (decide (x.2.1=0))=true then
((if (!decide (((List.getD x.1.2.1 (Int.toNat x.2.1) (bE,(0,([],([],([],([],()))))))).1)=(ByteArray.mk #[])))=true then
 some true else some (!decide ((((List.getD x.1.2.1 (Int.toNat x.2.1) (bE,(0,([],([],([],([],()))))))).2).1)=0)))).bind fun b1 =>
 some b1 else some false)).bind fun b2 =>
((if b2=true then
 some true else ((if (decide (x.2.1>0))=true then
(i_IsName N ((List.getD x.1.2.1 (Int.toNat x.2.1) (bE,(0,([],([],([],([],()))))))).1,())).bind fun r3 =>
((if (!r3.1)=true then
 some true else (i_inRange N (((List.getD x.1.2.1 (Int.toNat x.2.1) (bE,(0,([],([],([],([],()))))))).2).1,1,1000,())).bind fun r4 =>
 some (!r4.1))).bind fun b5 =>
 some b5 else some false)).bind fun b6 =>
 some b6)).bind fun b7 =>
(if b7=true then
 some (false,()) else
(iter (A:=Int×Unit) (B:=Unit) (C:=Bool×Unit) (fun s8 =>
(if (decide (s8.1<(List.length (((((List.getD x.1.2.1 (Int.toNat x.2.1) (bE,(0,([],([],([],([],()))))))).2).2).2).1):Int)))=true then
(if inB s8.1 (List.length (((((List.getD x.1.2.1 (Int.toNat x.2.1) (bE,(0,([],([],([],([],()))))))).2).2).2).1)) then
(if (!(decide (((List.getD (((((List.getD x.1.2.1 (Int.toNat x.2.1) (bE,(0,([],([],([],([],()))))))).2).2).2).1) (Int.toNat s8.1) (0,(0,(bE,())))).1)=0) && (decide ((((List.getD (((((List.getD x.1.2.1 (Int.toNat x.2.1) (bE,(0,([],([],([],([],()))))))).2).2).2).1) (Int.toNat s8.1) (0,(0,(bE,())))).2).1)=0) && (decide (((((List.getD (((((List.getD x.1.2.1 (Int.toNat x.2.1) (bE,(0,([],([],([],([],()))))))).2).2).2).1) (Int.toNat s8.1) (0,(0,(bE,())))).2).2).1)=bE) && (true)))))=true then
(i_ValueOk N (x.1.1,List.getD (((((List.getD x.1.2.1 (Int.toNat x.2.1) (bE,(0,([],([],([],([],()))))))).2).2).2).1) (Int.toNat s8.1) (0,(0,(bE,()))),())).bind fun r9 =>
(if (!r9.1)=true then
 some (Step.ret (false,())) else
 some (Step.more (wI (s8.1+1),()))) else some (Step.more (wI (s8.1+1),()))) else none) else
 some (Step.done (())))) N (0,())).bind fun r10=>match r10 with
| .inl y11=>(i_namesOk N ((((List.getD x.1.2.1 (Int.toNat x.2.1) (bE,(0,([],([],([],([],()))))))).2).2).1,30,())).bind fun r13 =>
((if r13.1=true then
 some (decide ((List.length (((((List.getD x.1.2.1 (Int.toNat x.2.1) (bE,(0,([],([],([],([],()))))))).2).2).2).1):Int)=(List.length ((((List.getD x.1.2.1 (Int.toNat x.2.1) (bE,(0,([],([],([],([],()))))))).2).2).1):Int))) else some false)).bind fun b14 =>
(if b14=true then
(i_Sys_linksOk N (x.1,List.getD x.1.2.1 (Int.toNat x.2.1) (bE,(0,([],([],([],([],())))))),())).bind fun r15 =>
((if r15.1=true then
(i_typesOk N (((((((List.getD x.1.2.1 (Int.toNat x.2.1) (bE,(0,([],([],([],([],()))))))).2).2).2).2).2).1,())).bind fun r16 =>
 some r16.1 else some false)).bind fun b17 =>
 some (b17,()) else (some false).bind fun b19 =>
 some (b19,()))
| .inr z12=>some (z12.1,())) else none)
def i_Sys_isLambda (N:Nat) (x:(Y26)×Int×Int×Unit):Option (Bool×Unit) :=
(i_inRange N (x.2.1,0,wI ((List.length x.1.2.2.1:Int)-1),())).bind fun r1 =>
(if (!r1.1)=true then
 some (false,()) else
(if inB x.2.1 (List.length x.1.2.2.1) then
(i_inRange N (x.2.2.1,0,wI ((List.length ((((List.getD x.1.2.2.1 (Int.toNat x.2.1) (0,(([],(0,())),()))).2).1).1):Int)-1),())).bind fun r2 =>
((if r2.1=true then
(if inB x.2.2.1 (List.length ((((List.getD x.1.2.2.1 (Int.toNat x.2.1) (0,(([],(0,())),()))).2).1).1)) then
 some (decide (((List.getD ((((List.getD x.1.2.2.1 (Int.toNat x.2.1) (0,(([],(0,())),()))).2).1).1) (Int.toNat x.2.2.1) (0,(0,(bE,([],([],())))))).1)=7)) else none) else some false)).bind fun b3 =>
 some (b3,()) else none))
def i_SysOk (N:Nat) (x:(Y26)×Unit):Option (Bool×Unit) :=
(i_inRange N ((List.length x.1.2.1:Int),1,12,())).bind fun r1 =>
((if (!r1.1)=true then
 some true else some (decide ((List.length x.1.2.2.1:Int)>60)))).bind fun b2 =>
((if b2=true then
 some true else some (decide ((List.length x.1.2.2.2.1:Int)>40)))).bind fun b3 =>
((if b3=true then
 some true else (i_HeapOk N (x.1.1,())).bind fun r4 =>
 some (!r4.1))).bind fun b5 =>
(if b5=true then
 some (false,()) else
(iter (A:=(Y26)×Int×Unit) (B:=(Y26)×Unit) (C:=Bool×Unit) (fun s6 =>
(if (decide (s6.2.1<(List.length x.1.2.1:Int)))=true then
(i_Sys_instOk N (s6.1,s6.2.1,())).bind fun r7 =>
(if (!r7.1)=true then
 some (Step.ret (false,())) else
 some (Step.more (s6.1,wI (s6.2.1+1),()))) else
 some (Step.done (s6.1,())))) N (x.1,0,())).bind fun r8=>match r8 with
| .inl y9=>((iter (A:=(Y26)×Int×Unit) (B:=(Y26)×Unit) (C:=Bool×Unit) (fun s11 =>
(if (decide (s11.2.1<(List.length y9.1.2.2.1:Int)))=true then
(if inB s11.2.1 (List.length y9.1.2.2.1) then
(i_inRange N ((List.getD y9.1.2.2.1 (Int.toNat s11.2.1) (0,(([],(0,())),()))).1,0,wI ((List.length s11.1.2.1:Int)-1),())).bind fun r12 =>
((if (!r12.1)=true then
 some true else (i_ProgOk N (((List.getD y9.1.2.2.1 (Int.toNat s11.2.1) (0,(([],(0,())),()))).2).1,())).bind fun r13 =>
 some (!r13.1))).bind fun b14 =>
(if b14=true then
 some (Step.ret (false,())) else
 some (Step.more (s11.1,wI (s11.2.1+1),()))) else none) else
 some (Step.done (s11.1,())))) N (y9.1,0,())).bind fun r15=>match r15 with
| .inl y16=>((iter (A:=(Y26)×Int×Unit) (B:=Unit) (C:=Bool×Unit) (fun s18 =>
(if (decide (s18.2.1<(List.length y16.1.1:Int)))=true then
(if inB s18.2.1 (List.length y16.1.1) then
(if (decide (((List.getD y16.1.1 (Int.toNat s18.2.1) (0,(bE,(0,(0,([],([],()))))))).1)=2))=true then
(i_Sys_isLambda N (s18.1,(((List.getD y16.1.1 (Int.toNat s18.2.1) (0,(bE,(0,(0,([],([],()))))))).2).2).1,((((List.getD y16.1.1 (Int.toNat s18.2.1) (0,(bE,(0,(0,([],([],()))))))).2).2).2).1,())).bind fun r19 =>
(if (!r19.1)=true then
 some (Step.ret (false,())) else
 some (Step.more (s18.1,wI (s18.2.1+1),()))) else some (Step.more (s18.1,wI (s18.2.1+1),()))) else none) else
 some (Step.done (())))) N (y16.1,0,())).bind fun r20=>match r20 with
| .inl y21=>some (true,())
| .inr z22=>some (z22.1,()))
| .inr z17=>some (z17.1,()))
| .inr z10=>some (z10.1,()))
def i_World_entOk (N:Nat) (x:(Y30)×(Y75×Int×Int×Unit)×Unit):Option (Bool×Unit) :=
(i_SrcOk N (x.2.1.1,())).bind fun r1 =>
(if (!r1.1)=true then
 some (false,()) else (i_inRange N (x.2.1.2.1,1,1000,())).bind fun r2 =>
(if (!r2.1)=true then
 some (false,()) else (i_inRange N (x.2.1.2.2.1,0,wI ((List.length x.1.1.2.1:Int)-1),())).bind fun r3 =>
(if (!r3.1)=true then
 some (false,()) else
(if inB x.2.1.2.2.1 (List.length x.1.1.2.1) then
((if (!decide (((List.getD x.1.1.2.1 (Int.toNat x.2.1.2.2.1) (bE,(0,([],([],([],([],()))))))).1)=x.2.1.1.1))=true then
 some true else some (!decide ((((List.getD x.1.1.2.1 (Int.toNat x.2.1.2.2.1) (bE,(0,([],([],([],([],()))))))).2).1)=x.2.1.2.1)))).bind fun b4 =>
(if b4=true then
 some (false,()) else
(iter (A:=Int×Unit) (B:=Unit) (C:=Bool×Unit) (fun s5 =>
(if (decide (s5.1<(List.length x.2.1.1.2.2.1:Int)))=true then
(if inB s5.1 (List.length x.2.1.1.2.2.1) then
(g_slices_Index_string_string_ N ((((List.getD x.1.1.2.1 (Int.toNat x.2.1.2.2.1) (bE,(0,([],([],([],([],()))))))).2).2).1,List.getD x.2.1.1.2.2.1 (Int.toNat s5.1) bE,())).bind fun r6 =>
(if (decide (r6.1<0))=true then
 some (Step.ret (false,())) else (if inB r6.1 (List.length (((((List.getD x.1.1.2.1 (Int.toNat x.2.1.2.2.1) (bE,(0,([],([],([],([],()))))))).2).2).2).1)) then
(if (decide (((List.getD (((((List.getD x.1.1.2.1 (Int.toNat x.2.1.2.2.1) (bE,(0,([],([],([],([],()))))))).2).2).2).1) (Int.toNat r6.1) (0,(0,(bE,())))).1)=0) && (decide ((((List.getD (((((List.getD x.1.1.2.1 (Int.toNat x.2.1.2.2.1) (bE,(0,([],([],([],([],()))))))).2).2).2).1) (Int.toNat r6.1) (0,(0,(bE,())))).2).1)=0) && (decide (((((List.getD (((((List.getD x.1.1.2.1 (Int.toNat x.2.1.2.2.1) (bE,(0,([],([],([],([],()))))))).2).2).2).1) (Int.toNat r6.1) (0,(0,(bE,())))).2).2).1)=bE) && (true))))=true then
 some (Step.ret (false,())) else
 some (Step.more (wI (s5.1+1),()))) else none)) else none) else
 some (Step.done (())))) N (0,())).bind fun r7=>match r7 with
| .inl y8=>some (true,())
| .inr z9=>some (z9.1,())) else none))))
def i_Sys_isNode (N:Nat) (x:(Y26)×Int×Int×Unit):Option (Bool×Unit) :=
(i_inRange N (x.2.1,0,wI ((List.length x.1.2.2.1:Int)-1),())).bind fun r1 =>
((if r1.1=true then
(if inB x.2.1 (List.length x.1.2.2.1) then
(i_inRange N (x.2.2.1,0,wI ((List.length ((((List.getD x.1.2.2.1 (Int.toNat x.2.1) (0,(([],(0,())),()))).2).1).1):Int)-1),())).bind fun r2 =>
 some r2.1 else none) else some false)).bind fun b3 =>
 some (b3,())
def i_Sys_envOk (N:Nat) (x:(Y26)×List (ByteArray×Y103×Unit)×Unit):Option (Bool×Unit) :=
(iter (A:=Int×Unit) (B:=Unit) (C:=Bool×Unit) (fun s1 =>
(if (decide (s1.1<(List.length x.2.1:Int)))=true then
(if inB s1.1 (List.length x.2.1) then
(i_IsName N ((List.getD x.2.1 (Int.toNat s1.1) (bE,((0,(0,(bE,()))),()))).1,())).bind fun r2 =>
(if (!r2.1)=true then
 some (Step.ret (false,())) else (i_ValueOk N (x.1.1,((List.getD x.2.1 (Int.toNat s1.1) (bE,((0,(0,(bE,()))),()))).2).1,())).bind fun r3 =>
(if (!r3.1)=true then
 some (Step.ret (false,())) else
 some (Step.more (wI (s1.1+1),())))) else none) else
 some (Step.done (())))) N (0,())).bind fun r4=>match r4 with
| .inl y5=>some (true,())
| .inr z6=>some (z6.1,())
def i_Sys_frameOk (N:Nat) (x:(Y26)×(Y194)×Unit):Option (Bool×Unit) :=
(i_Sys_isNode N (x.1,x.2.1.1,x.2.1.2.1,())).bind fun r1 =>
(if (!r1.1)=true then
 some (false,()) else (i_valuesOk N (x.1.1,x.2.1.2.2.1,())).bind fun r2 =>
(if (!r2.1)=true then
 some (false,()) else (i_Sys_envOk N (x.1,x.2.1.2.2.2.1,())).bind fun r3 =>
(if (!r3.1)=true then
 some (false,()) else
(if inB x.2.1.1 (List.length x.1.2.2.1) then
(if inB x.2.1.2.1 (List.length ((((List.getD x.1.2.2.1 (Int.toNat x.2.1.1) (0,(([],(0,())),()))).2).1).1)) then
((if (decide (((List.getD ((((List.getD x.1.2.2.1 (Int.toNat x.2.1.1) (0,(([],(0,())),()))).2).1).1) (Int.toNat x.2.1.2.1) (0,(0,(bE,([],([],())))))).1)=6))=true then
 some (decide (((List.getD ((((List.getD x.1.2.2.1 (Int.toNat x.2.1.1) (0,(([],(0,())),()))).2).1).1) (Int.toNat x.2.1.2.1) (0,(0,(bE,([],([],())))))).1)=6),()) else
 some (decide (((List.getD ((((List.getD x.1.2.2.1 (Int.toNat x.2.1.1) (0,(([],(0,())),()))).2).1).1) (Int.toNat x.2.1.2.1) (0,(0,(bE,([],([],())))))).1)=10),())):Option (Bool×Unit)).bind fun j4 =>
(if j4.1=true then
 some (decide ((List.length x.2.1.2.2.1:Int)=0),()) else
((if (decide (((List.getD ((((List.getD x.1.2.2.1 (Int.toNat x.2.1.1) (0,(([],(0,())),()))).2).1).1) (Int.toNat x.2.1.2.1) (0,(0,(bE,([],([],())))))).1)=8))=true then
 some (decide (((List.getD ((((List.getD x.1.2.2.1 (Int.toNat x.2.1.1) (0,(([],(0,())),()))).2).1).1) (Int.toNat x.2.1.2.1) (0,(0,(bE,([],([],())))))).1)=8),()) else
((if (decide (((List.getD ((((List.getD x.1.2.2.1 (Int.toNat x.2.1.1) (0,(([],(0,())),()))).2).1).1) (Int.toNat x.2.1.2.1) (0,(0,(bE,([],([],())))))).1)=9))=true then
 some (decide (((List.getD ((((List.getD x.1.2.2.1 (Int.toNat x.2.1.1) (0,(([],(0,())),()))).2).1).1) (Int.toNat x.2.1.2.1) (0,(0,(bE,([],([],())))))).1)=9),()) else
 some (decide (((List.getD ((((List.getD x.1.2.2.1 (Int.toNat x.2.1.1) (0,(([],(0,())),()))).2).1).1) (Int.toNat x.2.1.2.1) (0,(0,(bE,([],([],())))))).1)=11),())):Option (Bool×Unit)).bind fun j7 =>
 some (j7.1,())):Option (Bool×Unit)).bind fun j6 =>
(if j6.1=true then
 some (decide ((List.length x.2.1.2.2.1:Int)<(List.length ((((((List.getD ((((List.getD x.1.2.2.1 (Int.toNat x.2.1.1) (0,(([],(0,())),()))).2).1).1) (Int.toNat x.2.1.2.1) (0,(0,(bE,([],([],())))))).2).2).2).2).1):Int)),()) else
 some (false,()))) else none) else none))))
def i_Sys_machineOk (N:Nat) (x:(Y26)×(Y106)×Unit):Option (Bool×Unit) :=
(i_inRange N (x.2.1.1,1,3,())).bind fun r1 =>
((if (!r1.1)=true then
 some true else (i_inRange N (x.2.1.2.2.2.2.2.2.1,0,7,())).bind fun r2 =>
 some (!r2.1))).bind fun b3 =>
(if b3=true then
(some true).bind fun b4 =>
(if b4=true then
 some (false,()) else (i_Sys_envOk N (x.1,x.2.1.2.2.2.1,())).bind fun r5 =>
(if (!r5.1)=true then
 some (false,()) else
(iter (A:=Int×Unit) (B:=Unit) (C:=Bool×Unit) (fun s6 =>
(if (decide (s6.1<(List.length x.2.1.2.2.2.2.2.1:Int)))=true then
(if inB s6.1 (List.length x.2.1.2.2.2.2.2.1) then
(i_Sys_frameOk N (x.1,List.getD x.2.1.2.2.2.2.2.1 (Int.toNat s6.1) (0,(0,([],([],())))),())).bind fun r7 =>
(if (!r7.1)=true then
 some (Step.ret (false,())) else
 some (Step.more (wI (s6.1+1),()))) else none) else
 some (Step.done (())))) N (0,())).bind fun r8=>match r8 with
| .inl y9=>(if (decide (x.2.1.1=1))=true then
 some (decide (x.2.1.2.2.2.2.1.1=0) && (decide (x.2.1.2.2.2.2.1.2.1=0) && (decide (x.2.1.2.2.2.2.1.2.2.1=bE) && (true))),()) else
(if (decide (x.2.1.1=2))=true then
(i_ValueOk N (x.1.1,x.2.1.2.2.2.2.1,())).bind fun r11 =>
 some (r11.1,()) else
(if (decide (x.2.1.2.2.2.2.1.1=0) && (decide (x.2.1.2.2.2.2.1.2.1=0) && (decide (x.2.1.2.2.2.2.1.2.2.1=bE) && (true))))=true then
 some (true,()) else (i_ValueOk N (x.1.1,x.2.1.2.2.2.2.1,())).bind fun r12 =>
 some (r12.1,()))))
| .inr z10=>some (z10.1,()))) else (i_Sys_isNode N (x.1,x.2.1.2.1,x.2.1.2.2.1,())).bind fun r13 =>
((if (!r13.1)=true then
 some true else some (decide ((List.length x.2.1.2.2.2.2.2.1:Int)>120)))).bind fun b14 =>
(if b14=true then
 some (false,()) else (i_Sys_envOk N (x.1,x.2.1.2.2.2.1,())).bind fun r15 =>
(if (!r15.1)=true then
 some (false,()) else
(iter (A:=Int×Unit) (B:=Unit) (C:=Bool×Unit) (fun s16 =>
(if (decide (s16.1<(List.length x.2.1.2.2.2.2.2.1:Int)))=true then
(if inB s16.1 (List.length x.2.1.2.2.2.2.2.1) then
(i_Sys_frameOk N (x.1,List.getD x.2.1.2.2.2.2.2.1 (Int.toNat s16.1) (0,(0,([],([],())))),())).bind fun r17 =>
(if (!r17.1)=true then
 some (Step.ret (false,())) else
 some (Step.more (wI (s16.1+1),()))) else none) else
 some (Step.done (())))) N (0,())).bind fun r18=>match r18 with
| .inl y19=>(if (decide (x.2.1.1=1))=true then
 some (decide (x.2.1.2.2.2.2.1.1=0) && (decide (x.2.1.2.2.2.2.1.2.1=0) && (decide (x.2.1.2.2.2.2.1.2.2.1=bE) && (true))),()) else
(if (decide (x.2.1.1=2))=true then
(i_ValueOk N (x.1.1,x.2.1.2.2.2.2.1,())).bind fun r21 =>
 some (r21.1,()) else
(if (decide (x.2.1.2.2.2.2.1.1=0) && (decide (x.2.1.2.2.2.2.1.2.1=0) && (decide (x.2.1.2.2.2.2.1.2.2.1=bE) && (true))))=true then
 some (true,()) else (i_ValueOk N (x.1.1,x.2.1.2.2.2.2.1,())).bind fun r22 =>
 some (r22.1,()))))
| .inr z20=>some (z20.1,()))))
def i_srcsOf (N:Nat) (x:List (Y75×Int×Int×Unit)×Unit):Option (List (Y75)×Unit) :=
(iter (A:=List (Y75)×Int×Unit) (B:=List (Y75)×Unit) (C:=List (Y75)×Unit) (fun s1 =>
(if (decide (s1.2.1<(List.length x.1:Int)))=true then
(if inB s1.2.1 (List.length x.1) then
(if List.length s1.1+List.length ([(List.getD x.1 (Int.toNat s1.2.1) ((bE,([],([],([],([],([],())))))),(0,(0,())))).1]:List (Y75))≤4294967296 then
 some (Step.more (s1.1++([(List.getD x.1 (Int.toNat s1.2.1) ((bE,([],([],([],([],([],())))))),(0,(0,())))).1]:List (Y75)),wI (s1.2.1+1),())) else none) else none) else
 some (Step.done (s1.1,())))) N ([],0,())).bind fun r2=>match r2 with
| .inl y3=>some (y3.1,())
| .inr z4=>some (z4.1,())
def i_WorldOk (N:Nat) (x:(Y30)×Unit):Option (Bool×Unit) :=
((if (decide ((List.length x.1.2.1:Int)>6))=true then
 some true else some (decide ((List.length x.1.2.2.1:Int)>6)))).bind fun b1 =>
((if b1=true then
 some true else (i_inRange N (x.1.2.2.2.1,1,100000,())).bind fun r2 =>
 some (!r2.1))).bind fun b3 =>
((if b3=true then
 some true else (i_SysOk N (x.1.1,())).bind fun r4 =>
 some (!r4.1))).bind fun b5 =>
(if b5=true then
 some (false,()) else
(iter (A:=Int×Unit) (B:=Unit) (C:=Bool×Unit) (fun s6 =>
(if (decide (s6.1<(List.length x.1.2.1:Int)))=true then
(if inB s6.1 (List.length x.1.2.1) then
(i_World_entOk N (x.1,List.getD x.1.2.1 (Int.toNat s6.1) ((bE,([],([],([],([],([],())))))),(0,(0,()))),())).bind fun r7 =>
(if (!r7.1)=true then
 some (Step.ret (false,())) else (if (decide (s6.1>0))=true then
(if inB (wI (s6.1-1)) (List.length x.1.2.1) then
(if (Op.bytesLess (ByteArray.toList (((List.getD x.1.2.1 (Int.toNat s6.1) ((bE,([],([],([],([],([],())))))),(0,(0,())))).1).1)) (ByteArray.toList (((List.getD x.1.2.1 (Int.toNat (wI (s6.1-1))) ((bE,([],([],([],([],([],())))))),(0,(0,())))).1).1)) || decide ((((List.getD x.1.2.1 (Int.toNat s6.1) ((bE,([],([],([],([],([],())))))),(0,(0,())))).1).1)=(((List.getD x.1.2.1 (Int.toNat (wI (s6.1-1))) ((bE,([],([],([],([],([],())))))),(0,(0,())))).1).1)))=true then
 some (Step.ret (false,())) else
 some (Step.more (wI (s6.1+1),()))) else none) else some (Step.more (wI (s6.1+1),())))) else none) else
 some (Step.done (())))) N (0,())).bind fun r8=>match r8 with
| .inl y9=>((iter (A:=Int×Unit) (B:=Unit) (C:=Bool×Unit) (fun s11 =>
(if (decide (s11.1<(List.length x.1.2.2.1:Int)))=true then
(if inB s11.1 (List.length x.1.2.2.1) then
(i_inRange N ((List.getD x.1.2.2.1 (Int.toNat s11.1) (0,((0,(0,(0,([],((0,(0,(bE,()))),([],(0,()))))))),()))).1,1,wI (x.1.2.2.2.1-1),())).bind fun r12 =>
(if (!r12.1)=true then
 some (Step.ret (false,())) else (if (decide (s11.1>0))=true then
(if inB (wI (s11.1-1)) (List.length x.1.2.2.1) then
(if (decide (((List.getD x.1.2.2.1 (Int.toNat s11.1) (0,((0,(0,(0,([],((0,(0,(bE,()))),([],(0,()))))))),()))).1)≤((List.getD x.1.2.2.1 (Int.toNat (wI (s11.1-1))) (0,((0,(0,(0,([],((0,(0,(bE,()))),([],(0,()))))))),()))).1)))=true then
 some (Step.ret (false,())) else (i_Sys_machineOk N (x.1.1,((List.getD x.1.2.2.1 (Int.toNat s11.1) (0,((0,(0,(0,([],((0,(0,(bE,()))),([],(0,()))))))),()))).2).1,())).bind fun r13 =>
(if (!r13.1)=true then
 some (Step.ret (false,())) else
 some (Step.more (wI (s11.1+1),())))) else none) else (i_Sys_machineOk N (x.1.1,((List.getD x.1.2.2.1 (Int.toNat s11.1) (0,((0,(0,(0,([],((0,(0,(bE,()))),([],(0,()))))))),()))).2).1,())).bind fun r14 =>
(if (!r14.1)=true then
 some (Step.ret (false,())) else
 some (Step.more (wI (s11.1+1),()))))) else none) else
 some (Step.done (())))) N (0,())).bind fun r15=>match r15 with
| .inl y16=>(i_srcsOf N (x.1.2.1,())).bind fun r18 =>
(i_Order N (r18.1,())).bind fun r19 =>
 some (r19.2.1,())
| .inr z17=>some (z17.1,()))
| .inr z10=>some (z10.1,()))
def l_eqLink (N:Nat) (x:(Y228)×(Y228)×Unit):Option (Bool×Unit) :=
(if (!decide (x.1.1=x.2.1.1))=true then
 some (false,()) else
(if (!decide (x.1.2.1=x.2.1.2.1))=true then
 some (false,()) else
(if (!decide (x.1.2.2.1=x.2.1.2.2.1))=true then
 some (false,()) else
 some (true,()))))
def l_eqLinkS (N:Nat) (x:List (Y228)×List (Y228)×Unit):Option (Bool×Unit) :=
(if (!decide ((List.length x.1:Int)=(List.length x.2.1:Int)))=true then
 some (false,()) else
(iter (A:=Int×Unit) (B:=Unit) (C:=Bool×Unit) (fun s1 =>
(if (decide (s1.1<(List.length x.1:Int)))=true then
(if inB s1.1 (List.length x.1) then
(if inB s1.1 (List.length x.2.1) then
(l_eqLink N (List.getD x.1 (Int.toNat s1.1) (bE,(0,(bE,()))),List.getD x.2.1 (Int.toNat s1.1) (bE,(0,(bE,()))),())).bind fun r2 =>
(if (!r2.1)=true then
 some (Step.ret (false,())) else
 some (Step.more (wI (s1.1+1),()))) else none) else none) else
 some (Step.done (())))) N (0,())).bind fun r3=>match r3 with
| .inl y4=>some (true,())
| .inr z5=>some (z5.1,()))
def l_eqInst (N:Nat) (x:(Y114)×(Y114)×Unit):Option (Bool×Unit) :=
(if (!decide (x.1.1=x.2.1.1))=true then
 some (false,()) else
(if (!decide (x.1.2.1=x.2.1.2.1))=true then
 some (false,()) else
(l_eqStringS N (x.1.2.2.1,x.2.1.2.2.1,())).bind fun r1 =>
(if (!r1.1)=true then
 some (false,()) else
(l_eqValueS N (x.1.2.2.2.1,x.2.1.2.2.2.1,())).bind fun r2 =>
(if (!r2.1)=true then
 some (false,()) else
(l_eqLinkS N (x.1.2.2.2.2.1,x.2.1.2.2.2.2.1,())).bind fun r3 =>
(if (!r3.1)=true then
 some (false,()) else
(l_eqTypeS N (x.1.2.2.2.2.2.1,x.2.1.2.2.2.2.2.1,())).bind fun r4 =>
(if (!r4.1)=true then
 some (false,()) else
 some (true,())))))))
def l_eqInstS (N:Nat) (x:List (Y114)×List (Y114)×Unit):Option (Bool×Unit) :=
(if (!decide ((List.length x.1:Int)=(List.length x.2.1:Int)))=true then
 some (false,()) else
(iter (A:=Int×Unit) (B:=Unit) (C:=Bool×Unit) (fun s1 =>
(if (decide (s1.1<(List.length x.1:Int)))=true then
(if inB s1.1 (List.length x.1) then
(if inB s1.1 (List.length x.2.1) then
(l_eqInst N (List.getD x.1 (Int.toNat s1.1) (bE,(0,([],([],([],([],())))))),List.getD x.2.1 (Int.toNat s1.1) (bE,(0,([],([],([],([],())))))),())).bind fun r2 =>
(if (!r2.1)=true then
 some (Step.ret (false,())) else
 some (Step.more (wI (s1.1+1),()))) else none) else none) else
 some (Step.done (())))) N (0,())).bind fun r3=>match r3 with
| .inl y4=>some (true,())
| .inr z5=>some (z5.1,()))
def l_eqUnit (N:Nat) (x:(Y167)×(Y167)×Unit):Option (Bool×Unit) :=
(if (!decide (x.1.1=x.2.1.1))=true then
 some (false,()) else
(l_eqProg N (x.1.2.1,x.2.1.2.1,())).bind fun r1 =>
(if (!r1.1)=true then
 some (false,()) else
 some (true,())))
def l_eqUnitS (N:Nat) (x:List (Y167)×List (Y167)×Unit):Option (Bool×Unit) :=
(if (!decide ((List.length x.1:Int)=(List.length x.2.1:Int)))=true then
 some (false,()) else
(iter (A:=Int×Unit) (B:=Unit) (C:=Bool×Unit) (fun s1 =>
(if (decide (s1.1<(List.length x.1:Int)))=true then
(if inB s1.1 (List.length x.1) then
(if inB s1.1 (List.length x.2.1) then
(l_eqUnit N (List.getD x.1 (Int.toNat s1.1) (0,(([],(0,())),())),List.getD x.2.1 (Int.toNat s1.1) (0,(([],(0,())),())),())).bind fun r2 =>
(if (!r2.1)=true then
 some (Step.ret (false,())) else
 some (Step.more (wI (s1.1+1),()))) else none) else none) else
 some (Step.done (())))) N (0,())).bind fun r3=>match r3 with
| .inl y4=>some (true,())
| .inr z5=>some (z5.1,()))
def l_eqSys (N:Nat) (x:(Y26)×(Y26)×Unit):Option (Bool×Unit) :=
(l_eqCellS N (x.1.1,x.2.1.1,())).bind fun r1 =>
(if (!r1.1)=true then
 some (false,()) else
(l_eqInstS N (x.1.2.1,x.2.1.2.1,())).bind fun r2 =>
(if (!r2.1)=true then
 some (false,()) else
(l_eqUnitS N (x.1.2.2.1,x.2.1.2.2.1,())).bind fun r3 =>
(if (!r3.1)=true then
 some (false,()) else
(l_eqStringS N (x.1.2.2.2.1,x.2.1.2.2.2.1,())).bind fun r4 =>
(if (!r4.1)=true then
 some (false,()) else
 some (true,())))))
def l_eqEnt (N:Nat) (x:(Y75×Int×Int×Unit)×(Y75×Int×Int×Unit)×Unit):Option (Bool×Unit) :=
(l_eqSrc N (x.1.1,x.2.1.1,())).bind fun r1 =>
(if (!r1.1)=true then
 some (false,()) else
(if (!decide (x.1.2.1=x.2.1.2.1))=true then
 some (false,()) else
(if (!decide (x.1.2.2.1=x.2.1.2.2.1))=true then
 some (false,()) else
 some (true,()))))
def l_eqEntS (N:Nat) (x:List (Y75×Int×Int×Unit)×List (Y75×Int×Int×Unit)×Unit):Option (Bool×Unit) :=
(if (!decide ((List.length x.1:Int)=(List.length x.2.1:Int)))=true then
 some (false,()) else
(iter (A:=Int×Unit) (B:=Unit) (C:=Bool×Unit) (fun s1 =>
(if (decide (s1.1<(List.length x.1:Int)))=true then
(if inB s1.1 (List.length x.1) then
(if inB s1.1 (List.length x.2.1) then
(l_eqEnt N (List.getD x.1 (Int.toNat s1.1) ((bE,([],([],([],([],([],())))))),(0,(0,()))),List.getD x.2.1 (Int.toNat s1.1) ((bE,([],([],([],([],([],())))))),(0,(0,()))),())).bind fun r2 =>
(if (!r2.1)=true then
 some (Step.ret (false,())) else
 some (Step.more (wI (s1.1+1),()))) else none) else none) else
 some (Step.done (())))) N (0,())).bind fun r3=>match r3 with
| .inl y4=>some (true,())
| .inr z5=>some (z5.1,()))
def l_eqBind (N:Nat) (x:(ByteArray×Y103×Unit)×(ByteArray×Y103×Unit)×Unit):Option (Bool×Unit) :=
(if (!decide (x.1.1=x.2.1.1))=true then
 some (false,()) else
(l_eqValue N (x.1.2.1,x.2.1.2.1,())).bind fun r1 =>
(if (!r1.1)=true then
 some (false,()) else
 some (true,())))
def l_eqBindS (N:Nat) (x:List (ByteArray×Y103×Unit)×List (ByteArray×Y103×Unit)×Unit):Option (Bool×Unit) :=
(if (!decide ((List.length x.1:Int)=(List.length x.2.1:Int)))=true then
 some (false,()) else
(iter (A:=Int×Unit) (B:=Unit) (C:=Bool×Unit) (fun s1 =>
(if (decide (s1.1<(List.length x.1:Int)))=true then
(if inB s1.1 (List.length x.1) then
(if inB s1.1 (List.length x.2.1) then
(l_eqBind N (List.getD x.1 (Int.toNat s1.1) (bE,((0,(0,(bE,()))),())),List.getD x.2.1 (Int.toNat s1.1) (bE,((0,(0,(bE,()))),())),())).bind fun r2 =>
(if (!r2.1)=true then
 some (Step.ret (false,())) else
 some (Step.more (wI (s1.1+1),()))) else none) else none) else
 some (Step.done (())))) N (0,())).bind fun r3=>match r3 with
| .inl y4=>some (true,())
| .inr z5=>some (z5.1,()))
def l_eqFrame (N:Nat) (x:(Y194)×(Y194)×Unit):Option (Bool×Unit) :=
(if (!decide (x.1.1=x.2.1.1))=true then
 some (false,()) else
(if (!decide (x.1.2.1=x.2.1.2.1))=true then
 some (false,()) else
(l_eqValueS N (x.1.2.2.1,x.2.1.2.2.1,())).bind fun r1 =>
(if (!r1.1)=true then
 some (false,()) else
(l_eqBindS N (x.1.2.2.2.1,x.2.1.2.2.2.1,())).bind fun r2 =>
(if (!r2.1)=true then
 some (false,()) else
 some (true,())))))
def l_eqFrameS (N:Nat) (x:List (Y194)×List (Y194)×Unit):Option (Bool×Unit) :=
(if (!decide ((List.length x.1:Int)=(List.length x.2.1:Int)))=true then
 some (false,()) else
(iter (A:=Int×Unit) (B:=Unit) (C:=Bool×Unit) (fun s1 =>
(if (decide (s1.1<(List.length x.1:Int)))=true then
(if inB s1.1 (List.length x.1) then
(if inB s1.1 (List.length x.2.1) then
(l_eqFrame N (List.getD x.1 (Int.toNat s1.1) (0,(0,([],([],())))),List.getD x.2.1 (Int.toNat s1.1) (0,(0,([],([],())))),())).bind fun r2 =>
(if (!r2.1)=true then
 some (Step.ret (false,())) else
 some (Step.more (wI (s1.1+1),()))) else none) else none) else
 some (Step.done (())))) N (0,())).bind fun r3=>match r3 with
| .inl y4=>some (true,())
| .inr z5=>some (z5.1,()))
def l_eqMachine (N:Nat) (x:(Y106)×(Y106)×Unit):Option (Bool×Unit) :=
(if (!decide (x.1.1=x.2.1.1))=true then
 some (false,()) else
(if (!decide (x.1.2.1=x.2.1.2.1))=true then
 some (false,()) else
(if (!decide (x.1.2.2.1=x.2.1.2.2.1))=true then
 some (false,()) else
(l_eqBindS N (x.1.2.2.2.1,x.2.1.2.2.2.1,())).bind fun r1 =>
(if (!r1.1)=true then
 some (false,()) else
(l_eqValue N (x.1.2.2.2.2.1,x.2.1.2.2.2.2.1,())).bind fun r2 =>
(if (!r2.1)=true then
 some (false,()) else
(l_eqFrameS N (x.1.2.2.2.2.2.1,x.2.1.2.2.2.2.2.1,())).bind fun r3 =>
(if (!r3.1)=true then
 some (false,()) else
(if (!decide (x.1.2.2.2.2.2.2.1=x.2.1.2.2.2.2.2.2.1))=true then
 some (false,()) else
 some (true,()))))))))
def l_eqTask (N:Nat) (x:(Int×Y106×Unit)×(Int×Y106×Unit)×Unit):Option (Bool×Unit) :=
(if (!decide (x.1.1=x.2.1.1))=true then
 some (false,()) else
(l_eqMachine N (x.1.2.1,x.2.1.2.1,())).bind fun r1 =>
(if (!r1.1)=true then
 some (false,()) else
 some (true,())))
def l_eqTaskS (N:Nat) (x:List (Int×Y106×Unit)×List (Int×Y106×Unit)×Unit):Option (Bool×Unit) :=
(if (!decide ((List.length x.1:Int)=(List.length x.2.1:Int)))=true then
 some (false,()) else
(iter (A:=Int×Unit) (B:=Unit) (C:=Bool×Unit) (fun s1 =>
(if (decide (s1.1<(List.length x.1:Int)))=true then
(if inB s1.1 (List.length x.1) then
(if inB s1.1 (List.length x.2.1) then
(l_eqTask N (List.getD x.1 (Int.toNat s1.1) (0,((0,(0,(0,([],((0,(0,(bE,()))),([],(0,()))))))),())),List.getD x.2.1 (Int.toNat s1.1) (0,((0,(0,(0,([],((0,(0,(bE,()))),([],(0,()))))))),())),())).bind fun r2 =>
(if (!r2.1)=true then
 some (Step.ret (false,())) else
 some (Step.more (wI (s1.1+1),()))) else none) else none) else
 some (Step.done (())))) N (0,())).bind fun r3=>match r3 with
| .inl y4=>some (true,())
| .inr z5=>some (z5.1,()))
def l_eqWorld (N:Nat) (x:(Y30)×(Y30)×Unit):Option (Bool×Unit) :=
(l_eqSys N (x.1.1,x.2.1.1,())).bind fun r1 =>
(if (!r1.1)=true then
 some (false,()) else
(l_eqEntS N (x.1.2.1,x.2.1.2.1,())).bind fun r2 =>
(if (!r2.1)=true then
 some (false,()) else
(l_eqTaskS N (x.1.2.2.1,x.2.1.2.2.1,())).bind fun r3 =>
(if (!r3.1)=true then
 some (false,()) else
(if (!decide (x.1.2.2.2.1=x.2.1.2.2.2.1))=true then
 some (false,()) else
 some (true,())))))
def l_markValueS (N:Nat) (x:List (Y103)×Int×Unit):Option (Int×List (Y103)×Unit) :=
(iter (A:=List (Y103)×Int×Int×Unit) (B:=List (Y103)×Int×Unit) (C:=Int×List (Y103)×Unit) (fun s1 =>
(if (decide (s1.2.2.1<(List.length s1.1:Int)))=true then
(if inB s1.2.2.1 (List.length s1.1) then
((some (List.set s1.1 (Int.toNat s1.2.2.1) (s1.2.1,(List.getD s1.1 (Int.toNat s1.2.2.1) (0,(0,(bE,())))).2)):Option (List (Y103)))).bind fun a2 =>
(if inB s1.2.2.1 (List.length a2) then
((some (List.set a2 (Int.toNat s1.2.2.1) ((List.getD a2 (Int.toNat s1.2.2.1) (0,(0,(bE,())))).1,(wI (s1.2.1+1),((List.getD a2 (Int.toNat s1.2.2.1) (0,(0,(bE,())))).2).2))):Option (List (Y103)))).bind fun a3 =>
(l_markText N (wI ((wI (s1.2.1+1))+1),())).bind fun r4 =>
(if inB s1.2.2.1 (List.length a3) then
((some (List.set a3 (Int.toNat s1.2.2.1) ((List.getD a3 (Int.toNat s1.2.2.1) (0,(0,(bE,())))).1,(((List.getD a3 (Int.toNat s1.2.2.1) (0,(0,(bE,())))).2).1,(r4.1,(((List.getD a3 (Int.toNat s1.2.2.1) (0,(0,(bE,())))).2).2).2)))):Option (List (Y103)))).bind fun a5 =>
 some (Step.more (a5,wI ((wI ((wI (s1.2.1+1))+1))+1),wI (s1.2.2.1+1),())) else none) else none) else none) else
 some (Step.done (s1.1,s1.2.1,())))) N (x.1,x.2.1,0,())).bind fun r6=>match r6 with
| .inl y7=>some (y7.2.1,y7.1,())
| .inr z8=>some (z8.1,z8.2.1,())
def l_markCellS (N:Nat) (x:List (Y64)×Int×Unit):Option (Int×List (Y64)×Unit) :=
(iter (A:=List (Y64)×Int×Int×Unit) (B:=List (Y64)×Int×Unit) (C:=Int×List (Y64)×Unit) (fun s1 =>
(if (decide (s1.2.2.1<(List.length s1.1:Int)))=true then
(if inB s1.2.2.1 (List.length s1.1) then
((some (List.set s1.1 (Int.toNat s1.2.2.1) (s1.2.1,(List.getD s1.1 (Int.toNat s1.2.2.1) (0,(bE,(0,(0,([],([],()))))))).2)):Option (List (Y64)))).bind fun a2 =>
(l_markText N (wI (s1.2.1+1),())).bind fun r3 =>
(if inB s1.2.2.1 (List.length a2) then
((some (List.set a2 (Int.toNat s1.2.2.1) ((List.getD a2 (Int.toNat s1.2.2.1) (0,(bE,(0,(0,([],([],()))))))).1,(r3.1,((List.getD a2 (Int.toNat s1.2.2.1) (0,(bE,(0,(0,([],([],()))))))).2).2))):Option (List (Y64)))).bind fun a4 =>
(if inB s1.2.2.1 (List.length a4) then
((some (List.set a4 (Int.toNat s1.2.2.1) ((List.getD a4 (Int.toNat s1.2.2.1) (0,(bE,(0,(0,([],([],()))))))).1,(((List.getD a4 (Int.toNat s1.2.2.1) (0,(bE,(0,(0,([],([],()))))))).2).1,(wI ((wI (s1.2.1+1))+1),(((List.getD a4 (Int.toNat s1.2.2.1) (0,(bE,(0,(0,([],([],()))))))).2).2).2)))):Option (List (Y64)))).bind fun a5 =>
(if inB s1.2.2.1 (List.length a5) then
((some (List.set a5 (Int.toNat s1.2.2.1) ((List.getD a5 (Int.toNat s1.2.2.1) (0,(bE,(0,(0,([],([],()))))))).1,(((List.getD a5 (Int.toNat s1.2.2.1) (0,(bE,(0,(0,([],([],()))))))).2).1,((((List.getD a5 (Int.toNat s1.2.2.1) (0,(bE,(0,(0,([],([],()))))))).2).2).1,(wI ((wI ((wI (s1.2.1+1))+1))+1),((((List.getD a5 (Int.toNat s1.2.2.1) (0,(bE,(0,(0,([],([],()))))))).2).2).2).2))))):Option (List (Y64)))).bind fun a6 =>
(if inB s1.2.2.1 (List.length a6) then
(l_markStringS N ((((((List.getD a6 (Int.toNat s1.2.2.1) (0,(bE,(0,(0,([],([],()))))))).2).2).2).2).1,wI ((wI ((wI ((wI (s1.2.1+1))+1))+1))+1),())).bind fun r7 =>
((some (List.set a6 (Int.toNat s1.2.2.1) ((List.getD a6 (Int.toNat s1.2.2.1) (0,(bE,(0,(0,([],([],()))))))).1,(((List.getD a6 (Int.toNat s1.2.2.1) (0,(bE,(0,(0,([],([],()))))))).2).1,((((List.getD a6 (Int.toNat s1.2.2.1) (0,(bE,(0,(0,([],([],()))))))).2).2).1,(((((List.getD a6 (Int.toNat s1.2.2.1) (0,(bE,(0,(0,([],([],()))))))).2).2).2).1,(r7.2.1,(((((List.getD a6 (Int.toNat s1.2.2.1) (0,(bE,(0,(0,([],([],()))))))).2).2).2).2).2)))))):Option (List (Y64)))).bind fun a8 =>
(if inB s1.2.2.1 (List.length a8) then
(l_markValueS N (((((((List.getD a8 (Int.toNat s1.2.2.1) (0,(bE,(0,(0,([],([],()))))))).2).2).2).2).2).1,r7.1,())).bind fun r9 =>
((some (List.set a8 (Int.toNat s1.2.2.1) ((List.getD a8 (Int.toNat s1.2.2.1) (0,(bE,(0,(0,([],([],()))))))).1,(((List.getD a8 (Int.toNat s1.2.2.1) (0,(bE,(0,(0,([],([],()))))))).2).1,((((List.getD a8 (Int.toNat s1.2.2.1) (0,(bE,(0,(0,([],([],()))))))).2).2).1,(((((List.getD a8 (Int.toNat s1.2.2.1) (0,(bE,(0,(0,([],([],()))))))).2).2).2).1,((((((List.getD a8 (Int.toNat s1.2.2.1) (0,(bE,(0,(0,([],([],()))))))).2).2).2).2).1,(r9.2.1,((((((List.getD a8 (Int.toNat s1.2.2.1) (0,(bE,(0,(0,([],([],()))))))).2).2).2).2).2).2))))))):Option (List (Y64)))).bind fun a10 =>
 some (Step.more (a10,r9.1,wI (s1.2.2.1+1),())) else none) else none) else none) else none) else none) else none) else
 some (Step.done (s1.1,s1.2.1,())))) N (x.1,x.2.1,0,())).bind fun r11=>match r11 with
| .inl y12=>some (y12.2.1,y12.1,())
| .inr z13=>some (z13.1,z13.2.1,())
def l_markLinkS (N:Nat) (x:List (Y228)×Int×Unit):Option (Int×List (Y228)×Unit) :=
(iter (A:=List (Y228)×Int×Int×Unit) (B:=List (Y228)×Int×Unit) (C:=Int×List (Y228)×Unit) (fun s1 =>
(if (decide (s1.2.2.1<(List.length s1.1:Int)))=true then
(l_markText N (s1.2.1,())).bind fun r2 =>
(if inB s1.2.2.1 (List.length s1.1) then
((some (List.set s1.1 (Int.toNat s1.2.2.1) (r2.1,(List.getD s1.1 (Int.toNat s1.2.2.1) (bE,(0,(bE,())))).2)):Option (List (Y228)))).bind fun a3 =>
(if inB s1.2.2.1 (List.length a3) then
((some (List.set a3 (Int.toNat s1.2.2.1) ((List.getD a3 (Int.toNat s1.2.2.1) (bE,(0,(bE,())))).1,(wI (s1.2.1+1),((List.getD a3 (Int.toNat s1.2.2.1) (bE,(0,(bE,())))).2).2))):Option (List (Y228)))).bind fun a4 =>
(l_markText N (wI ((wI (s1.2.1+1))+1),())).bind fun r5 =>
(if inB s1.2.2.1 (List.length a4) then
((some (List.set a4 (Int.toNat s1.2.2.1) ((List.getD a4 (Int.toNat s1.2.2.1) (bE,(0,(bE,())))).1,(((List.getD a4 (Int.toNat s1.2.2.1) (bE,(0,(bE,())))).2).1,(r5.1,(((List.getD a4 (Int.toNat s1.2.2.1) (bE,(0,(bE,())))).2).2).2)))):Option (List (Y228)))).bind fun a6 =>
 some (Step.more (a6,wI ((wI ((wI (s1.2.1+1))+1))+1),wI (s1.2.2.1+1),())) else none) else none) else none) else
 some (Step.done (s1.1,s1.2.1,())))) N (x.1,x.2.1,0,())).bind fun r7=>match r7 with
| .inl y8=>some (y8.2.1,y8.1,())
| .inr z9=>some (z9.1,z9.2.1,())
def l_markInstS (N:Nat) (x:List (Y114)×Int×Unit):Option (Int×List (Y114)×Unit) :=
(iter (A:=List (Y114)×Int×Int×Unit) (B:=List (Y114)×Int×Unit) (C:=Int×List (Y114)×Unit) (fun s1 =>
(if (decide (s1.2.2.1<(List.length s1.1:Int)))=true then
(l_markText N (s1.2.1,())).bind fun r2 =>
(if inB s1.2.2.1 (List.length s1.1) then
((some (List.set s1.1 (Int.toNat s1.2.2.1) (r2.1,(List.getD s1.1 (Int.toNat s1.2.2.1) (bE,(0,([],([],([],([],()))))))).2)):Option (List (Y114)))).bind fun a3 =>
(if inB s1.2.2.1 (List.length a3) then
((some (List.set a3 (Int.toNat s1.2.2.1) ((List.getD a3 (Int.toNat s1.2.2.1) (bE,(0,([],([],([],([],()))))))).1,(wI (s1.2.1+1),((List.getD a3 (Int.toNat s1.2.2.1) (bE,(0,([],([],([],([],()))))))).2).2))):Option (List (Y114)))).bind fun a4 =>
(if inB s1.2.2.1 (List.length a4) then
(l_markStringS N ((((List.getD a4 (Int.toNat s1.2.2.1) (bE,(0,([],([],([],([],()))))))).2).2).1,wI ((wI (s1.2.1+1))+1),())).bind fun r5 =>
((some (List.set a4 (Int.toNat s1.2.2.1) ((List.getD a4 (Int.toNat s1.2.2.1) (bE,(0,([],([],([],([],()))))))).1,(((List.getD a4 (Int.toNat s1.2.2.1) (bE,(0,([],([],([],([],()))))))).2).1,(r5.2.1,(((List.getD a4 (Int.toNat s1.2.2.1) (bE,(0,([],([],([],([],()))))))).2).2).2)))):Option (List (Y114)))).bind fun a6 =>
(if inB s1.2.2.1 (List.length a6) then
(l_markValueS N (((((List.getD a6 (Int.toNat s1.2.2.1) (bE,(0,([],([],([],([],()))))))).2).2).2).1,r5.1,())).bind fun r7 =>
((some (List.set a6 (Int.toNat s1.2.2.1) ((List.getD a6 (Int.toNat s1.2.2.1) (bE,(0,([],([],([],([],()))))))).1,(((List.getD a6 (Int.toNat s1.2.2.1) (bE,(0,([],([],([],([],()))))))).2).1,((((List.getD a6 (Int.toNat s1.2.2.1) (bE,(0,([],([],([],([],()))))))).2).2).1,(r7.2.1,((((List.getD a6 (Int.toNat s1.2.2.1) (bE,(0,([],([],([],([],()))))))).2).2).2).2))))):Option (List (Y114)))).bind fun a8 =>
(if inB s1.2.2.1 (List.length a8) then
(l_markLinkS N ((((((List.getD a8 (Int.toNat s1.2.2.1) (bE,(0,([],([],([],([],()))))))).2).2).2).2).1,r7.1,())).bind fun r9 =>
((some (List.set a8 (Int.toNat s1.2.2.1) ((List.getD a8 (Int.toNat s1.2.2.1) (bE,(0,([],([],([],([],()))))))).1,(((List.getD a8 (Int.toNat s1.2.2.1) (bE,(0,([],([],([],([],()))))))).2).1,((((List.getD a8 (Int.toNat s1.2.2.1) (bE,(0,([],([],([],([],()))))))).2).2).1,(((((List.getD a8 (Int.toNat s1.2.2.1) (bE,(0,([],([],([],([],()))))))).2).2).2).1,(r9.2.1,(((((List.getD a8 (Int.toNat s1.2.2.1) (bE,(0,([],([],([],([],()))))))).2).2).2).2).2)))))):Option (List (Y114)))).bind fun a10 =>
(if inB s1.2.2.1 (List.length a10) then
(l_markTypeS N (((((((List.getD a10 (Int.toNat s1.2.2.1) (bE,(0,([],([],([],([],()))))))).2).2).2).2).2).1,r9.1,())).bind fun r11 =>
((some (List.set a10 (Int.toNat s1.2.2.1) ((List.getD a10 (Int.toNat s1.2.2.1) (bE,(0,([],([],([],([],()))))))).1,(((List.getD a10 (Int.toNat s1.2.2.1) (bE,(0,([],([],([],([],()))))))).2).1,((((List.getD a10 (Int.toNat s1.2.2.1) (bE,(0,([],([],([],([],()))))))).2).2).1,(((((List.getD a10 (Int.toNat s1.2.2.1) (bE,(0,([],([],([],([],()))))))).2).2).2).1,((((((List.getD a10 (Int.toNat s1.2.2.1) (bE,(0,([],([],([],([],()))))))).2).2).2).2).1,(r11.2.1,((((((List.getD a10 (Int.toNat s1.2.2.1) (bE,(0,([],([],([],([],()))))))).2).2).2).2).2).2))))))):Option (List (Y114)))).bind fun a12 =>
 some (Step.more (a12,r11.1,wI (s1.2.2.1+1),())) else none) else none) else none) else none) else none) else none) else
 some (Step.done (s1.1,s1.2.1,())))) N (x.1,x.2.1,0,())).bind fun r13=>match r13 with
| .inl y14=>some (y14.2.1,y14.1,())
| .inr z15=>some (z15.1,z15.2.1,())
def l_markUnitS (N:Nat) (x:List (Y167)×Int×Unit):Option (Int×List (Y167)×Unit) :=
(iter (A:=List (Y167)×Int×Int×Unit) (B:=List (Y167)×Int×Unit) (C:=Int×List (Y167)×Unit) (fun s1 =>
(if (decide (s1.2.2.1<(List.length s1.1:Int)))=true then
(if inB s1.2.2.1 (List.length s1.1) then
((some (List.set s1.1 (Int.toNat s1.2.2.1) (s1.2.1,(List.getD s1.1 (Int.toNat s1.2.2.1) (0,(([],(0,())),()))).2)):Option (List (Y167)))).bind fun a2 =>
(if inB s1.2.2.1 (List.length a2) then
(l_markNodeS N ((((List.getD a2 (Int.toNat s1.2.2.1) (0,(([],(0,())),()))).2).1).1,wI (s1.2.1+1),())).bind fun r3 =>
((some (List.set a2 (Int.toNat s1.2.2.1) ((List.getD a2 (Int.toNat s1.2.2.1) (0,(([],(0,())),()))).1,((r3.2.1,(((List.getD a2 (Int.toNat s1.2.2.1) (0,(([],(0,())),()))).2).1).2),((List.getD a2 (Int.toNat s1.2.2.1) (0,(([],(0,())),()))).2).2))):Option (List (Y167)))).bind fun a4 =>
(if inB s1.2.2.1 (List.length a4) then
((some (List.set a4 (Int.toNat s1.2.2.1) ((List.getD a4 (Int.toNat s1.2.2.1) (0,(([],(0,())),()))).1,(((((List.getD a4 (Int.toNat s1.2.2.1) (0,(([],(0,())),()))).2).1).1,(r3.1,((((List.getD a4 (Int.toNat s1.2.2.1) (0,(([],(0,())),()))).2).1).2).2)),((List.getD a4 (Int.toNat s1.2.2.1) (0,(([],(0,())),()))).2).2))):Option (List (Y167)))).bind fun a5 =>
 some (Step.more (a5,wI (r3.1+1),wI (s1.2.2.1+1),())) else none) else none) else none) else
 some (Step.done (s1.1,s1.2.1,())))) N (x.1,x.2.1,0,())).bind fun r6=>match r6 with
| .inl y7=>some (y7.2.1,y7.1,())
| .inr z8=>some (z8.1,z8.2.1,())
def l_markSys (N:Nat) (x:(Y26)×Int×Unit):Option (Int×Unit) :=
(l_markCellS N (x.1.1,x.2.1,())).bind fun r1 =>
(l_markInstS N (x.1.2.1,r1.1,())).bind fun r2 =>
(l_markUnitS N (x.1.2.2.1,r2.1,())).bind fun r3 =>
(l_markStringS N (x.1.2.2.2.1,r3.1,())).bind fun r4 =>
 some (r4.1,())
def l_markEntS (N:Nat) (x:List (Y75×Int×Int×Unit)×Int×Unit):Option (Int×List (Y75×Int×Int×Unit)×Unit) :=
(iter (A:=List (Y75×Int×Int×Unit)×Int×Int×Unit) (B:=List (Y75×Int×Int×Unit)×Int×Unit) (C:=Int×List (Y75×Int×Int×Unit)×Unit) (fun s1 =>
(if (decide (s1.2.2.1<(List.length s1.1:Int)))=true then
(l_markText N (s1.2.1,())).bind fun r2 =>
(if inB s1.2.2.1 (List.length s1.1) then
((some (List.set s1.1 (Int.toNat s1.2.2.1) ((r2.1,((List.getD s1.1 (Int.toNat s1.2.2.1) ((bE,([],([],([],([],([],())))))),(0,(0,())))).1).2),(List.getD s1.1 (Int.toNat s1.2.2.1) ((bE,([],([],([],([],([],())))))),(0,(0,())))).2)):Option (List (Y75×Int×Int×Unit)))).bind fun a3 =>
(if inB s1.2.2.1 (List.length a3) then
(l_markStringS N ((((List.getD a3 (Int.toNat s1.2.2.1) ((bE,([],([],([],([],([],())))))),(0,(0,())))).1).2).1,wI (s1.2.1+1),())).bind fun r4 =>
((some (List.set a3 (Int.toNat s1.2.2.1) ((((List.getD a3 (Int.toNat s1.2.2.1) ((bE,([],([],([],([],([],())))))),(0,(0,())))).1).1,(r4.2.1,(((List.getD a3 (Int.toNat s1.2.2.1) ((bE,([],([],([],([],([],())))))),(0,(0,())))).1).2).2)),(List.getD a3 (Int.toNat s1.2.2.1) ((bE,([],([],([],([],([],())))))),(0,(0,())))).2)):Option (List (Y75×Int×Int×Unit)))).bind fun a5 =>
(if inB s1.2.2.1 (List.length a5) then
(l_markStringS N (((((List.getD a5 (Int.toNat s1.2.2.1) ((bE,([],([],([],([],([],())))))),(0,(0,())))).1).2).2).1,r4.1,())).bind fun r6 =>
((some (List.set a5 (Int.toNat s1.2.2.1) ((((List.getD a5 (Int.toNat s1.2.2.1) ((bE,([],([],([],([],([],())))))),(0,(0,())))).1).1,((((List.getD a5 (Int.toNat s1.2.2.1) ((bE,([],([],([],([],([],())))))),(0,(0,())))).1).2).1,(r6.2.1,((((List.getD a5 (Int.toNat s1.2.2.1) ((bE,([],([],([],([],([],())))))),(0,(0,())))).1).2).2).2))),(List.getD a5 (Int.toNat s1.2.2.1) ((bE,([],([],([],([],([],())))))),(0,(0,())))).2)):Option (List (Y75×Int×Int×Unit)))).bind fun a7 =>
(if inB s1.2.2.1 (List.length a7) then
(l_markTypeS N ((((((List.getD a7 (Int.toNat s1.2.2.1) ((bE,([],([],([],([],([],())))))),(0,(0,())))).1).2).2).2).1,r6.1,())).bind fun r8 =>
((some (List.set a7 (Int.toNat s1.2.2.1) ((((List.getD a7 (Int.toNat s1.2.2.1) ((bE,([],([],([],([],([],())))))),(0,(0,())))).1).1,((((List.getD a7 (Int.toNat s1.2.2.1) ((bE,([],([],([],([],([],())))))),(0,(0,())))).1).2).1,(((((List.getD a7 (Int.toNat s1.2.2.1) ((bE,([],([],([],([],([],())))))),(0,(0,())))).1).2).2).1,(r8.2.1,(((((List.getD a7 (Int.toNat s1.2.2.1) ((bE,([],([],([],([],([],())))))),(0,(0,())))).1).2).2).2).2)))),(List.getD a7 (Int.toNat s1.2.2.1) ((bE,([],([],([],([],([],())))))),(0,(0,())))).2)):Option (List (Y75×Int×Int×Unit)))).bind fun a9 =>
(if inB s1.2.2.1 (List.length a9) then
(l_markDefS N (((((((List.getD a9 (Int.toNat s1.2.2.1) ((bE,([],([],([],([],([],())))))),(0,(0,())))).1).2).2).2).2).1,r8.1,())).bind fun r10 =>
((some (List.set a9 (Int.toNat s1.2.2.1) ((((List.getD a9 (Int.toNat s1.2.2.1) ((bE,([],([],([],([],([],())))))),(0,(0,())))).1).1,((((List.getD a9 (Int.toNat s1.2.2.1) ((bE,([],([],([],([],([],())))))),(0,(0,())))).1).2).1,(((((List.getD a9 (Int.toNat s1.2.2.1) ((bE,([],([],([],([],([],())))))),(0,(0,())))).1).2).2).1,((((((List.getD a9 (Int.toNat s1.2.2.1) ((bE,([],([],([],([],([],())))))),(0,(0,())))).1).2).2).2).1,(r10.2.1,((((((List.getD a9 (Int.toNat s1.2.2.1) ((bE,([],([],([],([],([],())))))),(0,(0,())))).1).2).2).2).2).2))))),(List.getD a9 (Int.toNat s1.2.2.1) ((bE,([],([],([],([],([],())))))),(0,(0,())))).2)):Option (List (Y75×Int×Int×Unit)))).bind fun a11 =>
(if inB s1.2.2.1 (List.length a11) then
(l_markDefS N ((((((((List.getD a11 (Int.toNat s1.2.2.1) ((bE,([],([],([],([],([],())))))),(0,(0,())))).1).2).2).2).2).2).1,r10.1,())).bind fun r12 =>
((some (List.set a11 (Int.toNat s1.2.2.1) ((((List.getD a11 (Int.toNat s1.2.2.1) ((bE,([],([],([],([],([],())))))),(0,(0,())))).1).1,((((List.getD a11 (Int.toNat s1.2.2.1) ((bE,([],([],([],([],([],())))))),(0,(0,())))).1).2).1,(((((List.getD a11 (Int.toNat s1.2.2.1) ((bE,([],([],([],([],([],())))))),(0,(0,())))).1).2).2).1,((((((List.getD a11 (Int.toNat s1.2.2.1) ((bE,([],([],([],([],([],())))))),(0,(0,())))).1).2).2).2).1,(((((((List.getD a11 (Int.toNat s1.2.2.1) ((bE,([],([],([],([],([],())))))),(0,(0,())))).1).2).2).2).2).1,(r12.2.1,(((((((List.getD a11 (Int.toNat s1.2.2.1) ((bE,([],([],([],([],([],())))))),(0,(0,())))).1).2).2).2).2).2).2)))))),(List.getD a11 (Int.toNat s1.2.2.1) ((bE,([],([],([],([],([],())))))),(0,(0,())))).2)):Option (List (Y75×Int×Int×Unit)))).bind fun a13 =>
(if inB s1.2.2.1 (List.length a13) then
((some (List.set a13 (Int.toNat s1.2.2.1) ((List.getD a13 (Int.toNat s1.2.2.1) ((bE,([],([],([],([],([],())))))),(0,(0,())))).1,(r12.1,((List.getD a13 (Int.toNat s1.2.2.1) ((bE,([],([],([],([],([],())))))),(0,(0,())))).2).2))):Option (List (Y75×Int×Int×Unit)))).bind fun a14 =>
(if inB s1.2.2.1 (List.length a14) then
((some (List.set a14 (Int.toNat s1.2.2.1) ((List.getD a14 (Int.toNat s1.2.2.1) ((bE,([],([],([],([],([],())))))),(0,(0,())))).1,(((List.getD a14 (Int.toNat s1.2.2.1) ((bE,([],([],([],([],([],())))))),(0,(0,())))).2).1,(wI (r12.1+1),(((List.getD a14 (Int.toNat s1.2.2.1) ((bE,([],([],([],([],([],())))))),(0,(0,())))).2).2).2)))):Option (List (Y75×Int×Int×Unit)))).bind fun a15 =>
 some (Step.more (a15,wI ((wI (r12.1+1))+1),wI (s1.2.2.1+1),())) else none) else none) else none) else none) else none) else none) else none) else none) else
 some (Step.done (s1.1,s1.2.1,())))) N (x.1,x.2.1,0,())).bind fun r16=>match r16 with
| .inl y17=>some (y17.2.1,y17.1,())
| .inr z18=>some (z18.1,z18.2.1,())
def l_markBindS (N:Nat) (x:List (ByteArray×Y103×Unit)×Int×Unit):Option (Int×List (ByteArray×Y103×Unit)×Unit) :=
(iter (A:=List (ByteArray×Y103×Unit)×Int×Int×Unit) (B:=List (ByteArray×Y103×Unit)×Int×Unit) (C:=Int×List (ByteArray×Y103×Unit)×Unit) (fun s1 =>
(if (decide (s1.2.2.1<(List.length s1.1:Int)))=true then
(l_markText N (s1.2.1,())).bind fun r2 =>
(if inB s1.2.2.1 (List.length s1.1) then
((some (List.set s1.1 (Int.toNat s1.2.2.1) (r2.1,(List.getD s1.1 (Int.toNat s1.2.2.1) (bE,((0,(0,(bE,()))),()))).2)):Option (List (ByteArray×Y103×Unit)))).bind fun a3 =>
(if inB s1.2.2.1 (List.length a3) then
((some (List.set a3 (Int.toNat s1.2.2.1) ((List.getD a3 (Int.toNat s1.2.2.1) (bE,((0,(0,(bE,()))),()))).1,((wI (s1.2.1+1),(((List.getD a3 (Int.toNat s1.2.2.1) (bE,((0,(0,(bE,()))),()))).2).1).2),((List.getD a3 (Int.toNat s1.2.2.1) (bE,((0,(0,(bE,()))),()))).2).2))):Option (List (ByteArray×Y103×Unit)))).bind fun a4 =>
(if inB s1.2.2.1 (List.length a4) then
((some (List.set a4 (Int.toNat s1.2.2.1) ((List.getD a4 (Int.toNat s1.2.2.1) (bE,((0,(0,(bE,()))),()))).1,(((((List.getD a4 (Int.toNat s1.2.2.1) (bE,((0,(0,(bE,()))),()))).2).1).1,(wI ((wI (s1.2.1+1))+1),((((List.getD a4 (Int.toNat s1.2.2.1) (bE,((0,(0,(bE,()))),()))).2).1).2).2)),((List.getD a4 (Int.toNat s1.2.2.1) (bE,((0,(0,(bE,()))),()))).2).2))):Option (List (ByteArray×Y103×Unit)))).bind fun a5 =>
(l_markText N (wI ((wI ((wI (s1.2.1+1))+1))+1),())).bind fun r6 =>
(if inB s1.2.2.1 (List.length a5) then
((some (List.set a5 (Int.toNat s1.2.2.1) ((List.getD a5 (Int.toNat s1.2.2.1) (bE,((0,(0,(bE,()))),()))).1,(((((List.getD a5 (Int.toNat s1.2.2.1) (bE,((0,(0,(bE,()))),()))).2).1).1,(((((List.getD a5 (Int.toNat s1.2.2.1) (bE,((0,(0,(bE,()))),()))).2).1).2).1,(r6.1,(((((List.getD a5 (Int.toNat s1.2.2.1) (bE,((0,(0,(bE,()))),()))).2).1).2).2).2))),((List.getD a5 (Int.toNat s1.2.2.1) (bE,((0,(0,(bE,()))),()))).2).2))):Option (List (ByteArray×Y103×Unit)))).bind fun a7 =>
 some (Step.more (a7,wI ((wI ((wI ((wI (s1.2.1+1))+1))+1))+1),wI (s1.2.2.1+1),())) else none) else none) else none) else none) else
 some (Step.done (s1.1,s1.2.1,())))) N (x.1,x.2.1,0,())).bind fun r8=>match r8 with
| .inl y9=>some (y9.2.1,y9.1,())
| .inr z10=>some (z10.1,z10.2.1,())
def l_markFrameS (N:Nat) (x:List (Y194)×Int×Unit):Option (Int×List (Y194)×Unit) :=
(iter (A:=List (Y194)×Int×Int×Unit) (B:=List (Y194)×Int×Unit) (C:=Int×List (Y194)×Unit) (fun s1 =>
(if (decide (s1.2.2.1<(List.length s1.1:Int)))=true then
(if inB s1.2.2.1 (List.length s1.1) then
((some (List.set s1.1 (Int.toNat s1.2.2.1) (s1.2.1,(List.getD s1.1 (Int.toNat s1.2.2.1) (0,(0,([],([],()))))).2)):Option (List (Y194)))).bind fun a2 =>
(if inB s1.2.2.1 (List.length a2) then
((some (List.set a2 (Int.toNat s1.2.2.1) ((List.getD a2 (Int.toNat s1.2.2.1) (0,(0,([],([],()))))).1,(wI (s1.2.1+1),((List.getD a2 (Int.toNat s1.2.2.1) (0,(0,([],([],()))))).2).2))):Option (List (Y194)))).bind fun a3 =>
(if inB s1.2.2.1 (List.length a3) then
(l_markValueS N ((((List.getD a3 (Int.toNat s1.2.2.1) (0,(0,([],([],()))))).2).2).1,wI ((wI (s1.2.1+1))+1),())).bind fun r4 =>
((some (List.set a3 (Int.toNat s1.2.2.1) ((List.getD a3 (Int.toNat s1.2.2.1) (0,(0,([],([],()))))).1,(((List.getD a3 (Int.toNat s1.2.2.1) (0,(0,([],([],()))))).2).1,(r4.2.1,(((List.getD a3 (Int.toNat s1.2.2.1) (0,(0,([],([],()))))).2).2).2)))):Option (List (Y194)))).bind fun a5 =>
(if inB s1.2.2.1 (List.length a5) then
(l_markBindS N (((((List.getD a5 (Int.toNat s1.2.2.1) (0,(0,([],([],()))))).2).2).2).1,r4.1,())).bind fun r6 =>
((some (List.set a5 (Int.toNat s1.2.2.1) ((List.getD a5 (Int.toNat s1.2.2.1) (0,(0,([],([],()))))).1,(((List.getD a5 (Int.toNat s1.2.2.1) (0,(0,([],([],()))))).2).1,((((List.getD a5 (Int.toNat s1.2.2.1) (0,(0,([],([],()))))).2).2).1,(r6.2.1,((((List.getD a5 (Int.toNat s1.2.2.1) (0,(0,([],([],()))))).2).2).2).2))))):Option (List (Y194)))).bind fun a7 =>
 some (Step.more (a7,r6.1,wI (s1.2.2.1+1),())) else none) else none) else none) else none) else
 some (Step.done (s1.1,s1.2.1,())))) N (x.1,x.2.1,0,())).bind fun r8=>match r8 with
| .inl y9=>some (y9.2.1,y9.1,())
| .inr z10=>some (z10.1,z10.2.1,())
def l_markTaskS (N:Nat) (x:List (Int×Y106×Unit)×Int×Unit):Option (Int×List (Int×Y106×Unit)×Unit) :=
(iter (A:=List (Int×Y106×Unit)×Int×Int×Unit) (B:=List (Int×Y106×Unit)×Int×Unit) (C:=Int×List (Int×Y106×Unit)×Unit) (fun s1 =>
(if (decide (s1.2.2.1<(List.length s1.1:Int)))=true then
(if inB s1.2.2.1 (List.length s1.1) then
((some (List.set s1.1 (Int.toNat s1.2.2.1) (s1.2.1,(List.getD s1.1 (Int.toNat s1.2.2.1) (0,((0,(0,(0,([],((0,(0,(bE,()))),([],(0,()))))))),()))).2)):Option (List (Int×Y106×Unit)))).bind fun a2 =>
(if inB s1.2.2.1 (List.length a2) then
((some (List.set a2 (Int.toNat s1.2.2.1) ((List.getD a2 (Int.toNat s1.2.2.1) (0,((0,(0,(0,([],((0,(0,(bE,()))),([],(0,()))))))),()))).1,((wI (s1.2.1+1),(((List.getD a2 (Int.toNat s1.2.2.1) (0,((0,(0,(0,([],((0,(0,(bE,()))),([],(0,()))))))),()))).2).1).2),((List.getD a2 (Int.toNat s1.2.2.1) (0,((0,(0,(0,([],((0,(0,(bE,()))),([],(0,()))))))),()))).2).2))):Option (List (Int×Y106×Unit)))).bind fun a3 =>
(if inB s1.2.2.1 (List.length a3) then
((some (List.set a3 (Int.toNat s1.2.2.1) ((List.getD a3 (Int.toNat s1.2.2.1) (0,((0,(0,(0,([],((0,(0,(bE,()))),([],(0,()))))))),()))).1,(((((List.getD a3 (Int.toNat s1.2.2.1) (0,((0,(0,(0,([],((0,(0,(bE,()))),([],(0,()))))))),()))).2).1).1,(wI ((wI (s1.2.1+1))+1),((((List.getD a3 (Int.toNat s1.2.2.1) (0,((0,(0,(0,([],((0,(0,(bE,()))),([],(0,()))))))),()))).2).1).2).2)),((List.getD a3 (Int.toNat s1.2.2.1) (0,((0,(0,(0,([],((0,(0,(bE,()))),([],(0,()))))))),()))).2).2))):Option (List (Int×Y106×Unit)))).bind fun a4 =>
(if inB s1.2.2.1 (List.length a4) then
((some (List.set a4 (Int.toNat s1.2.2.1) ((List.getD a4 (Int.toNat s1.2.2.1) (0,((0,(0,(0,([],((0,(0,(bE,()))),([],(0,()))))))),()))).1,(((((List.getD a4 (Int.toNat s1.2.2.1) (0,((0,(0,(0,([],((0,(0,(bE,()))),([],(0,()))))))),()))).2).1).1,(((((List.getD a4 (Int.toNat s1.2.2.1) (0,((0,(0,(0,([],((0,(0,(bE,()))),([],(0,()))))))),()))).2).1).2).1,(wI ((wI ((wI (s1.2.1+1))+1))+1),(((((List.getD a4 (Int.toNat s1.2.2.1) (0,((0,(0,(0,([],((0,(0,(bE,()))),([],(0,()))))))),()))).2).1).2).2).2))),((List.getD a4 (Int.toNat s1.2.2.1) (0,((0,(0,(0,([],((0,(0,(bE,()))),([],(0,()))))))),()))).2).2))):Option (List (Int×Y106×Unit)))).bind fun a5 =>
(if inB s1.2.2.1 (List.length a5) then
(l_markBindS N (((((((List.getD a5 (Int.toNat s1.2.2.1) (0,((0,(0,(0,([],((0,(0,(bE,()))),([],(0,()))))))),()))).2).1).2).2).2).1,wI ((wI ((wI ((wI (s1.2.1+1))+1))+1))+1),())).bind fun r6 =>
((some (List.set a5 (Int.toNat s1.2.2.1) ((List.getD a5 (Int.toNat s1.2.2.1) (0,((0,(0,(0,([],((0,(0,(bE,()))),([],(0,()))))))),()))).1,(((((List.getD a5 (Int.toNat s1.2.2.1) (0,((0,(0,(0,([],((0,(0,(bE,()))),([],(0,()))))))),()))).2).1).1,(((((List.getD a5 (Int.toNat s1.2.2.1) (0,((0,(0,(0,([],((0,(0,(bE,()))),([],(0,()))))))),()))).2).1).2).1,((((((List.getD a5 (Int.toNat s1.2.2.1) (0,((0,(0,(0,([],((0,(0,(bE,()))),([],(0,()))))))),()))).2).1).2).2).1,(r6.2.1,((((((List.getD a5 (Int.toNat s1.2.2.1) (0,((0,(0,(0,([],((0,(0,(bE,()))),([],(0,()))))))),()))).2).1).2).2).2).2)))),((List.getD a5 (Int.toNat s1.2.2.1) (0,((0,(0,(0,([],((0,(0,(bE,()))),([],(0,()))))))),()))).2).2))):Option (List (Int×Y106×Unit)))).bind fun a7 =>
(if inB s1.2.2.1 (List.length a7) then
((some (List.set a7 (Int.toNat s1.2.2.1) ((List.getD a7 (Int.toNat s1.2.2.1) (0,((0,(0,(0,([],((0,(0,(bE,()))),([],(0,()))))))),()))).1,(((((List.getD a7 (Int.toNat s1.2.2.1) (0,((0,(0,(0,([],((0,(0,(bE,()))),([],(0,()))))))),()))).2).1).1,(((((List.getD a7 (Int.toNat s1.2.2.1) (0,((0,(0,(0,([],((0,(0,(bE,()))),([],(0,()))))))),()))).2).1).2).1,((((((List.getD a7 (Int.toNat s1.2.2.1) (0,((0,(0,(0,([],((0,(0,(bE,()))),([],(0,()))))))),()))).2).1).2).2).1,(((((((List.getD a7 (Int.toNat s1.2.2.1) (0,((0,(0,(0,([],((0,(0,(bE,()))),([],(0,()))))))),()))).2).1).2).2).2).1,((r6.1,((((((((List.getD a7 (Int.toNat s1.2.2.1) (0,((0,(0,(0,([],((0,(0,(bE,()))),([],(0,()))))))),()))).2).1).2).2).2).2).1).2),(((((((List.getD a7 (Int.toNat s1.2.2.1) (0,((0,(0,(0,([],((0,(0,(bE,()))),([],(0,()))))))),()))).2).1).2).2).2).2).2))))),((List.getD a7 (Int.toNat s1.2.2.1) (0,((0,(0,(0,([],((0,(0,(bE,()))),([],(0,()))))))),()))).2).2))):Option (List (Int×Y106×Unit)))).bind fun a8 =>
(if inB s1.2.2.1 (List.length a8) then
((some (List.set a8 (Int.toNat s1.2.2.1) ((List.getD a8 (Int.toNat s1.2.2.1) (0,((0,(0,(0,([],((0,(0,(bE,()))),([],(0,()))))))),()))).1,(((((List.getD a8 (Int.toNat s1.2.2.1) (0,((0,(0,(0,([],((0,(0,(bE,()))),([],(0,()))))))),()))).2).1).1,(((((List.getD a8 (Int.toNat s1.2.2.1) (0,((0,(0,(0,([],((0,(0,(bE,()))),([],(0,()))))))),()))).2).1).2).1,((((((List.getD a8 (Int.toNat s1.2.2.1) (0,((0,(0,(0,([],((0,(0,(bE,()))),([],(0,()))))))),()))).2).1).2).2).1,(((((((List.getD a8 (Int.toNat s1.2.2.1) (0,((0,(0,(0,([],((0,(0,(bE,()))),([],(0,()))))))),()))).2).1).2).2).2).1,((((((((((List.getD a8 (Int.toNat s1.2.2.1) (0,((0,(0,(0,([],((0,(0,(bE,()))),([],(0,()))))))),()))).2).1).2).2).2).2).1).1,(wI (r6.1+1),(((((((((List.getD a8 (Int.toNat s1.2.2.1) (0,((0,(0,(0,([],((0,(0,(bE,()))),([],(0,()))))))),()))).2).1).2).2).2).2).1).2).2)),(((((((List.getD a8 (Int.toNat s1.2.2.1) (0,((0,(0,(0,([],((0,(0,(bE,()))),([],(0,()))))))),()))).2).1).2).2).2).2).2))))),((List.getD a8 (Int.toNat s1.2.2.1) (0,((0,(0,(0,([],((0,(0,(bE,()))),([],(0,()))))))),()))).2).2))):Option (List (Int×Y106×Unit)))).bind fun a9 =>
(l_markText N (wI ((wI (r6.1+1))+1),())).bind fun r10 =>
(if inB s1.2.2.1 (List.length a9) then
((some (List.set a9 (Int.toNat s1.2.2.1) ((List.getD a9 (Int.toNat s1.2.2.1) (0,((0,(0,(0,([],((0,(0,(bE,()))),([],(0,()))))))),()))).1,(((((List.getD a9 (Int.toNat s1.2.2.1) (0,((0,(0,(0,([],((0,(0,(bE,()))),([],(0,()))))))),()))).2).1).1,(((((List.getD a9 (Int.toNat s1.2.2.1) (0,((0,(0,(0,([],((0,(0,(bE,()))),([],(0,()))))))),()))).2).1).2).1,((((((List.getD a9 (Int.toNat s1.2.2.1) (0,((0,(0,(0,([],((0,(0,(bE,()))),([],(0,()))))))),()))).2).1).2).2).1,(((((((List.getD a9 (Int.toNat s1.2.2.1) (0,((0,(0,(0,([],((0,(0,(bE,()))),([],(0,()))))))),()))).2).1).2).2).2).1,((((((((((List.getD a9 (Int.toNat s1.2.2.1) (0,((0,(0,(0,([],((0,(0,(bE,()))),([],(0,()))))))),()))).2).1).2).2).2).2).1).1,((((((((((List.getD a9 (Int.toNat s1.2.2.1) (0,((0,(0,(0,([],((0,(0,(bE,()))),([],(0,()))))))),()))).2).1).2).2).2).2).1).2).1,(r10.1,((((((((((List.getD a9 (Int.toNat s1.2.2.1) (0,((0,(0,(0,([],((0,(0,(bE,()))),([],(0,()))))))),()))).2).1).2).2).2).2).1).2).2).2))),(((((((List.getD a9 (Int.toNat s1.2.2.1) (0,((0,(0,(0,([],((0,(0,(bE,()))),([],(0,()))))))),()))).2).1).2).2).2).2).2))))),((List.getD a9 (Int.toNat s1.2.2.1) (0,((0,(0,(0,([],((0,(0,(bE,()))),([],(0,()))))))),()))).2).2))):Option (List (Int×Y106×Unit)))).bind fun a11 =>
(if inB s1.2.2.1 (List.length a11) then
(l_markFrameS N (((((((((List.getD a11 (Int.toNat s1.2.2.1) (0,((0,(0,(0,([],((0,(0,(bE,()))),([],(0,()))))))),()))).2).1).2).2).2).2).2).1,wI ((wI ((wI (r6.1+1))+1))+1),())).bind fun r12 =>
((some (List.set a11 (Int.toNat s1.2.2.1) ((List.getD a11 (Int.toNat s1.2.2.1) (0,((0,(0,(0,([],((0,(0,(bE,()))),([],(0,()))))))),()))).1,(((((List.getD a11 (Int.toNat s1.2.2.1) (0,((0,(0,(0,([],((0,(0,(bE,()))),([],(0,()))))))),()))).2).1).1,(((((List.getD a11 (Int.toNat s1.2.2.1) (0,((0,(0,(0,([],((0,(0,(bE,()))),([],(0,()))))))),()))).2).1).2).1,((((((List.getD a11 (Int.toNat s1.2.2.1) (0,((0,(0,(0,([],((0,(0,(bE,()))),([],(0,()))))))),()))).2).1).2).2).1,(((((((List.getD a11 (Int.toNat s1.2.2.1) (0,((0,(0,(0,([],((0,(0,(bE,()))),([],(0,()))))))),()))).2).1).2).2).2).1,((((((((List.getD a11 (Int.toNat s1.2.2.1) (0,((0,(0,(0,([],((0,(0,(bE,()))),([],(0,()))))))),()))).2).1).2).2).2).2).1,(r12.2.1,((((((((List.getD a11 (Int.toNat s1.2.2.1) (0,((0,(0,(0,([],((0,(0,(bE,()))),([],(0,()))))))),()))).2).1).2).2).2).2).2).2)))))),((List.getD a11 (Int.toNat s1.2.2.1) (0,((0,(0,(0,([],((0,(0,(bE,()))),([],(0,()))))))),()))).2).2))):Option (List (Int×Y106×Unit)))).bind fun a13 =>
(if inB s1.2.2.1 (List.length a13) then
((some (List.set a13 (Int.toNat s1.2.2.1) ((List.getD a13 (Int.toNat s1.2.2.1) (0,((0,(0,(0,([],((0,(0,(bE,()))),([],(0,()))))))),()))).1,(((((List.getD a13 (Int.toNat s1.2.2.1) (0,((0,(0,(0,([],((0,(0,(bE,()))),([],(0,()))))))),()))).2).1).1,(((((List.getD a13 (Int.toNat s1.2.2.1) (0,((0,(0,(0,([],((0,(0,(bE,()))),([],(0,()))))))),()))).2).1).2).1,((((((List.getD a13 (Int.toNat s1.2.2.1) (0,((0,(0,(0,([],((0,(0,(bE,()))),([],(0,()))))))),()))).2).1).2).2).1,(((((((List.getD a13 (Int.toNat s1.2.2.1) (0,((0,(0,(0,([],((0,(0,(bE,()))),([],(0,()))))))),()))).2).1).2).2).2).1,((((((((List.getD a13 (Int.toNat s1.2.2.1) (0,((0,(0,(0,([],((0,(0,(bE,()))),([],(0,()))))))),()))).2).1).2).2).2).2).1,(((((((((List.getD a13 (Int.toNat s1.2.2.1) (0,((0,(0,(0,([],((0,(0,(bE,()))),([],(0,()))))))),()))).2).1).2).2).2).2).2).1,(r12.1,(((((((((List.getD a13 (Int.toNat s1.2.2.1) (0,((0,(0,(0,([],((0,(0,(bE,()))),([],(0,()))))))),()))).2).1).2).2).2).2).2).2).2))))))),((List.getD a13 (Int.toNat s1.2.2.1) (0,((0,(0,(0,([],((0,(0,(bE,()))),([],(0,()))))))),()))).2).2))):Option (List (Int×Y106×Unit)))).bind fun a14 =>
 some (Step.more (a14,wI (r12.1+1),wI (s1.2.2.1+1),())) else none) else none) else none) else none) else none) else none) else none) else none) else none) else none) else
 some (Step.done (s1.1,s1.2.1,())))) N (x.1,x.2.1,0,())).bind fun r15=>match r15 with
| .inl y16=>some (y16.2.1,y16.1,())
| .inr z17=>some (z17.1,z17.2.1,())
def l_markWorld (N:Nat) (x:(Y30)×Int×Unit):Option (Int×Unit) :=
(l_markSys N (x.1.1,x.2.1,())).bind fun r1 =>
(l_markEntS N (x.1.2.1,r1.1,())).bind fun r2 =>
(l_markTaskS N (x.1.2.2.1,r2.1,())).bind fun r3 =>
 some (r3.1,())
end Go.Rf
namespace Go.Rf
def g_slices_Insert_loop_example_g00765_impl_Tally_loop_example_g00765_impl_Tally_ (N:Nat) (x:List (Int×Int×Unit)×Int×List (Int×Int×Unit)×Unit):Option (List (Int×Int×Unit)×Unit) :=
 if 0≤x.2.1∧x.2.1≤(x.1.length:Int)∧x.2.2.1.length=1∧x.1.length<4294967296 then some (x.1.take x.2.1.toNat++x.2.2.1++x.1.drop x.2.1.toNat,()) else none
end Go.Rf
namespace Go.Rf
def s_RecordsOf (N:Nat) (x:(Y30)×ByteArray×ByteArray×Unit):Option (List (Int×Int×Unit)×Unit) :=
(s_WorldOk N (x.1,())).bind fun r1 =>
(if (!r1.1)=true then
 some ([],()) else
(iter (A:=(Y30)×List (Int×Int×Unit)×Int×Unit) (B:=List (Int×Int×Unit)×Unit) (C:=List (Int×Int×Unit)×Unit) (fun s2 =>
(if (decide (s2.2.2.1≤1000))=true then
(iter (A:=(Y30)×List (Int×Int×Unit)×Int×Int×Unit) (B:=(Y30)×List (Int×Int×Unit)×Int×Unit) (C:=List (Int×Int×Unit)×Unit) (fun s3 =>
(if (decide (s3.2.2.2.1<(List.length s3.1.1.1:Int)))=true then
(if inB s3.2.2.2.1 (List.length s3.1.1.1) then
((if (decide (((List.getD s3.1.1.1 (Int.toNat s3.2.2.2.1) (0,(bE,(0,(0,([],([],()))))))).1)=3))=true then
 some (decide (((((List.getD s3.1.1.1 (Int.toNat s3.2.2.2.1) (0,(bE,(0,(0,([],([],()))))))).2).2).1)=s2.2.2.1)) else some false)).bind fun b4 =>
((if b4=true then
(if ByteArray.size x.2.1+ByteArray.size (ByteArray.mk #[58])<4611686018427387904 then
(if ByteArray.size (x.2.1++(ByteArray.mk #[58]))+ByteArray.size x.2.2.1<4611686018427387904 then
 some (decide ((((List.getD s3.1.1.1 (Int.toNat s3.2.2.2.1) (0,(bE,(0,(0,([],([],()))))))).2).1)=((x.2.1++(ByteArray.mk #[58]))++x.2.2.1))) else none) else none) else some false)).bind fun b5 =>
((if b5=true then
 some (s3.1,s3.2.1,wI (s3.2.2.1+1),()) else
 some (s3.1,s3.2.1,s3.2.2.1,())):Option ((Y30)×List (Int×Int×Unit)×Int×Unit)).bind fun j6 =>
 some (Step.more (j6.1,j6.2.1,j6.2.2.1,wI (s3.2.2.2.1+1),())) else none) else
 some (Step.done (s3.1,s3.2.1,s3.2.2.1,())))) N (s2.1,s2.2.1,0,0,())).bind fun r7=>match r7 with
| .inl y8=>((if (decide (y8.2.2.1>0))=true then
(if List.length y8.2.1+List.length ([(s2.2.2.1,(y8.2.2.1,()))]:List (Int×Int×Unit))≤4294967296 then
 some (y8.1,y8.2.1++([(s2.2.2.1,(y8.2.2.1,()))]:List (Int×Int×Unit)),()) else none) else
 some (y8.1,y8.2.1,())):Option ((Y30)×List (Int×Int×Unit)×Unit)).bind fun j10 =>
 some (Step.more (j10.1,j10.2.1,wI (s2.2.2.1+1),()))
| .inr z9=>some (Step.ret (z9.1,())) else
 some (Step.done (s2.2.1,())))) N (x.1,[],0,())).bind fun r11=>match r11 with
| .inl y12=>some (y12.1,())
| .inr z13=>some (z13.1,()))
def g_cmp_isNaN_int_ (N:Nat) (x:Int×Unit):Option (Bool×Unit) :=
 some (!decide (x.1=x.1),())
def g_cmp_Compare_int_ (N:Nat) (x:Int×Int×Unit):Option (Int×Unit) :=
(g_cmp_isNaN_int_ N (x.1,())).bind fun r1 =>
(g_cmp_isNaN_int_ N (x.2.1,())).bind fun r2 =>
(if r1.1=true then
(if r2.1=true then
 some (0,()) else
 some ((-1),())) else
(if r2.1=true then
 some (1,()) else
(if (decide (x.1<x.2.1))=true then
 some ((-1),()) else
(if (decide (x.1>x.2.1))=true then
 some (1,()) else
 some (0,())))))
def i_RecordsOf_1 (N:Nat) (x:(Int×Int×Unit)×Int×Unit):Option (Int×Unit) :=
(g_cmp_Compare_int_ N (x.1.1,x.2.1,())).bind fun r1 =>
 some (r1.1,())
def g_slices_BinarySearchFunc_loop_example_g00765_impl_Tally_loop_example_g00765_impl_Tally_int_ (N:Nat) (x:List (Int×Int×Unit)×Int×Unit×Unit):Option (Int×Bool×Unit) :=
(iter (A:=Int×Int×Unit) (B:=Int×Unit) (C:=Int×Bool×Unit) (fun s1 =>
(if (decide (s1.1<s1.2.1))=true then
(if 1<0 then none else
(if inB (wI (Int.fdiv (IntKind.wrap .u64 (wI (s1.1+s1.2.1))) (2 ^ (min (Int.toNat 1) (IntKind.bits .u64))))) (List.length x.1) then
(i_RecordsOf_1 N (List.getD x.1 (Int.toNat (wI (Int.fdiv (IntKind.wrap .u64 (wI (s1.1+s1.2.1))) (2 ^ (min (Int.toNat 1) (IntKind.bits .u64)))))) (0,(0,())),x.2.1,())).bind fun r2 =>
((if (decide (r2.1<0))=true then
 some (wI ((wI (Int.fdiv (IntKind.wrap .u64 (wI (s1.1+s1.2.1))) (2 ^ (min (Int.toNat 1) (IntKind.bits .u64)))))+1),s1.2.1,()) else
 some (s1.1,wI (Int.fdiv (IntKind.wrap .u64 (wI (s1.1+s1.2.1))) (2 ^ (min (Int.toNat 1) (IntKind.bits .u64)))),())):Option (Int×Int×Unit)).bind fun j3 =>
 some (Step.more (j3.1,j3.2.1,())) else none)) else
 some (Step.done (s1.1,())))) N (0,(List.length x.1:Int),())).bind fun r4=>match r4 with
| .inl y5=>((if (decide (y5.1<(List.length x.1:Int)))=true then
(if inB y5.1 (List.length x.1) then
(i_RecordsOf_1 N (List.getD x.1 (Int.toNat y5.1) (0,(0,())),x.2.1,())).bind fun r7 =>
 some (decide (r7.1=0)) else none) else some false)).bind fun b8 =>
 some (y5.1,b8,())
| .inr z6=>some (z6.1,z6.2.1,())
def i_RecordsOf (N:Nat) (x:(Y30)×ByteArray×ByteArray×Unit):Option (List (Int×Int×Unit)×Unit) :=
(i_WorldOk N (x.1,())).bind fun r1 =>
(if (!r1.1)=true then
 some ([],()) else
(iter (A:=List (Int×Int×Unit)×Int×Unit) (B:=List (Int×Int×Unit)×Unit) (C:=List (Int×Int×Unit)×Unit) (fun s2 =>
(if (decide (s2.2.1<(List.length x.1.1.1:Int)))=true then
(if inB s2.2.1 (List.length x.1.1.1) then
((if (!decide (((List.getD x.1.1.1 (Int.toNat s2.2.1) (0,(bE,(0,(0,([],([],()))))))).1)=3))=true then
 some true else (if ByteArray.size x.2.1+ByteArray.size (ByteArray.mk #[58])<4611686018427387904 then
(if ByteArray.size (x.2.1++(ByteArray.mk #[58]))+ByteArray.size x.2.2.1<4611686018427387904 then
 some (!decide ((((List.getD x.1.1.1 (Int.toNat s2.2.1) (0,(bE,(0,(0,([],([],()))))))).2).1)=((x.2.1++(ByteArray.mk #[58]))++x.2.2.1))) else none) else none))).bind fun b3 =>
(if b3=true then
 some (Step.more (s2.1,wI (s2.2.1+1),())) else
(g_slices_BinarySearchFunc_loop_example_g00765_impl_Tally_loop_example_g00765_impl_Tally_int_ N (s2.1,(((List.getD x.1.1.1 (Int.toNat s2.2.1) (0,(bE,(0,(0,([],([],()))))))).2).2).1,(),())).bind fun r4 =>
((if (!r4.2.1)=true then
(g_slices_Insert_loop_example_g00765_impl_Tally_loop_example_g00765_impl_Tally_ N (s2.1,r4.1,[((((List.getD x.1.1.1 (Int.toNat s2.2.1) (0,(bE,(0,(0,([],([],()))))))).2).2).1,(0,()))],())).bind fun r7 =>
 some (r7.1,()) else
 some (s2.1,())):Option (List (Int×Int×Unit)×Unit)).bind fun j6 =>
(if inB r4.1 (List.length j6.1) then
(if inB r4.1 (List.length j6.1) then
 some (Step.more (List.set j6.1 (Int.toNat r4.1) ((List.getD j6.1 (Int.toNat r4.1) (0,(0,()))).1,(wI ((((List.getD j6.1 (Int.toNat r4.1) (0,(0,()))).2).1)+1),((List.getD j6.1 (Int.toNat r4.1) (0,(0,()))).2).2)),wI (s2.2.1+1),())) else none) else none)) else none) else
 some (Step.done (s2.1,())))) N ([],0,())).bind fun r8=>match r8 with
| .inl y9=>some (y9.1,())
| .inr z10=>some (z10.1,()))
def l_eqTally (N:Nat) (x:(Int×Int×Unit)×(Int×Int×Unit)×Unit):Option (Bool×Unit) :=
(if (!decide (x.1.1=x.2.1.1))=true then
 some (false,()) else
(if (!decide (x.1.2.1=x.2.1.2.1))=true then
 some (false,()) else
 some (true,())))
def l_eqTallyS (N:Nat) (x:List (Int×Int×Unit)×List (Int×Int×Unit)×Unit):Option (Bool×Unit) :=
(if (!decide ((List.length x.1:Int)=(List.length x.2.1:Int)))=true then
 some (false,()) else
(iter (A:=Int×Unit) (B:=Unit) (C:=Bool×Unit) (fun s1 =>
(if (decide (s1.1<(List.length x.1:Int)))=true then
(if inB s1.1 (List.length x.1) then
(if inB s1.1 (List.length x.2.1) then
(l_eqTally N (List.getD x.1 (Int.toNat s1.1) (0,(0,())),List.getD x.2.1 (Int.toNat s1.1) (0,(0,())),())).bind fun r2 =>
(if (!r2.1)=true then
 some (Step.ret (false,())) else
 some (Step.more (wI (s1.1+1),()))) else none) else none) else
 some (Step.done (())))) N (0,())).bind fun r3=>match r3 with
| .inl y4=>some (true,())
| .inr z5=>some (z5.1,()))
def l_markTallyS (N:Nat) (x:List (Int×Int×Unit)×Int×Unit):Option (Int×List (Int×Int×Unit)×Unit) :=
(iter (A:=List (Int×Int×Unit)×Int×Int×Unit) (B:=List (Int×Int×Unit)×Int×Unit) (C:=Int×List (Int×Int×Unit)×Unit) (fun s1 =>
(if (decide (s1.2.2.1<(List.length s1.1:Int)))=true then
(if inB s1.2.2.1 (List.length s1.1) then
((some (List.set s1.1 (Int.toNat s1.2.2.1) (s1.2.1,(List.getD s1.1 (Int.toNat s1.2.2.1) (0,(0,()))).2)):Option (List (Int×Int×Unit)))).bind fun a2 =>
(if inB s1.2.2.1 (List.length a2) then
((some (List.set a2 (Int.toNat s1.2.2.1) ((List.getD a2 (Int.toNat s1.2.2.1) (0,(0,()))).1,(wI (s1.2.1+1),((List.getD a2 (Int.toNat s1.2.2.1) (0,(0,()))).2).2))):Option (List (Int×Int×Unit)))).bind fun a3 =>
 some (Step.more (a3,wI ((wI (s1.2.1+1))+1),wI (s1.2.2.1+1),())) else none) else none) else
 some (Step.done (s1.1,s1.2.1,())))) N (x.1,x.2.1,0,())).bind fun r4=>match r4 with
| .inl y5=>some (y5.2.1,y5.1,())
| .inr z6=>some (z6.1,z6.2.1,())
def l_heldTallyS (N:Nat) (x:List (Int×Int×Unit)×Int×Unit):Option (Int×Unit) :=
(iter (A:=Int×Int×Unit) (B:=Int×Unit) (C:=Int×Unit) (fun s1 =>
(if (decide (s1.2.1<(List.length x.1:Int)))=true then
(if inB s1.2.1 (List.length x.1) then
(if (!decide (((List.getD x.1 (Int.toNat s1.2.1) (0,(0,()))).1)=s1.1))=true then
 some (Step.ret ((-1),())) else
(if inB s1.2.1 (List.length x.1) then
(if (!decide ((((List.getD x.1 (Int.toNat s1.2.1) (0,(0,()))).2).1)=(wI (s1.1+1))))=true then
 some (Step.ret ((-1),())) else
 some (Step.more (wI ((wI (s1.1+1))+1),wI (s1.2.1+1),()))) else none)) else none) else
 some (Step.done (s1.1,())))) N (x.2.1,0,())).bind fun r2=>match r2 with
| .inl y3=>some (y3.1,())
| .inr z4=>some (z4.1,())
def l_FnExactRecordsOf_L (N:Nat) (L:Int) (x:(Y30)×ByteArray×ByteArray×Unit):Option (Bool×Unit) :=
(if (decide ((ByteArray.size x.2.1:Int)>L))=true then
 some (true,()) else
(if (decide ((ByteArray.size x.2.2.1:Int)>L))=true then
 some (true,()) else
(l_szWorld N (x.1,1048576,())).bind fun r1 =>
(if (decide (r1.1<0))=true then
 some (true,()) else
(l_toWorld N (x.1,())).bind fun r2 =>
(s_RecordsOf N (r2.1,x.2.1,x.2.2.1,())).bind fun r3 =>
(l_toWorld N (x.1,())).bind fun r4 =>
(i_RecordsOf N (r4.1,x.2.1,x.2.2.1,())).bind fun r5 =>
(l_eqTallyS N (r5.1,r3.1,())).bind fun r6 =>
(if (!r6.1)=true then
 some (false,()) else
(l_toWorld N (x.1,())).bind fun r7 =>
(l_eqWorld N (r4.1,r7.1,())).bind fun r8 =>
(if (!r8.1)=true then
 some (false,()) else
(l_markWorld N (r4.1,1,())).bind fun r9 =>
((if (decide (r9.1<0))=true then
 some true else (l_eqTallyS N (r5.1,r3.1,())).bind fun r10 =>
 some (!r10.1))).bind fun b11 =>
(if b11=true then
 some (false,()) else
(l_markTallyS N (r5.1,1,())).bind fun r12 =>
(l_heldTallyS N (r12.2.1,1,())).bind fun r13 =>
(if (decide (r13.1<0))=true then
 some (false,()) else
(if (!decide (r13.1=r12.1))=true then
 some (false,()) else
(l_toWorld N (x.1,())).bind fun r14 =>
(i_RecordsOf N (r14.1,x.2.1,x.2.2.1,())).bind fun r15 =>
(l_eqTallyS N (r15.1,r3.1,())).bind fun r16 =>
(if (!r16.1)=true then
 some (false,()) else
(l_heldTallyS N (r12.2.1,1,())).bind fun r17 =>
(if (decide (r17.1<0))=true then
 some (false,()) else
(if (!decide (r17.1=r12.1))=true then
 some (false,()) else
 some (true,()))))))))))))
def l_FnExactRecordsOf (N:Nat) (x:(Y30)×ByteArray×ByteArray×Unit):Option (Bool×Unit):=l_FnExactRecordsOf_L N 1048576 x
end Go.Rf
