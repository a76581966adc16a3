/-
  A symbolic evaluator of the model's code, first part: types with modes, what a value denotes, pure operations; of whatever program.
-/
import Derived.Below
import Derived.Orders
import Derived.Laws.Sem
import Derived.Lib.FrozenHead
import Derived.Laws.StructEq
import Derived.Laws.Strings
import Derived.Laws.BytesString
set_option linter.unusedSimpArgs false
set_option linter.unusedVariables false
set_option autoImplicit false
namespace Go.Rf
abbrev bE:ByteArray:=ByteArray.empty
abbrev wI (n:Int):Int:=IntKind.wrap .i64 n
theorem oB {α:Type _}{β:Type _} (a:α) (f:α→Option β):(some a).bind f=f a:=rfl
theorem bF:(false=true)=False:=Bool.false_eq_true
theorem tN (n:Nat):Int.toNat (n:Int)=n:=rfl
theorem sI {α:Type _}{a b:α}:(some a=some b)=(a=b):=Option.some.injEq a b
theorem bA (a b:Bool):((a && b)=true)=(a=true∧b=true):=Bool.and_eq_true a b
theorem bN:(!true)=false:=rfl
inductive Mode where
 | own | keep | lend
 deriving DecidableEq
inductive Ty where
 | int (k:IntKind)
 | bool
 | str
 | sl (m:Mode) (e:Ty)
 | nil                      -- a slice that is literally nil
 | dead                     -- a cell whose contents were moved away
 | unit
 | pair (a b:Ty)
 | clo (g:Nat) (c:Ty)   -- a function,with what it has caught: nothing,or a place that is not written
 deriving DecidableEq
@[reducible] def Ty.D:Ty→Type
 | .int _=>Int
 | .bool=>Bool
 | .str=>ByteArray
 | .sl _ e=>List e.D
 | .nil=>Unit
 | .dead=>Unit
 | .unit=>Unit
 | .pair a b=>a.D×b.D
 | .clo _ c=>c.D
def Ty.size:Ty→Nat
 | .unit=>0
 | .pair a b=>a.size+b.size
 | _=>1
def Ty.isAgg:Ty→Bool
 | .unit=>true
 | .pair ..=>true
 | _=>false
def Ty.plain:Ty→Bool
 | .sl m _=>m != .own
 | .dead=>false
 | .pair a b=>a.plain && b.plain
 | _=>true
abbrev Heap:=Nat→Option Obj
abbrev Stab:=Mode→Nat→Prop
def hp (w:World):Heap:=fun b=>w.heap[b]?
structure Glb where
 n:Nat
 holds:World→Prop
 loc:∀ w w',(∀ b,b<n→hp w' b=hp w b)→holds w→holds w'
def Rows {α:Type} (R:List Value→α→List Nat→Prop) (sz:Nat):List Value→List α→List Nat→Prop
 | _,[],fp=>fp=[]
 | cs,x::xs,fp=>∃ f1 f2,fp=f1++f2∧R (cs.take sz) x f1∧Rows R sz (cs.drop sz) xs f2
def Soft:Nat×Nat→Nat→Prop:=fun fr n=>∀ o,o≤n→(fr.1≤o && o<fr.2)=false
def Rep (S:Stab) (H:Heap):(τ:Ty)→List Value→τ.D→List Nat→Prop
 | .int k,vs,n,fp=>vs=[.int k n]∧fp=[]
 | .bool,vs,b,fp=>vs=[.bool b]∧fp=[]
 | .str,vs,s,fp=>vs=[.string s]∧fp=[]
 | .nil,vs,_,fp=>(∃ a,vs=[.slice a 0 0])∧fp=[]
 | .dead,vs,_,fp=>(∃ v:Value,vs=[v]∧v.oneCell'=true)∧fp=[]
 | .unit,vs,_,fp=>vs=[]∧fp=[]
 | .clo g c,vs,x,fp=>fp=[]∧∃ cb:List Value,vs=[.func (.func g) #[] cb.toArray]∧((cb=[]∧c=.unit) ∨
   (c≠.unit∧∃ b off cs el fr,cb=[.pointer (some ⟨b,off,none⟩)]∧S .lend b∧H b=some (.cells cs el fr)∧off+c.size≤cs.size∧Rep S H c ((cs.toList.drop off).take c.size) x []))
 | .pair a b,vs,x,fp=>∃ v1 v2 f1 f2,vs=v1++v2∧fp=f1++f2∧Rep S H a v1 x.1 f1∧Rep S H b v2 x.2 f2
 | .sl o e,vs,xs,fp=>∃ a len cap,vs=[.slice a len cap]∧len=List.length xs∧len≤cap ∧
   ((cap=0∧fp=[]) ∨
    ∃ b off c el fr f2,a=some ⟨b,off,none⟩∧H b=some (.cells c el fr)∧off+cap*e.size≤c.size ∧
     Rows (Rep S H e) e.size (c.toList.drop off) xs f2 ∧
     ((o≠.own∧S o b∧f2=[]∧fp=[])∨(o=.own∧Soft fr c.size∧fp=b::f2)))
theorem Rows.mono {α:Type}{R R':List Value→α→List Nat→Prop}{sz:Nat} (h:∀ vs x fp,R vs x fp→R' vs x fp) :
  ∀ {cs:List Value}{xs:List α}{fp:List Nat},Rows R sz cs xs fp→Rows R' sz cs xs fp:=by
 intro cs xs
 induction xs generalizing cs with
 | nil=>intro fp h';exact h'
 | cons x xs ih =>
  rintro fp ⟨f1,f2,rfl,h1,h2⟩
  exact ⟨f1,f2,rfl,h _ _ _ h1,ih h2⟩
theorem Rows.mono' {α:Type}{R R':List Value→α→List Nat→Prop}{sz:Nat} :
  ∀ {cs:List Value}{xs:List α}{fp:List Nat},(∀ vs x f,(∀ b∈f,b∈fp)→R vs x f→R' vs x f)→Rows R sz cs xs fp→Rows R' sz cs xs fp:=by
 intro cs xs
 induction xs generalizing cs with
 | nil=>intro fp _ h';exact h'
 | cons x xs ih =>
  rintro fp h ⟨f1,f2,rfl,h1,h2⟩
  exact ⟨f1,f2,rfl,h _ _ _ (fun b hb=>by simp [hb]) h1,ih (fun vs x f hf=>h vs x f (fun b hb=>by simp [hf b hb])) h2⟩
theorem Rep.length {S:Stab}{H:Heap}:∀ {τ:Ty}{vs:List Value}{x:τ.D}{fp:List Nat},Rep S H τ vs x fp→vs.length=τ.size:=by
 intro τ
 induction τ with
 | int k=>rintro vs x fp ⟨rfl,_⟩;rfl
 | bool=>rintro vs x fp ⟨rfl,_⟩;rfl
 | str=>rintro vs x fp ⟨rfl,_⟩;rfl
 | nil=>rintro vs x fp ⟨⟨_,rfl⟩,_⟩;rfl
 | dead=>rintro vs x fp ⟨⟨v,rfl,_⟩,_⟩;rfl
 | unit=>rintro vs x fp ⟨rfl,_⟩;rfl
 | clo g c ih=>rintro vs x fp ⟨_,cb,rfl,_⟩;rfl
 | sl o e ih=>rintro vs x fp ⟨a,len,cap,rfl,_⟩;rfl
 | pair a b iha ihb =>
  rintro vs x fp ⟨v1,v2,f1,f2,rfl,rfl,h1,h2⟩
  simp [Ty.size,iha h1,ihb h2]
theorem Rep.heap {S:Stab}{H H':Heap}:∀ {τ:Ty}{vs:List Value}{x:τ.D}{fp:List Nat},
  (∀ m b,S m b→H' b=H b)→(∀ b∈fp,H' b=H b)→Rep S H τ vs x fp→Rep S H' τ vs x fp:=by
 intro τ
 induction τ with
 | int k=>exact fun _ _ h=>h
 | bool=>exact fun _ _ h=>h
 | str=>exact fun _ _ h=>h
 | nil=>exact fun _ _ h=>h
 | dead=>exact fun _ _ h=>h
 | unit=>exact fun _ _ h=>h
 | clo g c ih =>
  rintro vs x fp hS hf ⟨rfl,cb,rfl,h⟩
  refine ⟨rfl,cb,rfl,?_⟩
  rcases h with h | ⟨hc,b,off,cs,el,fr,h1,h2,h3,h4,h5⟩
  ·exact .inl h
  ·exact .inr ⟨hc,b,off,cs,el,fr,h1,h2,by rw [hS _ b h2];exact h3,h4,ih hS (by simp) h5⟩
 | pair a b iha ihb =>
  rintro vs x fp hS hf ⟨v1,v2,f1,f2,rfl,rfl,h1,h2⟩
  exact ⟨v1,v2,f1,f2,rfl,rfl,iha hS (fun b hb=>hf b (by simp [hb])) h1,ihb hS (fun b hb=>hf b (by simp [hb])) h2⟩
 | sl o e ih =>
  rintro vs x fp hS hf ⟨a,len,cap,rfl,hl,hc,hh⟩
  refine ⟨a,len,cap,rfl,hl,hc,?_⟩
  rcases hh with h | ⟨b,off,c,el,fr,f2,rfl,hb,hsz,hr,h⟩
  ·exact .inl h
  ·refine .inr ⟨b,off,c,el,fr,f2,rfl,?_,hsz,?_,h⟩
   ·rcases h with ⟨_,hs,_⟩ | ⟨_,_,rfl⟩
    ·rw [hS o b hs];exact hb
    ·rw [hf b (by simp)];exact hb
   ·refine Rows.mono' (fun vs x f hff hr=>ih hS (fun b' hb'=>?_) hr) hr
    rcases h with ⟨_,_,rfl,rfl⟩ | ⟨_,_,rfl⟩
    ·have:=hff b' hb';simp at this
    ·exact hf b' (by simp [hff b' hb'])
theorem Rep.stab {S S':Stab}{H:Heap} (hS:∀ m b,S m b→S' m b):∀ {τ:Ty}{vs:List Value}{x:τ.D}{fp:List Nat},
  Rep S H τ vs x fp→Rep S' H τ vs x fp:=by
 intro τ
 induction τ with
 | int k=>exact fun h=>h
 | bool=>exact fun h=>h
 | str=>exact fun h=>h
 | nil=>exact fun h=>h
 | dead=>exact fun h=>h
 | unit=>exact fun h=>h
 | clo g c ih =>
  rintro vs x fp ⟨rfl,cb,rfl,h⟩
  refine ⟨rfl,cb,rfl,?_⟩
  rcases h with h | ⟨hc,b,off,cs,el,fr,h1,h2,h3,h4,h5⟩
  ·exact .inl h
  ·exact .inr ⟨hc,b,off,cs,el,fr,h1,hS _ _ h2,h3,h4,ih h5⟩
 | pair a b iha ihb =>
  rintro vs x fp ⟨v1,v2,f1,f2,rfl,rfl,h1,h2⟩
  exact ⟨v1,v2,f1,f2,rfl,rfl,iha h1,ihb h2⟩
 | sl o e ih =>
  rintro vs x fp ⟨a,len,cap,rfl,hl,hc,hh⟩
  refine ⟨a,len,cap,rfl,hl,hc,?_⟩
  rcases hh with h | ⟨b,off,c,el,fr,f2,rfl,hb,hsz,hr,h⟩
  ·exact .inl h
  ·refine .inr ⟨b,off,c,el,fr,f2,rfl,hb,hsz,Rows.mono (fun _ _ _=>ih) hr,?_⟩
   rcases h with ⟨h1,h2,h3⟩ | h
   ·exact .inl ⟨h1,hS _ _ h2,h3⟩
   ·exact .inr h
theorem Rep.stabN {S S':Stab}{H:Heap} (hS:∀ m b,m≠.own→S m b→S' m b):∀ {τ:Ty}{vs:List Value}{x:τ.D}{fp:List Nat},
  Rep S H τ vs x fp→Rep S' H τ vs x fp:=by
 intro τ
 induction τ with
 | int k=>exact fun h=>h
 | bool=>exact fun h=>h
 | str=>exact fun h=>h
 | nil=>exact fun h=>h
 | dead=>exact fun h=>h
 | unit=>exact fun h=>h
 | clo g c ih =>
  rintro vs x fp ⟨rfl,cb,rfl,h⟩
  refine ⟨rfl,cb,rfl,?_⟩
  rcases h with h | ⟨hc,b,off,cs,el,fr,h1,h2,h3,h4,h5⟩
  ·exact .inl h
  ·exact .inr ⟨hc,b,off,cs,el,fr,h1,hS _ _ (by decide) h2,h3,h4,ih h5⟩
 | pair a b iha ihb =>
  rintro vs x fp ⟨v1,v2,f1,f2,rfl,rfl,h1,h2⟩
  exact ⟨v1,v2,f1,f2,rfl,rfl,iha h1,ihb h2⟩
 | sl o e ih =>
  rintro vs x fp ⟨a,len,cap,rfl,hl,hc,hh⟩
  refine ⟨a,len,cap,rfl,hl,hc,?_⟩
  rcases hh with h | ⟨b,off,c,el,fr,f2,rfl,hb,hsz,hr,h⟩
  ·exact .inl h
  ·refine .inr ⟨b,off,c,el,fr,f2,rfl,hb,hsz,Rows.mono (fun _ _ _=>ih) hr,?_⟩
   rcases h with ⟨h1,h2,h3⟩ | h
   ·exact .inl ⟨h1,hS _ _ h1 h2,h3⟩
   ·exact .inr h
theorem Rep.plain {S:Stab}{H:Heap}:∀ {τ:Ty}{vs:List Value}{x:τ.D}{fp:List Nat},τ.plain=true →
  Rep S H τ vs x fp→fp=[]:=by
 intro τ
 induction τ with
 | int k=>rintro vs x fp _ ⟨_,h⟩;exact h
 | bool=>rintro vs x fp _ ⟨_,h⟩;exact h
 | str=>rintro vs x fp _ ⟨_,h⟩;exact h
 | nil=>rintro vs x fp _ ⟨_,h⟩;exact h
 | dead=>rintro vs x fp _ ⟨_,h⟩;exact h
 | unit=>rintro vs x fp _ ⟨_,h⟩;exact h
 | clo g c ih=>rintro vs x fp _ ⟨h,_⟩;exact h
 | pair a b iha ihb =>
  rintro vs x fp hp ⟨v1,v2,f1,f2,rfl,rfl,h1,h2⟩
  simp only [Ty.plain,bA] at hp
  simp [iha hp.1 h1,ihb hp.2 h2]
 | sl o e ih =>
  rintro vs x fp hp ⟨a,len,cap,rfl,hl,hc,hh⟩
  rcases hh with h | ⟨b,off,c,el,fr,f2,rfl,hb,hsz,hr,h⟩
  ·exact h.2
  ·rcases h with ⟨_,_,_,h⟩ | ⟨rfl,_⟩
   ·exact h
   ·simp [Ty.plain] at hp
def Mode.to:Mode→Mode→Mode
 | .own,m=>m
 | .keep,.lend=>.lend
 | k,_=>k
def Ty.share (m:Mode):Ty→Ty
 | .sl k e=>.sl (k.to m) (e.share m)
 | .pair a b=>.pair (a.share m) (b.share m)
 | t=>t
theorem Ty.share_D (m:Mode):∀ τ:Ty,(τ.share m).D=τ.D
 | .int _ | .bool | .str | .nil | .dead | .unit | .clo _ _=>rfl
 | .sl _ e=>congrArg List (Ty.share_D m e)
 | .pair a b=>by simp only [Ty.share,Ty.D];rw [Ty.share_D m a,Ty.share_D m b]
theorem Ty.share_size (m:Mode):∀ τ:Ty,(τ.share m).size=τ.size
 | .int _ | .bool | .str | .nil | .dead | .unit | .clo _ _=>rfl
 | .sl _ e=>rfl
 | .pair a b=>by simp [Ty.share,Ty.size,Ty.share_size m a,Ty.share_size m b]
def Stab.add (S:Stab) (m:Mode) (fp:List Nat):Stab:=fun k b=>S k b∨(b∈fp∧(m=.keep∨k=.lend))
theorem cast_fst {A A' B B':Type} (ea:A=A') (eb:B=B') (e:(A×B)=(A'×B')) (x:A'×B'):(e.mpr x).1=ea.mpr x.1:=by
 subst ea eb;rfl
theorem cast_snd {A A' B B':Type} (ea:A=A') (eb:B=B') (e:(A×B)=(A'×B')) (x:A'×B'):(e.mpr x).2=eb.mpr x.2:=by
 subst ea eb;rfl
theorem cast_list {A A':Type} (ea:A=A') (e:List A=List A') (x:List A'):e.mpr x=x.map ea.mpr:=by
 subst ea
 induction x with
 | nil=>rfl
 | cons y ys ih=>simp only [List.map_cons];rw [← ih];rfl
theorem Stab.add_mono {S:Stab}{m:Mode}{f g:List Nat} (h:∀ b∈f,b∈g):∀ k b,S.add m f k b→S.add m g k b:=by
 rintro k b (h' | ⟨h1,h2⟩)
 ·exact .inl h'
 ·exact .inr ⟨h b h1,h2⟩
theorem Rep.shareS {S:Stab}{H:Heap}{m:Mode} (hm:m≠.own) (hkl:∀ b,S .keep b→S .lend b):∀ {τ:Ty}{vs:List Value}{x:τ.D}{fp:List Nat},
  Rep S H τ vs x fp→Rep (S.add m fp) H (τ.share m) vs ((Ty.share_D m τ).mpr x) []:=by
 intro τ
 induction τ with
 | int k=>rintro vs x fp ⟨h,rfl⟩;exact ⟨h,rfl⟩
 | bool=>rintro vs x fp ⟨h,rfl⟩;exact ⟨h,rfl⟩
 | str=>rintro vs x fp ⟨h,rfl⟩;exact ⟨h,rfl⟩
 | nil=>rintro vs x fp ⟨h,rfl⟩;exact ⟨h,rfl⟩
 | dead=>rintro vs x fp ⟨h,rfl⟩;exact ⟨h,rfl⟩
 | unit=>rintro vs x fp ⟨h,rfl⟩;exact ⟨h,rfl⟩
 | clo g c ih =>
  rintro vs x fp h
  obtain rfl:=h.1
  exact Rep.stab (fun k b h'=>.inl h') h
 | pair a b iha ihb =>
  rintro vs x fp ⟨v1,v2,f1,f2,rfl,rfl,h1,h2⟩
  have k1:=Rep.stab (S':=S.add m (f1++f2)) (Stab.add_mono (fun b hb=>by simp [hb])) (iha h1)
  have k2:=Rep.stab (S':=S.add m (f1++f2)) (Stab.add_mono (fun b hb=>by simp [hb])) (ihb h2)
  refine ⟨v1,v2,[],[],rfl,rfl,?_,?_⟩
  ·rw [show ((Ty.share_D m (.pair a b)).mpr x).1=(Ty.share_D m a).mpr x.1 from cast_fst _ (Ty.share_D m b) _ x];exact k1
  ·rw [show ((Ty.share_D m (.pair a b)).mpr x).2=(Ty.share_D m b).mpr x.2 from cast_snd (Ty.share_D m a) _ _ x];exact k2
 | sl o e ih =>
  rintro vs x fp ⟨a,len,cap,rfl,hl,hc,hh⟩
  have e1:((Ty.share_D m (.sl o e)).mpr x:List (e.share m).D)=(x:List e.D).map ((Ty.share_D m e).mpr):=cast_list _ _ x
  have hlen:List.length ((Ty.share_D m (.sl o e)).mpr x:List (e.share m).D)=List.length x:=by rw [e1];simp
  refine ⟨a,len,cap,rfl,by rw [hlen];exact hl,hc,?_⟩
  rcases hh with h | ⟨b,off,c,el,fr,f2,rfl,hb,hsz,hr,h⟩
  ·exact .inl ⟨h.1,rfl⟩
  ·refine .inr ⟨b,off,c,el,fr,[],rfl,hb,by rw [Ty.share_size];exact hsz,?_,.inl ⟨?_,?_,rfl,rfl⟩⟩
   ·have hff:∀ b'∈f2,b'∈fp:=by
     intro b' hb'
     rcases h with ⟨_,_,rfl,rfl⟩ | ⟨_,_,rfl⟩
     ·simp at hb'
     ·simp [hb']
    clear h hlen hl hc hsz
    rw [Ty.share_size]
    have key:∀ (cs:List Value) (xs:List e.D) (f:List Nat),(∀ b'∈f,b'∈fp)→Rows (Rep S H e) e.size cs xs f →
      Rows (Rep (S.add m fp) H (e.share m)) e.size cs (xs.map ((Ty.share_D m e).mpr)) []:=by
     intro cs xs
     induction xs generalizing cs with
     | nil=>intro f _ _;rfl
     | cons y ys ihy =>
      rintro f hf ⟨g1,g2,rfl,k1,k2⟩
      refine ⟨[],[],rfl,?_,ihy _ _ (fun b' hb'=>hf b' (by simp [hb'])) k2⟩
      exact Rep.stab (Stab.add_mono (fun b hb=>hf b (by simp [hb]))) (ih k1)
    rw [e1];exact key _ _ _ hff hr
   ·cases o <;> cases m <;> simp [Mode.to] at hm ⊢
   ·rcases h with ⟨ho,hs,_⟩ | ⟨rfl,_,rfl⟩
    ·cases o with
     | own=>simp at ho
     | lend=>exact .inl hs
     | keep=>cases m with
      | own=>simp at hm
      | keep=>exact .inl hs
      | lend=>exact .inl (hkl _ hs)
    ·refine .inr ⟨by simp,?_⟩
     cases m with
     | own=>simp at hm
     | keep=>exact .inl rfl
     | lend=>exact .inr rfl
end Go.Rf
namespace Go.Rf
def Ty.dflt:(τ:Ty)→τ.D
 | .int _=>(0:Int)
 | .bool=>false
 | .str=>bE
 | .sl _ _=>[]
 | .nil=>()
 | .dead=>()
 | .unit=>()
 | .pair a b=>(a.dflt,b.dflt)
 | .clo _ c=>c.dflt
inductive Stp where
 | L | R
 | ix (i:Nat)
abbrev Path:=List Stp
def hasIx:Path→Bool
 | []=>false
 | .ix _::_=>true
 | _::p=>hasIx p
def getP:Path→(τ:Ty)→τ.D→Option (Σ τ':Ty,τ'.D)
 | [],τ,x=>some ⟨τ,x⟩
 | .L::p,.pair a _,x=>getP p a x.1
 | .R::p,.pair _ b,x=>getP p b x.2
 | .ix i::p,.sl .own e,xs=>getP p e (List.getD xs i e.dflt)
 | _,_,_=>none
def Valid:Path→(τ:Ty)→τ.D→Prop
 | [],_,_=>True
 | .L::p,.pair a _,x=>Valid p a x.1
 | .R::p,.pair _ b,x=>Valid p b x.2
 | .ix i::p,.sl .own e,xs=>i<List.length xs∧Valid p e (List.getD xs i e.dflt)
 | _,_,_=>False
def setP:Path→(τ:Ty)→τ.D→(σ:Ty)→σ.D→Option (Σ τ':Ty,τ'.D)
 | [],τ,_,σ,y=>if τ.size=σ.size then some ⟨σ,y⟩ else none
 | .L::p,.pair a b,x,σ,y=>match setP p a x.1 σ y with
  | some ⟨a',z⟩=>some ⟨.pair a' b,(z,x.2)⟩
  | none=>none
 | .R::p,.pair a b,x,σ,y=>match setP p b x.2 σ y with
  | some ⟨b',z⟩=>some ⟨.pair a b',(x.1,z)⟩
  | none=>none
 | .ix i::p,.sl .own e,xs,σ,y=>match setP p e (List.getD xs i e.dflt) σ y with
  | some ⟨e',z⟩=>if h:e'=e then some ⟨.sl .own e,List.set xs i (h▸z)⟩ else none
  | none=>none
 | _,_,_,_,_=>none
def At (H:Heap):Path→(τ:Ty)→List Value→Option (Nat×Nat)→List Value→Option (Nat×Nat)→Prop
 | [],_,vs,l,vs',l'=>vs'=vs∧l'=l
 | .L::p,.pair a _,vs,l,vs',l'=>At H p a (vs.take a.size) l vs' l'
 | .R::p,.pair a b,vs,l,vs',l'=>At H p b (vs.drop a.size) (l.map fun q=>(q.1,q.2+a.size)) vs' l'
 | .ix i::p,.sl .own e,vs,_,vs',l'=>∃ b off len cap c el fr,vs=[.slice (some ⟨b,off,none⟩) len cap] ∧
   H b=some (.cells c el fr)∧At H p e ((c.toList.drop (off+i*e.size)).take e.size) (some (b,off+i*e.size)) vs' l'
 | _,_,_,_,_,_=>False
def lput {α:Type} (l:List α) (k:Nat) (ws:List α):List α:=l.take k++ws++l.drop (k+ws.length)
theorem put_length {α:Type}{l:List α}{k:Nat}{ws:List α} (h:k+ws.length≤l.length):(lput l k ws).length=l.length:=by
 simp [lput];omega
theorem put_take {α:Type}{l:List α}{k n:Nat}{ws:List α} (h:k+ws.length≤n) (hl:n≤l.length):(lput l k ws).take n=lput (l.take n) k ws:=by
 apply List.ext_getElem?
 intro i
 simp only [lput,List.getElem?_take,List.getElem?_append,List.getElem?_drop,List.length_append,List.length_take]
 repeat' split
 all_goals first | rfl | omega | (congr 1;omega) | (simp;omega) | skip
 all_goals (try (rw [List.getElem?_eq_none] <;> simp <;> omega))
theorem put_drop {α:Type}{l:List α}{k n:Nat}{ws:List α} (h:n≤k) (hl:k+ws.length≤l.length):(lput l k ws).drop n=lput (l.drop n) (k-n) ws:=by
 apply List.ext_getElem?
 intro i
 simp only [lput,List.getElem?_take,List.getElem?_append,List.getElem?_drop,List.length_append,List.length_take,List.length_drop]
 repeat' split
 all_goals first | rfl | omega | (congr 1;omega) | skip
theorem put_drop' {α:Type}{l:List α}{k n:Nat}{ws:List α} (h:k+ws.length≤n) (hl:k+ws.length≤l.length):(lput l k ws).drop n=l.drop n:=by
 apply List.ext_getElem?
 intro i
 simp only [lput,List.getElem?_take,List.getElem?_append,List.getElem?_drop,List.length_append,List.length_take,List.length_drop]
 repeat' split
 all_goals first | rfl | omega | (congr 1;omega) | skip
theorem put_take' {α:Type}{l:List α}{k n:Nat}{ws:List α} (h:n≤k) (hl:k+ws.length≤l.length):(lput l k ws).take n=l.take n:=by
 apply List.ext_getElem?
 intro i
 simp only [lput,List.getElem?_take,List.getElem?_append,List.getElem?_drop,List.length_append,List.length_take,List.length_drop]
 repeat' split
 all_goals first | rfl | omega | (congr 1;omega) | skip
theorem take_put {α:Type}{l:List α}{k:Nat}{ws:List α} (hl:k+ws.length≤l.length):((lput l k ws).drop k).take ws.length=ws:=by
 apply List.ext_getElem?
 intro i
 simp only [lput,List.getElem?_take,List.getElem?_append,List.getElem?_drop,List.length_append,List.length_take,List.length_drop]
 repeat' split
 all_goals first | rfl | omega | (congr 1;omega) | (rw [List.getElem?_eq_none];omega) | skip
theorem Rows.focus {α:Type}{R:List Value→α→List Nat→Prop}{sz:Nat} (d:α) :
  ∀ (xs:List α) (cs:List Value) (fp:List Nat) (i:Nat),Rows R sz cs xs fp→i<xs.length→xs.length*sz≤cs.length →
  ∃ f1 f' f2,fp=f1++f'++f2∧R ((cs.drop (i*sz)).take sz) (xs.getD i d) f' ∧
   ∀ (R':List Value→α→List Nat→Prop) (y:α) (g:List Nat) (cs':List Value),
    (∀ k,k<xs.length→k≠i→(cs'.drop (k*sz)).take sz=(cs.drop (k*sz)).take sz) →
    (∀ vs x f,(∀ b∈f,b∈f1++f2)→R vs x f→R' vs x f) →
    R' ((cs'.drop (i*sz)).take sz) y g→Rows R' sz cs' (xs.set i y) (f1++g++f2):=by
 intro xs
 induction xs with
 | nil=>intro cs fp i _ h;simp at h
 | cons x xs ih =>
  rintro cs fp i ⟨g1,g2,rfl,h1,h2⟩ hi hl
  cases i with
  | zero =>
   refine ⟨[],g1,g2,by simp,by simpa using h1,?_⟩
   intro R' y g cs' hc hR hy
   refine ⟨g,g2,by simp,by simpa using hy,?_⟩
   have hxs:Rows R' sz (cs.drop sz) xs g2:=Rows.mono' (fun vs x f hf hr=>hR vs x f (fun b hb=>by simp [hf b hb]) hr) h2
   -- rows read alike
   have hrd:∀ k,k<xs.length→((cs'.drop sz).drop (k*sz)).take sz=((cs.drop sz).drop (k*sz)).take sz:=by
    intro k hk
    have:=hc (k+1) (by simp;omega) (by omega)
    simp only [List.drop_drop]
    rw [show sz+k*sz=(k+1)*sz by rw [Nat.add_mul];omega]
    exact this
   clear h1 h2 hR hy hc hl hi ih
   revert hxs hrd
   generalize cs.drop sz=ds;generalize cs'.drop sz=ds'
   intro hxs hrd
   induction xs generalizing ds ds' g2 with
   | nil=>exact hxs
   | cons z zs ihz =>
    obtain ⟨k1,k2,rfl,e1,e2⟩:=hxs
    refine ⟨k1,k2,rfl,?_,ihz k2 (ds.drop sz) (ds'.drop sz) e2 ?_⟩
    ·have:=hrd 0 (by simp);simp at this;rw [this];exact e1
    ·intro k hk
     have:=hrd (k+1) (by simp;omega)
     simp only [List.drop_drop]
     rw [show sz+k*sz=(k+1)*sz by rw [Nat.add_mul];omega]
     exact this
  | succ i =>
   obtain ⟨f1,f',f2,rfl,hr,hu⟩:=ih (cs.drop sz) g2 i h2 (by simpa using hi) (by simp [Nat.add_mul] at hl ⊢;omega)
   refine ⟨g1++f1,f',f2,by simp,?_,?_⟩
   ·simp only [List.drop_drop] at hr
    rw [show sz+i*sz=(i+1)*sz by rw [Nat.add_mul];omega] at hr
    simpa using hr
   ·intro R' y g cs' hc hR hy
    refine ⟨g1,f1++g++f2,by simp,?_,?_⟩
    ·have:=hc 0 (by simp) (by omega);simp at this;rw [this]
     exact hR _ _ _ (fun b hb=>by simp [hb]) h1
    ·refine hu R' y g (cs'.drop sz) ?_ (fun vs x f hf hr=>hR vs x f (fun b hb=>by have:=hf b hb;simp at this ⊢;rcases this with h | h <;> simp [h]) hr) ?_
     ·intro k hk hne
      have:=hc (k+1) (by simp;omega) (by omega)
      simp only [List.drop_drop]
      rw [show sz+k*sz=(k+1)*sz by rw [Nat.add_mul];omega]
      exact this
     ·simp only [List.drop_drop]
      rw [show sz+i*sz=(i+1)*sz by rw [Nat.add_mul];omega]
      exact hy
end Go.Rf
namespace Go.Rf
theorem Rows.pre {S:Stab}{H:Heap}{e:Ty}{cs:List Value}:∀ {xs:List e.D}{fp:List Nat},
  Rows (Rep S H e) e.size cs xs fp→xs.length*e.size≤cs.length:=by
 intro xs
 induction xs generalizing cs with
 | nil=>intro fp _;simp
 | cons x xs ih =>
  rintro fp ⟨f1,f2,rfl,h1,h2⟩
  have h:=h1.length
  have:=ih h2
  simp only [List.length_take,List.length_drop,List.length_cons,Nat.add_mul] at *
  omega
theorem Rep.get {S:Stab}{H:Heap}:∀ (p:Path){τ:Ty}{vs:List Value}{x:τ.D}{fp:List Nat} (l:Option (Nat×Nat)),
  Rep S H τ vs x fp→Valid p τ x→∀ {σ:Ty}{y:σ.D},getP p τ x=some ⟨σ,y⟩ →
  ∃ vs' l' f1 f' f2,fp=f1++f'++f2∧At H p τ vs l vs' l'∧Rep S H σ vs' y f':=by
 intro p
 induction p with
 | nil =>
  intro τ vs x fp l h _ σ y hg
  simp only [getP,sI,Sigma.mk.injEq] at hg
  obtain ⟨rfl,hg⟩:=hg;cases hg
  exact ⟨vs,l,[],fp,[],by simp,⟨rfl,rfl⟩,h⟩
 | cons s p ih =>
  intro τ vs x fp l h hv σ y hg
  cases s with
  | L =>
   cases τ <;> simp only [getP,reduceCtorEq] at hg
   rename_i a b
   obtain ⟨v1,v2,f1,f2,rfl,rfl,h1,h2⟩:=h
   obtain ⟨vs',l',g1,g',g2,rfl,hat,hr⟩:=ih l h1 hv hg
   refine ⟨vs',l',g1,g',g2++f2,by simp,?_,hr⟩
   simp only [At]
   rw [← h1.length,List.take_left];exact hat
  | R =>
   cases τ <;> simp only [getP,reduceCtorEq] at hg
   rename_i a b
   obtain ⟨v1,v2,f1,f2,rfl,rfl,h1,h2⟩:=h
   obtain ⟨vs',l',g1,g',g2,rfl,hat,hr⟩:=ih (l.map fun q=>(q.1,q.2+a.size)) h2 hv hg
   refine ⟨vs',l',f1++g1,g',g2,by simp,?_,hr⟩
   simp only [At]
   rw [show List.drop a.size (v1++v2)=v2 by rw [← h1.length,List.drop_left]];exact hat
  | ix i =>
   cases τ with
   | sl o e =>
    cases o with
    | keep=>simp [getP] at hg
    | lend=>simp [getP] at hg
    | own =>
     simp only [getP] at hg
     obtain ⟨hi,hv⟩:=hv
     obtain ⟨a,len,cap,rfl,hl,hc,hh⟩:=h
     rcases hh with ⟨h0,_⟩ | ⟨b,off,c,el,fr,f2,rfl,hb,hsz,hr,h⟩
     ·omega
     ·rcases h with ⟨h,_⟩ | ⟨_,hso,rfl⟩
      ·simp at h
      have hle:List.length x*e.size≤(c.toList.drop off).length:=hr.pre
      obtain ⟨g1,g',g2,rfl,hri,_⟩:=Rows.focus e.dflt x _ _ i hr hi hle
      obtain ⟨vs',l',k1,k',k2,rfl,hat,hr'⟩:=ih (some (b,off+i*e.size)) hri hv hg
      refine ⟨vs',l',b::(g1++k1),k',k2++g2,by simp,?_,hr'⟩
      simp only [At]
      refine ⟨b,off,len,cap,c,el,fr,rfl,hb,?_⟩
      rw [List.drop_drop] at hat;exact hat
   | _=>simp [getP] at hg
theorem At.det {H:Heap}:∀ (p:Path){τ:Ty}{vs:List Value}{l:Option (Nat×Nat)}{v1 v2:List Value}{l1 l2:Option (Nat×Nat)},
  At H p τ vs l v1 l1→At H p τ vs l v2 l2→v1=v2∧l1=l2:=by
 intro p
 induction p with
 | nil=>rintro τ vs l v1 v2 l1 l2 ⟨rfl,rfl⟩ ⟨rfl,rfl⟩;exact ⟨rfl,rfl⟩
 | cons s p ih =>
  intro τ vs l v1 v2 l1 l2 h1 h2
  cases s with
  | L=>cases τ <;> simp only [At] at h1 h2;exact ih h1 h2
  | R=>cases τ <;> simp only [At] at h1 h2;exact ih h1 h2
  | ix i =>
   cases τ with
   | sl o e =>
    cases o with
    | keep=>simp [At] at h1
    | lend=>simp [At] at h1
    | own =>
     obtain ⟨b,off,len,cap,c,el,fr,rfl,hb,h1⟩:=h1
     obtain ⟨b',off',len',cap',c',el',fr',e1,hb',h2⟩:=h2
     simp only [List.cons.injEq,Value.slice.injEq,sI,Addr.mk.injEq,and_true] at e1
     obtain ⟨⟨rfl,rfl⟩,rfl,rfl⟩:=e1
     rw [hb] at hb';simp only [sI,Obj.cells.injEq] at hb'
     obtain ⟨rfl,rfl,rfl⟩:=hb'
     exact ih h1 h2
   | _=>simp [At] at h1
end Go.Rf
namespace Go.Rf
theorem put_append_left {α:Type}{v1 v2 ws:List α}{k:Nat} (h:k+ws.length≤v1.length):lput (v1++v2) k ws=lput v1 k ws++v2:=by
 simp only [lput]
 rw [List.take_append_of_le_length (by omega),List.drop_append_of_le_length (by omega)]
 simp
theorem put_append_right {α:Type}{v1 v2 ws:List α}{k:Nat}:lput (v1++v2) (v1.length+k) ws=v1++lput v2 k ws:=by
 simp only [lput]
 rw [List.take_length_add_append,Nat.add_assoc,List.drop_length_add_append]
 simp
theorem put_all {α:Type}{vs ws:List α} (h:ws.length=vs.length):lput vs 0 ws=ws:=by
 simp [lput,h]
theorem put_self {α:Type}{l ws:List α}{k:Nat} (h:(l.drop k).take ws.length=ws):lput l k ws=l:=by
 have h1:l.take k++l.drop k=l:=List.take_append_drop k l
 have h2:(l.drop k).take ws.length++(l.drop k).drop ws.length=l.drop k:=List.take_append_drop _ _
 rw [h,List.drop_drop] at h2
 simp only [lput,List.append_assoc]
 rw [h2,h1]
def SetAt (S:Stab) (H:Heap) (p:Path) (τ:Ty) (vs:List Value) (x:τ.D) (l:Option (Nat×Nat)) (σ:Ty) (l':Option (Nat×Nat)) (f1 f2:List Nat):Prop :=
 (hasIx p=false∧∃ δ,(∀ b off,l=some (b,off)→l'=some (b,off+δ))∧δ+σ.size≤vs.length ∧
  ∀ (S':Stab) (H':Heap) (ρ:Ty) (z:ρ.D) (ws:List Value) (g:List Nat) (τn:Ty) (xn:τn.D),σ.size=ρ.size→setP p τ x ρ z=some ⟨τn,xn⟩→(∀ m b,S m b→S' m b) →
   (∀ m b,S m b→H' b=H b)→(∀ b∈f1++f2,H' b=H b)→Rep S' H' ρ ws z g→Rep S' H' τn (lput vs δ ws) xn (f1++g++f2)) ∨
 (hasIx p=true∧∃ b' off' c el fr,l'=some (b',off')∧b'∈f1∧H b'=some (.cells c el fr)∧Soft fr c.size∧off'+σ.size≤c.size ∧
  ∀ (S':Stab) (H':Heap) (ρ:Ty) (z:ρ.D) (ws:List Value) (g:List Nat) (τn:Ty) (xn:τn.D),σ.size=ρ.size→setP p τ x ρ z=some ⟨τn,xn⟩→(∀ m b,S m b→S' m b) →
   (∀ m b,S m b→H' b=H b)→(∀ b∈f1++f2,b≠b'→H' b=H b)→H' b'=some (.cells (lput c.toList off' ws).toArray el fr) →
   Rep S' H' ρ ws z g→Rep S' H' τn vs xn (f1++g++f2))
theorem row_other {c ws:List Value}{off sz i k δ:Nat} (hδ:δ+ws.length≤sz) (hne:k≠i) (hl:off+i*sz+δ+ws.length≤c.length) :
  (((lput c (off+i*sz+δ) ws).drop off).drop (k*sz)).take sz=((c.drop off).drop (k*sz)).take sz:=by
 simp only [List.drop_drop]
 rcases Nat.lt_or_ge k i with h | h
 ·have h1:(k+1)*sz≤i*sz:=Nat.mul_le_mul_right _ h
  rw [Nat.add_mul] at h1
  rw [put_drop (by omega) (by omega),put_take' (by omega) (by simp;omega)]
 ·have h1:(i+1)*sz≤k*sz:=Nat.mul_le_mul_right _ (by omega)
  rw [Nat.add_mul] at h1
  rw [put_drop' (by omega) (by omega)]
theorem row_self {c ws:List Value}{off sz i δ:Nat} (hδ:δ+ws.length≤sz) (hl:off+i*sz+sz≤c.length) :
  (((lput c (off+i*sz+δ) ws).drop off).drop (i*sz)).take sz=lput (((c.drop off).drop (i*sz)).take sz) δ ws:=by
 simp only [List.drop_drop]
 rw [put_drop (by omega) (by omega),put_take (by omega) (by simp;omega)]
 congr 1;omega
theorem Rep.set {S:Stab}{H:Heap}:∀ (p:Path){τ:Ty}{vs:List Value}{x:τ.D}{fp:List Nat} (l:Option (Nat×Nat)),
  Rep S H τ vs x fp→Valid p τ x→fp.Nodup→∀ {σ:Ty}{y:σ.D},getP p τ x=some ⟨σ,y⟩ →
  ∃ vs' l' f1 f' f2,fp=f1++f'++f2∧At H p τ vs l vs' l'∧Rep S H σ vs' y f'∧SetAt S H p τ vs x l σ l' f1 f2:=by
 intro p
 induction p with
 | nil =>
  intro τ vs x fp l h _ _ σ y hg
  simp only [getP,sI,Sigma.mk.injEq] at hg
  obtain ⟨rfl,hg⟩:=hg;cases hg
  refine ⟨vs,l,[],fp,[],by simp,⟨rfl,rfl⟩,h,.inl ⟨rfl,0,fun b off e=>by simpa using e,by have:=h.length;omega,?_⟩⟩
  intro S' H' ρ z ws g τn xn hsz hs hSS hS hf hr
  simp only [setP] at hs
  rw [if_pos hsz] at hs
  simp only [sI,Sigma.mk.injEq] at hs
  obtain ⟨rfl,hs⟩:=hs;cases hs
  rw [put_all (by rw [hr.length,h.length,hsz])]
  simpa using hr
 | cons s p ih =>
  intro τ vs x fp l h hv hnd σ y hg
  cases s with
  | L =>
   cases τ <;> simp only [getP,reduceCtorEq] at hg
   rename_i a b
   obtain ⟨v1,v2,f1,f2,rfl,rfl,h1,h2⟩:=h
   obtain ⟨vs',l',g1,g',g2,rfl,hat,hr,hset⟩:=ih l h1 hv (List.nodup_append.1 hnd).1 hg
   refine ⟨vs',l',g1,g',g2++f2,by simp,?_,hr,?_⟩
   ·simp only [At];rw [← h1.length,List.take_left];exact hat
   ·rcases hset with ⟨hx,δ,hl,hd,hset⟩ | ⟨hx,b',off',c,el,fr,rfl,hb1,hb2,hso,hof,hset⟩
    ·refine .inl ⟨hx,δ,hl,by simp;omega,?_⟩
     intro S' H' ρ z ws g τn xn hsz hs hSS hS hf hrr
     simp only [setP] at hs
     split at hs
     ·rename_i a' z' hs'
      simp only [sI,Sigma.mk.injEq] at hs
      obtain ⟨rfl,hs⟩:=hs;cases hs
      refine ⟨lput v1 δ ws,v2,g1++g++g2,f2,?_,by simp,?_,?_⟩
      ·exact put_append_left (by rw [hrr.length];omega)
      ·exact hset S' H' ρ z ws g a' z' hsz hs' hSS hS (fun b hb=>hf b (by simp at hb ⊢;rcases hb with h | h <;> simp [h])) hrr
      ·exact (Rep.heap hS (fun b hb=>hf b (by simp [hb])) h2).stab hSS
     ·cases hs
    ·refine .inr ⟨hx,b',off',c,el,fr,rfl,hb1,hb2,hso,hof,?_⟩
     intro S' H' ρ z ws g τn xn hsz hs hSS hS hf hbb hrr
     simp only [setP] at hs
     split at hs
     ·rename_i a' z' hs'
      simp only [sI,Sigma.mk.injEq] at hs
      obtain ⟨rfl,hs⟩:=hs;cases hs
      refine ⟨v1,v2,g1++g++g2,f2,rfl,by simp,?_,?_⟩
      ·exact hset S' H' ρ z ws g a' z' hsz hs' hSS hS (fun b hb=>hf b (by simp at hb ⊢;rcases hb with h | h <;> simp [h])) hbb hrr
      ·refine (Rep.heap hS (fun b hb=>hf b (by simp [hb]) ?_) h2).stab hSS
       rintro rfl
       exact (List.nodup_append.1 hnd).2.2 b (by simp [hb1]) b hb rfl
     ·cases hs
  | R =>
   cases τ <;> simp only [getP,reduceCtorEq] at hg
   rename_i a b
   obtain ⟨v1,v2,f1,f2,rfl,rfl,h1,h2⟩:=h
   obtain ⟨vs',l',g1,g',g2,rfl,hat,hr,hset⟩:=ih (l.map fun q=>(q.1,q.2+a.size)) h2 hv (List.nodup_append.1 hnd).2.1 hg
   refine ⟨vs',l',f1++g1,g',g2,by simp,?_,hr,?_⟩
   ·simp only [At];rw [show List.drop a.size (v1++v2)=v2 by rw [← h1.length,List.drop_left]];exact hat
   ·rcases hset with ⟨hx,δ,hl,hd,hset⟩ | ⟨hx,b',off',c,el,fr,rfl,hb1,hb2,hso,hof,hset⟩
    ·refine .inl ⟨hx,a.size+δ,fun b off e=>?_,by simp [h1.length];omega,?_⟩
     ·rw [hl b (off+a.size) (by simp [e])];simp;omega
     intro S' H' ρ z ws g τn xn hsz hs hSS hS hf hrr
     simp only [setP] at hs
     split at hs
     ·rename_i a' z' hs'
      simp only [sI,Sigma.mk.injEq] at hs
      obtain ⟨rfl,hs⟩:=hs;cases hs
      refine ⟨v1,lput v2 δ ws,f1,g1++g++g2,?_,by simp,?_,?_⟩
      ·rw [← h1.length];exact put_append_right
      ·exact (Rep.heap hS (fun b hb=>hf b (by simp [hb])) h1).stab hSS
      ·exact hset S' H' ρ z ws g a' z' hsz hs' hSS hS (fun b hb=>hf b (by simp at hb ⊢;rcases hb with h | h <;> simp [h])) hrr
     ·cases hs
    ·refine .inr ⟨hx,b',off',c,el,fr,rfl,by simp [hb1],hb2,hso,hof,?_⟩
     intro S' H' ρ z ws g τn xn hsz hs hSS hS hf hbb hrr
     simp only [setP] at hs
     split at hs
     ·rename_i a' z' hs'
      simp only [sI,Sigma.mk.injEq] at hs
      obtain ⟨rfl,hs⟩:=hs;cases hs
      refine ⟨v1,v2,f1,g1++g++g2,rfl,by simp,?_,?_⟩
      ·refine (Rep.heap hS (fun b hb=>hf b (by simp [hb]) ?_) h1).stab hSS
       rintro rfl
       exact (List.nodup_append.1 hnd).2.2 b hb b (by simp [hb1]) rfl
      ·exact hset S' H' ρ z ws g a' z' hsz hs' hSS hS (fun b hb=>hf b (by simp at hb ⊢;rcases hb with h | h <;> simp [h])) hbb hrr
     ·cases hs
  | ix i =>
   cases τ with
   | sl o e =>
    cases o with
    | keep=>simp [getP] at hg
    | lend=>simp [getP] at hg
    | own =>
     simp only [getP] at hg
     obtain ⟨hi,hv⟩:=hv
     obtain ⟨a,len,cap,rfl,hl,hc,hh⟩:=h
     rcases hh with ⟨h0,_⟩ | ⟨b,off,c,el,fr,f2,rfl,hb,hsz,hr,h⟩
     ·omega
     ·rcases h with ⟨h,_⟩ | ⟨_,hso,rfl⟩
      ·simp at h
      have hle:List.length x*e.size≤(c.toList.drop off).length:=hr.pre
      obtain ⟨g1,g',g2,rfl,hri,hup⟩:=Rows.focus e.dflt x _ _ i hr hi hle
      have hnd':=(List.nodup_cons.1 hnd)
      obtain ⟨vs',l',k1,k',k2,rfl,hat,hr',hset⟩:=ih (some (b,off+i*e.size)) hri hv
       (by have:=hnd'.2;rw [List.append_assoc] at this;exact ((List.nodup_append.1 ((List.nodup_append.1 this).2.1)).1)) hg
      have hrow:i*e.size+e.size≤List.length x*e.size:=by
       have:=Nat.mul_le_mul_right e.size (Nat.succ_le_of_lt hi);rw [Nat.succ_mul] at this;exact this
      have hcl:off+i*e.size+e.size≤c.toList.length:=by
       have:=Nat.mul_le_mul_right e.size hc;rw [hl] at this;simp;omega
      refine ⟨vs',l',b::(g1++k1),k',k2++g2,by simp,?_,hr',?_⟩
      ·simp only [At]
       refine ⟨b,off,len,cap,c,el,fr,rfl,hb,?_⟩
       rw [List.drop_drop] at hat;exact hat
      ·rcases hset with ⟨hx,δ,hl',hd,hset⟩ | ⟨hx,b',off',c',el',fr',rfl,hb1,hb2,hso',hof,hset⟩
       ·refine .inr ⟨rfl,b,off+i*e.size+δ,c,el,fr,hl' b (off+i*e.size) rfl,by simp,hb,hso,?_,?_⟩
        ·have h5:=hri.length
         rw [h5] at hd
         have:=Array.length_toList (xs:=c)
         omega
        intro S' H' ρ z ws g τn xn hszz hs hSS hS hf hbb hrr
        simp only [setP] at hs
        split at hs
        ·rename_i e' z' hs'
         split at hs
         ·rename_i he;subst he
          simp only [sI,Sigma.mk.injEq] at hs
          obtain ⟨rfl,hs⟩:=hs;cases hs
          have hdl:δ+ws.length≤e'.size:=by rw [hri.length] at hd;rw [hrr.length];omega
          refine ⟨_,len,cap,rfl,by simp;exact hl,hc,.inr ⟨b,off,_,el,fr,g1++(k1++g++k2)++g2,rfl,hbb,?_,?_,.inr ⟨rfl,?_,by simp⟩⟩⟩
          ·simp only [List.size_toArray]
           rw [put_length (by omega)];simpa using hsz
          ·refine hup (Rep S' H' e') z' _ _ ?_ ?_ ?_
           ·intro k hk hne
            exact row_other hdl hne (by omega)
           ·intro vs x f hff hrr'
            refine (Rep.heap hS (fun b'' hb''=>hf b'' (by have:=hff b'' hb'';simp at this ⊢;rcases this with h | h <;> simp [h]) ?_) hrr').stab hSS
            rintro rfl
            exact hnd'.1 (by have:=hff b'' hb'';simp at this ⊢;rcases this with h | h <;> simp [h])
           ·rw [row_self hdl (by omega)]
            refine hset S' H' ρ z ws g _ z' hszz hs' hSS hS (fun b'' hb''=>hf b'' (by simp at hb'' ⊢;rcases hb'' with h | h <;> simp [h]) ?_) hrr
            rintro rfl
            exact hnd'.1 (by simp at hb'' ⊢;rcases hb'' with h | h <;> simp [h])
          ·simp only [List.size_toArray]
           rw [put_length (by omega)];simpa using hso
         ·cases hs
        ·cases hs
       ·refine .inr ⟨rfl,b',off',c',el',fr',rfl,by simp [hb1],hb2,hso',hof,?_⟩
        intro S' H' ρ z ws g τn xn hszz hs hSS hS hf hbb hrr
        simp only [setP] at hs
        have hbne:b≠b':=by
         rintro rfl;exact hnd'.1 (by simp [hb1])
        split at hs
        ·rename_i e' z' hs'
         split at hs
         ·rename_i he;subst he
          simp only [sI,Sigma.mk.injEq] at hs
          obtain ⟨rfl,hs⟩:=hs;cases hs
          refine ⟨_,len,cap,rfl,by simp;exact hl,hc,.inr ⟨b,off,c,el,fr,g1++(k1++g++k2)++g2,rfl,?_,hsz,?_,.inr ⟨rfl,hso,by simp⟩⟩⟩
          ·rw [hf b (by simp) hbne];exact hb
          ·refine hup (Rep S' H' e') z' _ _ (fun _ _ _=>rfl) ?_ ?_
           ·intro vs x f hff hrr'
            refine (Rep.heap hS (fun b'' hb''=>hf b'' (by have:=hff b'' hb'';simp at this ⊢;rcases this with h | h <;> simp [h]) ?_) hrr').stab hSS
            rintro rfl
            have h6:=hff b'' hb''
            have h7:=hnd'.2
            rw [List.append_assoc] at h7
            have h8:=List.nodup_append.1 h7
            have h9:=List.nodup_append.1 h8.2.1
            simp only [List.mem_append] at h6
            rcases h6 with h | h
            ·exact h8.2.2 b'' h b'' (by simp [hb1]) rfl
            ·exact h9.2.2 b'' (by simp [hb1]) b'' h rfl
           ·exact hset S' H' ρ z ws g _ z' hszz hs' hSS hS (fun b'' hb''=>hf b'' (by simp at hb'' ⊢;rcases hb'' with h | h <;> simp [h])) hbb hrr
         ·cases hs
        ·cases hs
   | _=>simp [getP] at hg
end Go.Rf
namespace Go.Rf
section
variable {P:Program}{w:World}
theorem cell_hp {b off:Nat}{c:Array Value}{el:TypeId}{fr:Nat×Nat} (h:hp w b=some (.cells c el fr)):w.cell? ⟨b,off,none⟩=c[off]?:=by
 simp only [hp] at h
 simp [World.cell?,h]
theorem frozen_hp {b off:Nat}{c:Array Value}{el:TypeId}{fr:Nat×Nat} (h:hp w b=some (.cells c el fr)) (hs:Soft fr c.size) (ho:off<c.size):w.frozen? ⟨b,off,none⟩=false:=by
 simp only [hp] at h
 simp only [World.frozen?,h]
 exact hs off (Nat.le_of_lt ho)
theorem run_loadCells_at {b off n:Nat}{c:Array Value}{el:TypeId}{fr:Nat×Nat} (h:hp w b=some (.cells c el fr)) (hn:off+n≤c.size) :
  (loadCells ⟨b,off,none⟩ n).run P w=.ok ((c.toList.drop off).take n).toArray w:=by
 have hl:((c.toList.drop off).take n).length=n:=by simp;omega
 have:=run_loadCells_list (P:=P) w ⟨b,off,none⟩ ((c.toList.drop off).take n) (by
  intro j v hj
  have hadd:(⟨b,off,none⟩:Addr).add j=⟨b,off+j,none⟩:=by unfold Addr.add;split <;> simp_all
  rw [hadd,cell_hp h]
  rw [List.getElem?_take] at hj
  split at hj
  ·rw [List.getElem?_drop] at hj;simpa using hj
  ·cases hj)
 rwa [hl] at this
theorem hp_setRow_same {b:Nat}{c c':Array Value}{el:TypeId}{fr:Nat×Nat} (h:hp w b=some (.cells c el fr)):hp (w.setRow b c') b=some (.cells c' el fr):=setRow_heap w b c c' el fr h
theorem hp_setRow_other {b b':Nat}{c':Array Value} (hne:b'≠b):hp (w.setRow b c') b'=hp w b':=by
 simp only [hp,World.setRow,Array.getElem?_modify]
 rw [if_neg (by omega)]
theorem run_storeCells_soft (b o:Nat) (el:TypeId) (fr:Nat×Nat):∀ (vs:List Value) (i:Nat) (cur:Array Value) (w:World),hp w b=some (.cells cur el fr)→Soft fr cur.size →
  o+i+vs.length≤cur.size→(∀ v∈vs,v.oneCell'=true) →
  (storeCells ⟨b,o,none⟩ vs i).run P w=.ok () (w.setRow b (lput cur.toList (o+i) vs).toArray)
 | [],i,cur,w,hg,_,_,_=>by
  simp only [storeCells,lput,List.append_nil,List.length_nil,Nat.add_zero,List.take_append_drop,Array.toArray_toList]
  rw [setRow_self w b cur el fr hg]
  rfl
 | v::rest,i,cur,w,hg,hfz,hl,h1=>by
  have hi:o+i<cur.size:=by simp at hl;omega
  have hadd:(⟨b,o,none⟩:Addr).add i=⟨b,o+i,none⟩:=by unfold Addr.add;split <;> simp_all
  have hcell:w.cell? ⟨b,o+i,none⟩=some cur[o+i]:=by rw [cell_hp hg];simp [hi]
  have hfro:w.frozen? ⟨b,o+i,none⟩=false:=frozen_hp hg hfz hi
  have hst:(store ((⟨b,o,none⟩:Addr).add i) v).run P w=.ok () (w.setRow b (cur.setIfInBounds (o+i) v)):=by
   rw [hadd,run_store P w _ v _ (h1 v (by simp)),hcell]
   simp [hfro,setCell_eq_setRow w b (o+i) cur el fr v hg]
  have ih:=run_storeCells_soft b o el fr rest (i+1) (cur.setIfInBounds (o+i) v) (w.setRow b (cur.setIfInBounds (o+i) v)) (setRow_heap w b cur _ el _ hg) (by simpa using hfz) (by simp at hl ⊢;omega) (fun x hx=>h1 x (by simp [hx]))
  simp only [storeCells,Sem.run_bind,hst,Result.andThen_ok,ih,setRow_setRow]
  congr 3
  have e:=list_seg_step cur.toList (o+i) v rest (by simp at hl ⊢;omega)
  simpa [lput,Array.toList_setIfInBounds,Nat.add_assoc] using e
end
end Go.Rf
namespace Go.Rf
inductive AV where
 | v (τ:Ty) (x:τ.D)
 | ref (id:Nat) (p:Path)
 | ptr (id:Nat) (p:Path)
 | sptr (τ:Ty) (x:τ.D)
 | junk
inductive TV where
 | a (v:AV)
 | tup (l:List AV)
inductive RK where
 | box (io:Bool) | val (io:Bool)
def RK.io:RK→Bool
 | .box b=>b
 | .val b=>b
structure Root where
 k:RK
 τ:Ty
 x:τ.D
structure St where
 tmps:Nat→TV
 roots:Nat→Option Root
structure Cx where
 tab:Nat→Option Ty
 n:Nat
 V:Glb
def valOf (τ:Ty) (vs:List Value):Value:=if τ.isAgg then .agg vs.toArray else vs.headD undef
def constAV:Value→AV
 | .int k n=>.v (.int k) n
 | .bool b=>.v .bool b
 | .string s=>.v .str s
 | .slice none 0 0=>.v .nil ()
 | _=>.junk
def opnd (st:St):Operand→TV
 | .tmp t=>st.tmps t
 | .const v=>.a (constAV v)
 | .func g=>.a (.v (.clo g .unit) ())
 | _=>.a .junk
def St.put (st:St) (dst:Option Nat) (tv:TV):St :=
 match dst with
 | none=>st
 | some d=>{ st with tmps:=fun t=>if t=d then tv else st.tmps t }
def fieldPath:Nat→Path
 | 0=>[.L]
 | k+1=>.R::fieldPath k
def Ty.offs:Ty→Nat→Nat
 | .pair _ _,0=>0
 | .pair a b,k+1=>a.size+b.offs k
 | _,_=>0
def Ty.fld:Ty→Nat→Option Ty
 | .pair a _,0=>some a
 | .pair _ b,k+1=>b.fld k
 | _,_=>none
def fldV:(τ:Ty)→τ.D→Nat→Option (Σ σ:Ty,σ.D)
 | .pair a _,x,0=>some ⟨a,x.1⟩
 | .pair _ b,x,k+1=>fldV b x.2 k
 | _,_,_=>none
def likeTy (t:Option Ty) (τ:Ty):Bool :=
 match t with
 | some s=>s.size == τ.size && s.isAgg == τ.isAgg
 | none=>false
abbrev inB (i:Int) (n:Nat):Prop:=0≤i∧i<(n:Int)
abbrev cutB (l h:Int) (n:Nat):Prop:=0≤l∧l≤h∧h≤(n:Int)
def bt (s:ByteArray) (i:Int):Int:=((s[i.toNat]?.getD 0).toNat:Int)
def ofBytes (l:List Int):ByteArray:=⟨(l.map fun i=>UInt8.ofNat i.toNat).toArray⟩
def minI (a b:Int):Int:=if b<a then b else a
def maxI (a b:Int):Int:=if b>a then b else a
def Ty.leaf:Ty→Bool
 | .int _=>true
 | .bool=>true
 | .str=>true
 | _=>false
def Ty.flat:Ty→Bool
 | .unit=>true
 | .pair a b=>a.leaf && b.flat
 | _=>false
def eqL:(τ:Ty)→τ.D→τ.D→Bool
 | .int _,x,y=>decide ((x:Int)=y)
 | .bool,x,y=>(x:Bool) == y
 | .str,x,y=>decide ((x:ByteArray)=y)
 | _,_,_=>true
def eqD:(τ:Ty)→τ.D→τ.D→Bool
 | .pair a b,x,y=>eqL a x.1 y.1 && eqD b x.2 y.2
 | _,_,_=>true
section
variable {R:Type}
def aggK (C:Cx) (op:BinOp) (t:Nat) (x y:AV) (K:TV→Option R):Option R :=
 match x,y with
 | .v (.pair a b) u,.v (.pair a' b') v=>if h:Ty.pair a' b'=.pair a b then
   (if (Ty.pair a b).flat=true∧C.tab t=some (.pair a b) then
    (match op with
     | .eql=>K (.a (.v .bool (eqD (.pair a b) u (h▸v))))
     | .neq=>K (.a (.v .bool (!eqD (.pair a b) u (h▸v))))
     | _=>none) else none) else none
 | .v .bool u,.v .bool v=>if C.tab t=some .bool then (match op with
   | .eql=>K (.a (.v .bool (decide (u=v))))
   | .neq=>K (.a (.v .bool (!decide (u=v))))
   | _=>none) else none
 | _,_=>none
def binK (op:BinOp) (x y:AV) (K:TV→Option R):Option R :=
 match op,x,y with
 | .add,.v (.int k) a,.v (.int k') b=>if k=k' then K (.a (.v (.int k) (k.wrap (a+b)))) else none
 | .sub,.v (.int k) a,.v (.int k') b=>if k=k' then K (.a (.v (.int k) (k.wrap (a-b)))) else none
 | .mul,.v (.int k) a,.v (.int k') b=>if k=k' then K (.a (.v (.int k) (k.wrap (a*b)))) else none
 | .quo,.v (.int k) a,.v (.int k') b=>if k=k' then (if b=0 then none else K (.a (.v (.int k) (k.wrap (Int.tdiv a b))))) else none
 | .rem,.v (.int k) a,.v (.int k') b=>if k=k' then (if b=0 then none else K (.a (.v (.int k) (Int.tmod a b)))) else none
 | .and,.v (.int k) a,.v (.int k') b=>if k=k' then K (.a (.v (.int k) (k.wrap (BitVec.ofInt k.bits a &&& BitVec.ofInt k.bits b).toNat))) else none
 | .or,.v (.int k) a,.v (.int k') b=>if k=k' then K (.a (.v (.int k) (k.wrap (BitVec.ofInt k.bits a ||| BitVec.ofInt k.bits b).toNat))) else none
 | .xor,.v (.int k) a,.v (.int k') b=>if k=k' then K (.a (.v (.int k) (k.wrap (BitVec.ofInt k.bits a ^^^ BitVec.ofInt k.bits b).toNat))) else none
 | .shl,.v (.int k) a,.v (.int _) b=>if b<0 then none else K (.a (.v (.int k) (k.wrap (a*2 ^ (min (Int.toNat b) k.bits)))))
 | .shr,.v (.int k) a,.v (.int _) b=>if b<0 then none else K (.a (.v (.int k) (Int.fdiv a (2 ^ (min (Int.toNat b) k.bits)))))
 | .eql,.v (.int k) a,.v (.int k') b=>if k=k' then K (.a (.v .bool (decide (a=b)))) else none
 | .neq,.v (.int k) a,.v (.int k') b=>if k=k' then K (.a (.v .bool (!decide (a=b)))) else none
 | .lss,.v (.int k) a,.v (.int k') b=>if k=k' then K (.a (.v .bool (decide (a<b)))) else none
 | .leq,.v (.int k) a,.v (.int k') b=>if k=k' then K (.a (.v .bool (decide (a≤b)))) else none
 | .gtr,.v (.int k) a,.v (.int k') b=>if k=k' then K (.a (.v .bool (decide (a>b)))) else none
 | .geq,.v (.int k) a,.v (.int k') b=>if k=k' then K (.a (.v .bool (decide (a≥b)))) else none
 | .add,.v .str a,.v .str b=>if a.size+b.size<4611686018427387904 then K (.a (.v .str (a++b))) else none
 | .eql,.v .str a,.v .str b=>K (.a (.v .bool (decide (a=b))))
 | .neq,.v .str a,.v .str b=>K (.a (.v .bool (!decide (a=b))))
 | .lss,.v .str a,.v .str b=>K (.a (.v .bool (Op.bytesLess a.toList b.toList)))
 | .leq,.v .str a,.v .str b=>K (.a (.v .bool (Op.bytesLess a.toList b.toList || decide (a=b))))
 | .gtr,.v .str a,.v .str b=>K (.a (.v .bool (!(Op.bytesLess a.toList b.toList || decide (a=b)))))
 | .geq,.v .str a,.v .str b=>K (.a (.v .bool (!Op.bytesLess a.toList b.toList)))
 | _,_,_=>none
def unK (op:UnOp) (x:AV) (K:TV→Option R):Option R :=
 match op,x with
 | .not,.v .bool b=>K (.a (.v .bool (!b)))
 | .neg,.v (.int k) n=>K (.a (.v (.int k) (k.wrap (0-n))))
 | _,_=>none
def lenK (C:Cx) (st:St) (t:Nat) (x:AV) (K:TV→Option R):Option R :=
 match C.tab t,x with
 | some .str,.v .str s=>K (.a (.v (.int .i64) (s.size:Int)))
 | some (.sl _ _),.v (.sl _ _) xs=>K (.a (.v (.int .i64) (List.length xs:Int)))
 | some (.sl _ _),.v .nil _=>K (.a (.v (.int .i64) 0))
 | some (.sl _ _),.ref id p=>match st.roots id with
  | some r=>match getP p r.τ r.x with
   | some ⟨.sl .own _,xs⟩=>K (.a (.v (.int .i64) (List.length xs:Int)))
   | _=>none
  | none=>none
 | _,_=>none
def bnd (st:St) (o:Option Operand) (d:Int):Option Int :=
 match o with
 | none=>some d
 | some o=>match opnd st o with
  | .a (.v (.int _) i)=>some i
  | _=>none
def sliceK (C:Cx) (st:St) (t:Nat) (x:Operand) (lo hi:Option Operand) (K:TV→Option R):Option R :=
 match opnd st x,C.tab t with
 | .a (.v .str s),some .str =>
   match bnd st lo 0,bnd st hi (s.size:Int) with
   | some l,some h=>if cutB l h s.size then K (.a (.v .str (s.extract (Int.toNat l) (Int.toNat h)))) else none
   | _,_=>none
 | .a (.v (.sl m e) xs),some (.sl _ s) =>
   match bnd st lo 0,bnd st hi (List.length xs:Int) with
   | some l,some h=>if m≠.own∧s.size=e.size then
     (if cutB l h (List.length xs) then K (.a (.v (.sl m e) ((List.take (Int.toNat h) xs).drop (Int.toNat l)))) else none) else none
   | _,_=>none
 | _,_=>none
def pureK (C:Cx) (st:St) (op:Op) (K:TV→Option R):Option R :=
 match op with
 | .move x=>K (opnd st x)
 | .assign x=>K (opnd st x)
 | .pick c x y=>match opnd st c with
  | .a (.v .bool b)=>if b=true then K (opnd st x) else K (opnd st y)
  | _=>none
 | .nilCheck x=>match opnd st x with
  | .a (.ptr id p)=>K (.a (.ptr id p))
  | .a (.sptr τ x)=>K (.a (.sptr τ x))
  | _=>none
 | .extract x i=>match opnd st x with
  | .tup l=>match l[i]? with
   | some v=>K (.a v)
   | none=>none
  | _=>none
 | .binOp op t x y _=>match opnd st x,opnd st y with
  | .a (.v (.pair a b) u),.a y=>aggK C op t (.v (.pair a b) u) y K
  | .a (.v .bool u),.a y=>aggK C op t (.v .bool u) y K
  | .a x,.a y=>binK op x y K
  | _,_=>none
 | .unOp op _ x=>match opnd st x with
  | .a x=>unK op x K
  | _=>none
 | .load t x=>match opnd st x with
  | .a (.ptr id p)=>match st.roots id with
   | some r=>match getP p r.τ r.x with
    | some ⟨σ,y⟩ =>
     if likeTy (C.tab t) σ then
      if σ.plain then K (.a (.v σ y))
      else K (.a (.ref id p))
     else none
    | none=>none
   | none=>none
  | .a (.sptr σ y)=>if likeTy (C.tab t) σ then K (.a (.v σ y)) else none
  | _=>none
 | .fieldAddr t x k=>match opnd st x with
  | .a (.ptr id p)=>match st.roots id with
   | some r=>match getP p r.τ r.x with
    | some ⟨σ,_⟩=>match C.tab t,σ.fld k with
     | some s,some f=>if s.offs k=σ.offs k∧(s.fld k).map Ty.size=some f.size∧0<f.size then K (.a (.ptr id (p++fieldPath k))) else none
     | _,_=>none
    | none=>none
   | none=>none
  | .a (.sptr σ y)=>match C.tab t,fldV σ y k with
   | some s,some ⟨f,z⟩=>if s.offs k=σ.offs k∧(s.fld k).map Ty.size=some f.size∧0<f.size then K (.a (.sptr f z)) else none
   | _,_=>none
  | _=>none
 | .field t x k=>match opnd st x with
  | .a (.ref id p)=>match st.roots id with
   | some r=>match getP p r.τ r.x with
    | some ⟨σ,y⟩=>match C.tab t,fldV σ y k with
     | some s,some ⟨f,z⟩=>if s.offs k=σ.offs k∧(s.fld k).map Ty.size=some f.size∧(s.fld k).map Ty.isAgg=some f.isAgg∧0<f.size then
       (if f.plain=true then K (.a (.v f z)) else K (.a (.ref id (p++fieldPath k)))) else none
     | _,_=>none
    | none=>none
   | none=>none
  | .a (.v σ y)=>match C.tab t,fldV σ y k with
   | some s,some ⟨f,z⟩=>if s.offs k=σ.offs k∧(s.fld k).map Ty.size=some f.size∧(s.fld k).map Ty.isAgg=some f.isAgg∧0<f.size then K (.a (.v f z)) else none
   | _,_=>none
  | _=>none
 | .indexAddr t x i=>match opnd st x,opnd st i with
  | .a (.v (.sl m e) xs),.a (.v (.int _) i)=>match C.tab t with
   | some (.sl _ s)=>if m≠.own∧s.size=e.size then
     (if inB i (List.length xs) then K (.a (.sptr e (List.getD xs (Int.toNat i) e.dflt))) else none) else none
   | _=>none
  | .a (.ref id p),.a (.v (.int _) i)=>match st.roots id with
   | some r=>match getP p r.τ r.x with
    | some ⟨.sl .own e,xs⟩=>match C.tab t with
     | some (.sl _ s)=>if s.size=e.size then
       (if inB i (List.length xs) then K (.a (.ptr id (p++[.ix (Int.toNat i)]))) else none) else none
     | _=>none
    | _=>none
   | none=>none
  | _,_=>none
 | .index t x i=>match opnd st x,opnd st i with
  | .a (.v .str s),.a (.v (.int _) i)=>match C.tab t with
   | some .str=>if inB i s.size then K (.a (.v (.int .u8) (bt s i))) else none
   | _=>none
  | _,_=>none
 | .slice t x lo hi mx=>match mx with
  | some _=>none
  | none=>sliceK C st t x lo hi K
 | .convert src dst x=>match opnd st x,C.tab src,C.tab dst with
  | .a (.v (.int _) n),some (.int _),some (.int k)=>K (.a (.v (.int k) (k.wrap n)))
  | .a (.v .nil _),some (.sl _ (.int .u8)),some .str=>K (.a (.v .str (ofBytes [])))
  | .a (.v (.sl m (.int .u8)) xs),some (.sl _ (.int .u8)),some .str=>if m=.own then none else K (.a (.v .str (ofBytes xs)))
  | .a (.ref id p),some (.sl _ (.int .u8)),some .str=>match st.roots id with
   | some r=>match getP p r.τ r.x with
    | some ⟨.sl .own (.int .u8),xs⟩=>K (.a (.v .str (ofBytes xs)))
    | _=>none
   | none=>none
  | _,_,_=>none
 | .call c=>match c.callee,c.args.toList,c.argTypes.toList with
  | .builtin .len,[x],[t]=>match opnd st x with
   | .a x=>lenK C st t x K
   | _=>none
  | .builtin .min,[x,y],_=>match opnd st x,opnd st y with
   | .a (.v (.int k) a),.a (.v (.int k') b)=>if k=k' then K (.a (.v (.int k) (minI a b))) else none
   | _,_=>none
  | .builtin .max,[x,y],_=>match opnd st x,opnd st y with
   | .a (.v (.int k) a),.a (.v (.int k') b)=>if k=k' then K (.a (.v (.int k) (maxI a b))) else none
   | _,_=>none
  | _,_,_=>none
 | _=>none
end
end Go.Rf
namespace Go.Rf
inductive DK where
 | int (k:IntKind) | bool | str | sl (e:Nat) | st (fs:List (Nat×Nat)) | mp | other
 deriving DecidableEq
def dk:TypeDesc→DK
 | .int k=>.int k
 | .bool=>.bool
 | .string=>.str
 | .slice e=>.sl e
 | .struct fs=>.st (fs.toList.map fun f=>(f.offset,f.type))
 | .map _ _=>.mp
 | _=>.other
def zeroT:Ty→Ty
 | .sl _ _=>.nil
 | .pair a b=>.pair (zeroT a) (zeroT b)
 | .clo _ _=>.dead
 | t=>t
def zeroV:(τ:Ty)→(zeroT τ).D
 | .int _=>(0:Int)
 | .bool=>false
 | .str=>bE
 | .sl _ _=>()
 | .nil=>()
 | .dead=>()
 | .unit=>()
 | .pair a b=>(zeroV a,zeroV b)
 | .clo _ _=>()
def zeroC:Ty→List Value
 | .int k=>[.int k 0]
 | .bool=>[.bool false]
 | .str=>[.string bE]
 | .sl _ _=>[.slice none 0 0]
 | .nil=>[.slice none 0 0]
 | .dead=>[.map none]
 | .unit=>[]
 | .pair a b=>zeroC a++zeroC b
 | .clo _ _=>[.map none]
def fldsOK (tab:Nat→Option Ty):Nat→Ty→List (Nat×Nat)→Bool
 | o,.pair a b,(off,t)::fs=>off == o && tab t == some a && fldsOK tab (o+a.size) b fs
 | _,.unit,[]=>true
 | _,_,_=>false
def descOK (tab:Nat→Option Ty):Ty→DK→Bool
 | .int k,.int k'=>k == k'
 | .bool,.bool=>true
 | .str,.str=>true
 | .sl _ e,.sl el=>tab el == some e
 | .pair a b,.st fs=>fldsOK tab 0 (.pair a b) fs
 | .unit,.st []=>true
 | .dead,.mp=>true
 | _,_=>false
structure RowOK (P:Program) (tab:Nat→Option Ty) (t:Nat) (s:Ty):Prop where
 info:∃ n,n≤16384∧(P.info? t).map (fun i=>(i.size,i.bytes,i.zero))=some (s.size,n,some (valOf s (zeroC s)))
 desc:∃ d,(P.underlying t).map dk=some d∧descOK tab s d=true
 cmp:s.flat=true→P.stoodInHeld t=false∧P.eqGuardType P.depth t=false∧(P.fieldsOf t).toList.all (fun f=>f.name != "_")=true
def TabOK (P:Program) (tab:Nat→Option Ty):Prop:=∀ t s,tab t=some s→RowOK P tab t s
section
variable {P:Program}{tab:Nat→Option Ty}{w:World}
theorem RowOK.size {t:Nat}{s:Ty} (h:RowOK P tab t s):(sizeOf t).run P w=.ok s.size w:=by
 obtain ⟨n,_,hi⟩:=h.info
 cases e:P.info? t with
 | none=>simp [e] at hi
 | some i =>
  simp [e] at hi
  simp [sizeOf,typeInfo,e,hi.1]
theorem RowOK.bytes {t:Nat}{s:Ty} (h:RowOK P tab t s):∃ i:TypeInfo,i.bytes≤16384∧i.size=s.size∧i.zero=some (valOf s (zeroC s))∧∀ w,(typeInfo t).run P w=.ok i w:=by
 obtain ⟨n,hn,hi⟩:=h.info
 cases e:P.info? t with
 | none=>simp [e] at hi
 | some i =>
  simp [e] at hi
  exact ⟨i,by omega,hi.1,hi.2.2,fun w=>by simp [typeInfo,e]⟩
theorem RowOK.zero {t:Nat}{s:Ty} (h:RowOK P tab t s):(zeroValue t).run P w=.ok (valOf s (zeroC s)) w:=by
 obtain ⟨i,_,_,hz,hi⟩:=h.bytes
 simp [zeroValue,hi,hz]
theorem RowOK.under {t:Nat}{s:Ty} (h:RowOK P tab t s):∃ d,(∀ w,(underlying t).run P w=.ok d w)∧descOK tab s (dk d)=true:=by
 obtain ⟨d,hd,hk⟩:=h.desc
 cases e:P.underlying t with
 | none=>simp [e] at hd
 | some d' =>
  simp [e] at hd
  exact ⟨d',fun w=>by simp [underlying,e],by rw [hd];exact hk⟩
theorem RowOK.agg {t:Nat}{s:Ty} (h:RowOK P tab t s):(isAgg t).run P w=.ok s.isAgg w:=by
 obtain ⟨d,hd,hk⟩:=h.under
 simp only [isAgg,Sem.run_bind,hd,Result.andThen_ok]
 cases s <;> cases d <;> simp_all [dk,descOK,Ty.isAgg]
theorem fldsOK_get:∀ {s:Ty}{o:Nat}{fs:List (Nat×Nat)},fldsOK tab o s fs=true→∀ {k:Nat}{f:Ty},s.fld k=some f →
  ∃ t,fs[k]?=some (o+s.offs k,t)∧tab t=some f:=by
 intro s
 induction s with
 | pair a b _ ihb =>
  intro o fs h k f hk
  cases fs with
  | nil=>simp [fldsOK] at h
  | cons q fs =>
   obtain ⟨off,t⟩:=q
   simp only [fldsOK,bA,beq_iff_eq] at h
   cases k with
   | zero =>
    simp only [Ty.fld,sI] at hk
    subst hk
    exact ⟨t,by simp [Ty.offs,h.1.1],h.1.2⟩
   | succ k =>
    simp only [Ty.fld] at hk
    obtain ⟨t',h1,h2⟩:=ihb h.2 hk
    exact ⟨t',by simp [Ty.offs,h1];omega,h2⟩
 | _=>intro o fs _ k f hk;simp [Ty.fld] at hk
theorem RowOK.field {t:Nat}{s:Ty} (h:RowOK P tab t s){k:Nat}{f:Ty} (hf:s.fld k=some f) :
  ∃ fields:Array Field,∃ fd:Field,(∀ w,(underlying t).run P w=.ok (.struct fields) w)∧fields[k]?=some fd∧fd.offset=s.offs k∧tab fd.type=some f:=by
 obtain ⟨d,hd,hk⟩:=h.under
 cases s with
 | pair a b =>
  cases d with
  | struct fs =>
   simp only [dk,descOK] at hk
   obtain ⟨t',h1,h2⟩:=fldsOK_get hk hf
   simp only [List.getElem?_map,Option.map_eq_some_iff,Prod.mk.injEq,Nat.zero_add] at h1
   obtain ⟨fd,h3,h4,h5⟩:=h1
   exact ⟨fs,fd,hd,by simpa using h3,h4,by rw [h5];exact h2⟩
  | _=>simp [dk,descOK] at hk
 | _=>simp [Ty.fld] at hf
end
inductive Pl where
 | mem (B:Nat) (pre post:List Value) (el:Nat) (fr:Nat×Nat)
 | val (vs:List Value)
 deriving Inhabited
def Holds (H:Heap) (pl:Pl) (n:Nat) (vs:List Value) (l:Option (Nat×Nat)):Prop :=
 match pl with
 | .mem B pre post el fr=>H B=some (.cells (pre++vs++post).toArray el fr)∧vs.length=n∧l=some (B,pre.length)∧Soft fr (pre++vs++post).length
 | .val ws=>vs=ws∧l=none
def RootRel (S:Stab) (H:Heap) (pl:Pl) (r:Root) (X:List Nat):Prop :=
 match r.k,pl with
 | .box _,.mem B _ _ _ _=>∃ vs l fp,Holds H pl r.τ.size vs l∧Rep S H r.τ vs r.x fp∧X=B::fp
 | .val _,.val vs=>Rep S H r.τ vs r.x X
 | _,_=>False
def VRel (S:Stab) (H:Heap) (pls:Nat→Pl) (roots:Nat→Option Root) (val:Value):AV→Prop
 | .v τ x=>∃ vs,val=valOf τ vs∧Rep S H τ vs x []
 | .ref id p=>∃ r,roots id=some r∧∃ (σ:Ty) (y:σ.D),∃ vs l vs' l',getP p r.τ r.x=some ⟨σ,y⟩∧Valid p r.τ r.x∧Holds H (pls id) r.τ.size vs l ∧
   At H p r.τ vs l vs' l'∧val=valOf σ vs'
 | .ptr id p=>∃ r,roots id=some r∧∃ (σ:Ty) (y:σ.D),∃ vs l vs' b off,getP p r.τ r.x=some ⟨σ,y⟩∧Valid p r.τ r.x∧Holds H (pls id) r.τ.size vs l ∧
   At H p r.τ vs l vs' (some (b,off))∧val=.pointer (some ⟨b,off,none⟩)
 | .sptr τ x=>∃ b off c el fr,val=.pointer (some ⟨b,off,none⟩)∧H b=some (.cells c el fr)∧off+τ.size≤c.size ∧
   Rep S H τ ((c.toList.drop off).take τ.size) x []∧∃ m,S m b
 | .junk=>True
def LRel (S:Stab) (H:Heap) (pls:Nat→Pl) (roots:Nat→Option Root):List Value→List AV→Prop
 | [],[]=>True
 | v::vs,a::as=>VRel S H pls roots v a∧LRel S H pls roots vs as
 | _,_=>False
def TRel (S:Stab) (H:Heap) (pls:Nat→Pl) (roots:Nat→Option Root) (val:Value):TV→Prop
 | .a v=>VRel S H pls roots val v
 | .tup l=>∃ vs,val=.tuple vs.toArray∧LRel S H pls roots vs l
structure Blk where
 p:Nat→Prop
 z:Nat→Option Pl
instance:Membership Nat Blk:=⟨fun G b=>G.p b⟩
def Blk.of (p:Nat→Prop):Blk:=⟨p,fun _=>none⟩
structure Frm (w0 w:World) (G:Blk):Prop where
 os:w.os=w0.os
 tape:w.tape=w0.tape
 output:w.output=w0.output
 size:w0.heap.size≤w.heap.size
 block:∀ b,b<w0.heap.size→b ∉ G→hp w b=hp w0 b
structure Inv (C:Cx) (w0:World) (G:Blk) (st:St) (a:Act) (w:World) (S:Stab) (pls:Nat→Pl) (X:Nat→List Nat):Prop where
 frm:Frm w0 w G
 stab:∀ m b,S m b→b<w.heap.size
 kl:∀ b,S .keep b→S .lend b
 own:∀ id b,b∈X id→b<w.heap.size∧(∀ m,¬ S m b)∧(w0.heap.size≤b∨b∈G)
 nd:∀ id,(X id).Nodup
 dis:∀ id id' b,id≠id'→b∈X id→b ∉ X id'
 roots:∀ id r,st.roots id=some r→RootRel S (hp w) (pls id) r (X id)
 tmps:∀ t,TRel S (hp w) pls st.roots (a.tmps.getD t undef) (st.tmps t)
 size:a.tmps.size=C.n
 defers:a.defers=[]
 glb:(∀ b,b<C.V.n→S .lend b)∧C.V.holds w
 pin:∀ id r,st.roots id=some r→r.k.io=true→G.z id=some (pls id)
theorem glb_of {C:Cx}{w w':World}{S S':Stab} (hS:∀ m b,S m b→hp w' b=hp w b) (hSS:∀ m b,S m b→S' m b) (h:(∀ b,b<C.V.n→S .lend b)∧C.V.holds w):(∀ b,b<C.V.n→S' .lend b)∧C.V.holds w' :=
 ⟨fun b hb=>hSS _ _ (h.1 b hb),C.V.loc w w' (fun b hb=>hS _ _ (h.1 b hb)) h.2⟩
theorem RootRel.holds {S:Stab}{H:Heap}{pl:Pl}{r:Root}{X:List Nat} (h:RootRel S H pl r X) :
  ∃ vs l fp,Holds H pl r.τ.size vs l∧Rep S H r.τ vs r.x fp∧(∀ b∈fp,b∈X):=by
 obtain ⟨k,τ,x⟩:=r
 cases k <;> cases pl <;> simp only [RootRel] at h
 ·obtain ⟨vs,l,fp,h1,h2,rfl⟩:=h
  exact ⟨vs,l,fp,h1,h2,fun b hb=>by simp [hb]⟩
 ·rename_i vs
  exact ⟨vs,none,X,⟨rfl,rfl⟩,h,fun b hb=>hb⟩
theorem Holds.det {H:Heap}{pl:Pl}{n:Nat}{v1 v2:List Value}{l1 l2:Option (Nat×Nat)} (h1:Holds H pl n v1 l1) (h2:Holds H pl n v2 l2):v1=v2∧l1=l2:=by
 cases pl with
 | mem B pre post el fr =>
  obtain ⟨a1,a2,rfl,_⟩:=h1
  obtain ⟨b1,b2,rfl,_⟩:=h2
  rw [a1] at b1
  simp only [sI,Obj.cells.injEq,and_true,List.append_assoc] at b1
  have b1:=congrArg Array.toList b1
  simp only [List.append_cancel_left_eq] at b1
  exact ⟨List.append_inj_left b1 (by omega),rfl⟩
 | val ws =>
  obtain ⟨rfl,rfl⟩:=h1
  obtain ⟨rfl,rfl⟩:=h2
  exact ⟨rfl,rfl⟩
theorem RootRel.at {S:Stab}{H:Heap}{pl:Pl}{r:Root}{X:List Nat} (h:RootRel S H pl r X){p:Path}{vs vs':List Value}{l l':Option (Nat×Nat)}
  (hh:Holds H pl r.τ.size vs l) (hv:Valid p r.τ r.x){σ:Ty}{y:σ.D} (hg:getP p r.τ r.x=some ⟨σ,y⟩) (ha:At H p r.τ vs l vs' l') :
  ∃ f',Rep S H σ vs' y f'∧(∀ b∈f',b∈X):=by
 obtain ⟨v1,l1,fp,h1,h2,h3⟩:=h.holds
 obtain ⟨rfl,rfl⟩:=h1.det hh
 obtain ⟨w1,m1,f1,f',f2,rfl,h4,h5⟩:=h2.get p l1 hv hg
 obtain ⟨rfl,rfl⟩:=At.det p h4 ha
 exact ⟨f',h5,fun b hb=>h3 b (by simp [hb])⟩
theorem Rep.oneCell {S:Stab}{H:Heap}:∀ {τ:Ty}{vs:List Value}{x:τ.D}{fp:List Nat},Rep S H τ vs x fp→∀ v∈vs,v.oneCell'=true:=by
 intro τ
 induction τ with
 | int k=>rintro vs x fp ⟨rfl,_⟩;simp [Value.oneCell']
 | bool=>rintro vs x fp ⟨rfl,_⟩;simp [Value.oneCell']
 | str=>rintro vs x fp ⟨rfl,_⟩;simp [Value.oneCell']
 | nil=>rintro vs x fp ⟨⟨_,rfl⟩,_⟩;simp [Value.oneCell']
 | dead=>rintro vs x fp ⟨⟨v,rfl,h⟩,_⟩;simpa using h
 | unit=>rintro vs x fp ⟨rfl,_⟩;simp
 | clo g c _=>rintro vs x fp ⟨_,cb,rfl,_⟩;simp [Value.oneCell']
 | sl o e ih=>rintro vs x fp ⟨a,len,cap,rfl,_⟩;simp [Value.oneCell']
 | pair a b iha ihb =>
  rintro vs x fp ⟨v1,v2,f1,f2,rfl,rfl,h1,h2⟩ v hv
  simp only [List.mem_append] at hv
  rcases hv with h | h
  ·exact iha h1 v h
  ·exact ihb h2 v h
theorem valOf_one {τ:Ty}{vs:List Value} (h:τ.isAgg=false) (hl:vs.length=τ.size):∃ v,vs=[v]∧valOf τ vs=v:=by
 cases τ <;> simp [Ty.isAgg,Ty.size] at h hl
 all_goals
  match vs,hl with
  | [v],_=>exact ⟨v,rfl,rfl⟩
theorem valOf_cells {τ:Ty}{vs:List Value} (hl:vs.length=τ.size) (h1:∀ v∈vs,v.oneCell'=true):(valOf τ vs).cells=vs.toArray:=by
 cases h:τ.isAgg with
 | true=>simp [valOf,h,Value.cells]
 | false =>
  obtain ⟨v,rfl,e⟩:=valOf_one h hl
  rw [e]
  have:=h1 v (by simp)
  cases v <;> simp_all [Value.cells,Value.oneCell']
theorem valOf_like {s τ:Ty}{vs:List Value} (h:s.isAgg=τ.isAgg):valOf s vs=valOf τ vs:=by simp [valOf,h]
theorem run_loadVar_at {P:Program}{tab:Nat→Option Ty}{w:World}{t:Nat}{s:Ty} (h:RowOK P tab t s){b off:Nat}{c:Array Value}{el:TypeId}{fr:Nat×Nat}
  (hb:hp w b=some (.cells c el fr)) (hn:off+s.size≤c.size) :
  (loadVar t ⟨b,off,none⟩).run P w=.ok (valOf s ((c.toList.drop off).take s.size)) w:=by
 simp only [loadVar,Sem.run_bind,h.agg,Result.andThen_ok,Sem.run_ite]
 split
 ·rename_i ha
  simp [h.size,run_loadCells_at hb hn,valOf,ha]
 ·rename_i ha
  have ha:s.isAgg=false:=by simpa using ha
  have hs:s.size=1:=by cases s <;> simp_all [Ty.isAgg,Ty.size]
  rw [hs] at hn ⊢
  have hlt:off<c.size:=by omega
  rw [run_load,cell_hp hb]
  simp only [valOf,ha,Array.getElem?_eq_getElem hlt]
  simp [List.take_one,List.head?_drop,hlt]
end Go.Rf
namespace Go.Rf
section
variable {P:Program}{C:Cx}{w0 w:World}{G:Blk}{st:St}{a:Act}{S:Stab}{pls:Nat→Pl}{X:Nat→List Nat}
theorem constAV_rel {H:Heap}{roots:Nat→Option Root} (v:Value):VRel S H pls roots v (constAV v):=by
 cases v with
 | slice p len cap =>
  unfold constAV
  split
  all_goals simp_all [VRel]
  all_goals exact ⟨[.slice none 0 0],by simp [valOf,Ty.isAgg],⟨none,rfl⟩,rfl⟩
 | _=>first | exact ⟨_,by simp [valOf,Ty.isAgg],rfl,rfl⟩ | exact trivial
theorem Inv.opnd (hI:Inv C w0 G st a w S pls X) (x:Operand):TRel S (hp w) pls st.roots (a.eval x) (opnd st x):=by
 cases x with
 | tmp t=>exact hI.tmps t
 | const v=>exact constAV_rel v
 | global g=>exact trivial
 | func f=>exact ⟨[.func (.func f) #[] #[]],rfl,rfl,[],rfl,.inl ⟨rfl,rfl⟩⟩
theorem vint {H:Heap}{roots:Nat→Option Root}{k:IntKind} (n:Int):VRel S H pls roots (.int k n) (.v (.int k) n):=⟨[.int k n],rfl,rfl,rfl⟩
theorem vbool {H:Heap}{roots:Nat→Option Root} (b:Bool):VRel S H pls roots (.bool b) (.v .bool b):=⟨[.bool b],rfl,rfl,rfl⟩
theorem vstr {H:Heap}{roots:Nat→Option Root} (s:ByteArray):VRel S H pls roots (.string s) (.v .str s):=⟨[.string s],rfl,rfl,rfl⟩
theorem vint_inv {H:Heap}{roots:Nat→Option Root}{k:IntKind}{n:Int}{v:Value} (h:VRel S H pls roots v (.v (.int k) n)):v=.int k n:=by
 obtain ⟨vs,rfl,rfl,_⟩:=h;rfl
theorem vbool_inv {H:Heap}{roots:Nat→Option Root}{b:Bool}{v:Value} (h:VRel S H pls roots v (.v .bool b)):v=.bool b:=by
 obtain ⟨vs,rfl,rfl,_⟩:=h;rfl
theorem vstr_inv {H:Heap}{roots:Nat→Option Root}{s:ByteArray}{v:Value} (h:VRel S H pls roots v (.v .str s)):v=.string s:=by
 obtain ⟨vs,rfl,rfl,_⟩:=h;rfl
theorem vsl_inv {H:Heap}{roots:Nat→Option Root}{m:Mode}{e:Ty}{xs:List e.D}{v:Value} (h:VRel S H pls roots v (.v (.sl m e) xs)) :
  ∃ p len cap,v=.slice p len cap∧len=xs.length∧len≤cap∧(cap=0 ∨
   ∃ b off c el fr,p=some ⟨b,off,none⟩∧H b=some (.cells c el fr)∧off+cap*e.size≤c.size∧(m≠.own→Rows (Rep S H e) e.size (c.toList.drop off) xs []∧S m b)):=by
 obtain ⟨vs,rfl,p,len,cap,rfl,hl,hc,hh⟩:=h
 refine ⟨p,len,cap,rfl,hl,hc,?_⟩
 rcases hh with h | ⟨b,off,c,el,fr,f2,rfl,hb,hsz,hr,h⟩
 ·exact .inl h.1
 ·refine .inr ⟨b,off,c,el,fr,rfl,hb,hsz,fun hm=>?_⟩
  rcases h with ⟨_,h2,rfl,_⟩ | ⟨rfl,_⟩
  ·exact ⟨hr,h2⟩
  ·simp at hm
theorem tint {H:Heap}{roots:Nat→Option Root}{k:IntKind} (n:Int):TRel S H pls roots (.int k n) (.a (.v (.int k) n)):=vint (pls:=pls) (roots:=roots) n
theorem tbool {H:Heap}{roots:Nat→Option Root} (b:Bool):TRel S H pls roots (.bool b) (.a (.v .bool b)):=vbool (pls:=pls) (roots:=roots) b
theorem tstr {H:Heap}{roots:Nat→Option Root} (s:ByteArray):TRel S H pls roots (.string s) (.a (.v .str s)):=vstr (pls:=pls) (roots:=roots) s
theorem bytes_inj {a b:ByteArray} (h:a.data.toList=b.data.toList):a=b:=by
 cases a;cases b
 congr 1
 exact Array.toList_inj.1 h
theorem str_eq (a b:ByteArray):(a.toList == b.toList)=decide (a=b):=by
 rw [Bool.eq_iff_iff]
 simp only [beq_iff_eq,decide_eq_true_eq,ByteArray.toList_eq]
 exact ⟨fun h=>bytes_inj h,fun h=>by rw [h]⟩
theorem binK_run {op:BinOp}{x y:AV}{tv:TV} (h:binK op x y some=some tv){vx vy:Value}{H:Heap}{roots:Nat→Option Root} (hx:VRel S H pls roots vx x) (hy:VRel S H pls roots vy y)
  (t:TypeId) (ox oy:Operand):∃ v,(∀ w,(do eqGuard op t ox oy vx vy;binOp op t vx vy:Sem Value).run P w=.ok v w)∧TRel S H pls roots v tv:=by
 unfold binK at h
 split at h
 case h_17=>-- string add
  rename_i s1 s2
  rw [vstr_inv hx,vstr_inv hy]
  split at h
  ·cases h
   rename_i hlt
   refine ⟨.string (s1++s2),?_,tstr _⟩
   have:¬ (((ByteArray.size s1+ByteArray.size s2:Nat):Int)>IntKind.i64.max):=by
    show ¬ (((ByteArray.size s1+ByteArray.size s2:Nat):Int)>9223372036854775807)
    omega
   intro w
   simp only [eqGuard,binOp,Op.stringOp,Sem.run_bind]
   rw [if_neg this];simp
  ·cases h
 case h_18 =>
  rename_i s1 s2
  rw [vstr_inv hx,vstr_inv hy];cases h
  refine ⟨.bool (decide (s1=s2)),?_,tbool _⟩
  intro w;simp [eqGuard,binOp,Op.stringOp,str_eq]
 case h_19 =>
  rename_i s1 s2
  rw [vstr_inv hx,vstr_inv hy];cases h
  refine ⟨.bool (!decide (s1=s2)),?_,tbool _⟩
  intro w;simp [eqGuard,binOp,Op.stringOp,str_eq]
 case h_20 =>
  rename_i s1 s2
  rw [vstr_inv hx,vstr_inv hy];cases h
  refine ⟨.bool (Op.bytesLess s1.toList s2.toList),?_,tbool _⟩
  intro w;simp [eqGuard,binOp,Op.stringOp]
 case h_21 =>
  rename_i s1 s2
  rw [vstr_inv hx,vstr_inv hy];cases h
  refine ⟨.bool (Op.bytesLess s1.toList s2.toList || decide (s1=s2)),?_,tbool _⟩
  intro w;simp [eqGuard,binOp,Op.stringOp,str_eq]
 case h_22 =>
  rename_i s1 s2
  rw [vstr_inv hx,vstr_inv hy];cases h
  refine ⟨.bool (!(Op.bytesLess s1.toList s2.toList || decide (s1=s2))),?_,tbool _⟩
  intro w;simp [eqGuard,binOp,Op.stringOp,str_eq]
 case h_23 =>
  rename_i s1 s2
  rw [vstr_inv hx,vstr_inv hy];cases h
  refine ⟨.bool (!Op.bytesLess s1.toList s2.toList),?_,tbool _⟩
  intro w;simp [eqGuard,binOp,Op.stringOp]
 case h_24=>cases h
 all_goals
  rw [vint_inv hx,vint_inv hy]
  (repeat' split at h)
  all_goals first
   | (cases h;done)
   | (cases h;subst_vars
      first
      | (refine ⟨_,?_,tint _⟩;intro w;simp [eqGuard,binOp,Op.intArith,Op.intDiv,Op.intBits,Op.intCmp,Op.shift, *];done)
      | (refine ⟨_,?_,tbool _⟩;intro w;simp [eqGuard,binOp,Op.intArith,Op.intDiv,Op.intBits,Op.intCmp,Op.shift, *];done)
      | (refine ⟨_,?_,tbool _⟩;intro w;simp [eqGuard,binOp,Op.intArith,Op.intDiv,Op.intBits,Op.intCmp,Op.shift, *];rfl))
theorem unK_run {op:UnOp}{x:AV}{tv:TV} (h:unK op x some=some tv){vx:Value}{H:Heap}{roots:Nat→Option Root} (hx:VRel S H pls roots vx x) :
  ∃ v,(∀ w,(Op.unary op vx).run P w=.ok v w)∧TRel S H pls roots v tv:=by
 unfold unK at h
 split at h
 ·rw [vbool_inv hx];cases h;exact ⟨_,fun w=>by simp [Op.unary],tbool _⟩
 ·rw [vint_inv hx];cases h;exact ⟨_,fun w=>by simp [Op.unary,Op.intArith],tint _⟩
 ·cases h
theorem likeTy_spec {tab:Nat→Option Ty}{t:Nat}{τ:Ty} (h:likeTy (tab t) τ=true):∃ s,tab t=some s∧s.size=τ.size∧s.isAgg=τ.isAgg:=by
 unfold likeTy at h
 split at h
 ·rename_i s hs;simp at h;exact ⟨s,hs,h.1,h.2⟩
 ·cases h
theorem fldV_spec:∀ {σ:Ty}{y:σ.D}{k:Nat}{f:Ty}{z:f.D},fldV σ y k=some ⟨f,z⟩→σ.fld k=some f∧σ.offs k+f.size≤σ.size ∧
  ∀ {S:Stab}{H:Heap}{vs:List Value},Rep S H σ vs y []→Rep S H f ((vs.drop (σ.offs k)).take f.size) z []:=by
 intro σ
 induction σ with
 | pair a b _ ihb =>
  intro y k f z h
  cases k with
  | zero =>
   simp only [fldV,sI,Sigma.mk.injEq] at h
   obtain ⟨rfl,h⟩:=h;cases h
   refine ⟨rfl,by simp [Ty.offs,Ty.size],?_⟩
   rintro S H vs ⟨v1,v2,f1,f2,rfl,hf,h1,h2⟩
   simp only [List.nil_eq,List.append_eq_nil_iff] at hf
   rw [← h1.length];simp [Ty.offs]
   rw [← hf.1];exact h1
  | succ k =>
   simp only [fldV] at h
   obtain ⟨h1,h2,h3⟩:=ihb h
   refine ⟨h1,by simp [Ty.offs,Ty.size];omega,?_⟩
   rintro S H vs ⟨v1,v2,f1,f2,rfl,hf,k1,k2⟩
   simp only [List.nil_eq,List.append_eq_nil_iff] at hf
   rw [hf.2] at k2
   have:=h3 k2
   simp only [Ty.offs]
   rw [← k1.length,show List.drop (v1.length+b.offs k) (v1++v2)=v2.drop (b.offs k) by rw [List.drop_length_add_append]]
   exact this
 | _=>intro y k f z h;simp [fldV] at h
theorem fld_path:∀ {σ:Ty}{k:Nat}{f:Ty},σ.fld k=some f→∀ (y:σ.D) (H:Heap) (vs:List Value) (B off:Nat),vs.length=σ.size →
  (∃ z:f.D,getP (fieldPath k) σ y=some ⟨f,z⟩)∧Valid (fieldPath k) σ y ∧
  At H (fieldPath k) σ vs (some (B,off)) ((vs.drop (σ.offs k)).take f.size) (some (B,off+σ.offs k)):=by
 intro σ
 induction σ with
 | pair a b _ ihb =>
  intro k f h y H vs B off hl
  cases k with
  | zero =>
   simp only [Ty.fld,sI] at h
   subst h
   exact ⟨⟨y.1,rfl⟩,trivial,by simp [fieldPath,At,Ty.offs]⟩
  | succ k =>
   simp only [Ty.fld] at h
   obtain ⟨h1,h2,h3⟩:=ihb h y.2 H (vs.drop a.size) B (off+a.size) (by simp [hl,Ty.size])
   refine ⟨h1,h2,?_⟩
   simp only [fieldPath,At,Option.map_some,Ty.offs]
   rw [List.drop_drop] at h3
   rw [← Nat.add_assoc];exact h3
 | _=>intro k f h;simp [Ty.fld] at h
theorem fld_pathL:∀ {σ:Ty}{k:Nat}{f:Ty},σ.fld k=some f→∀ (y:σ.D) (H:Heap) (vs:List Value) (l:Option (Nat×Nat)),vs.length=σ.size →
  Valid (fieldPath k) σ y∧(∀ z:f.D,fldV σ y k=some ⟨f,z⟩→getP (fieldPath k) σ y=some ⟨f,z⟩) ∧
  At H (fieldPath k) σ vs l ((vs.drop (σ.offs k)).take f.size) (l.map fun q=>(q.1,q.2+σ.offs k)):=by
 intro σ
 induction σ with
 | pair a b _ ihb =>
  intro k f h y H vs l hl
  cases k with
  | zero =>
   simp only [Ty.fld,sI] at h
   subst h
   refine ⟨trivial,fun z hz=>by simpa [fldV,fieldPath,getP] using hz,?_⟩
   cases l <;> simp [fieldPath,At,Ty.offs]
  | succ k =>
   simp only [Ty.fld] at h
   obtain ⟨h1,h2,h3⟩:=ihb h y.2 H (vs.drop a.size) (l.map fun q=>(q.1,q.2+a.size)) (by simp [hl,Ty.size])
   refine ⟨h1,fun z hz=>h2 z hz,?_⟩
   simp only [fieldPath,At,Ty.offs]
   rw [List.drop_drop] at h3
   cases l with
   | none=>exact h3
   | some q =>
    simp only [Option.map_some] at h3 ⊢
    rw [← Nat.add_assoc];exact h3
 | _=>intro k f h;simp [Ty.fld] at h
theorem getP_append:∀ (p q:Path){τ:Ty}{x:τ.D}{σ:Ty}{y:σ.D},getP p τ x=some ⟨σ,y⟩→getP (p++q) τ x=getP q σ y:=by
 intro p
 induction p with
 | nil =>
  intro q τ x σ y h
  simp only [getP,sI,Sigma.mk.injEq] at h
  obtain ⟨rfl,h⟩:=h;cases h;rfl
 | cons s p ih =>
  intro q τ x σ y h
  cases s with
  | L=>cases τ <;> simp only [getP,reduceCtorEq] at h;exact ih q h
  | R=>cases τ <;> simp only [getP,reduceCtorEq] at h;exact ih q h
  | ix i =>
   cases τ with
   | sl m e=>cases m <;> simp only [getP,reduceCtorEq] at h;exact ih q h
   | _=>simp [getP] at h
theorem valid_append:∀ (p q:Path){τ:Ty}{x:τ.D}{σ:Ty}{y:σ.D},getP p τ x=some ⟨σ,y⟩→Valid p τ x→Valid q σ y→Valid (p++q) τ x:=by
 intro p
 induction p with
 | nil =>
  intro q τ x σ y h _ hq
  simp only [getP,sI,Sigma.mk.injEq] at h
  obtain ⟨rfl,h⟩:=h;cases h;exact hq
 | cons s p ih =>
  intro q τ x σ y h hv hq
  cases s with
  | L=>cases τ <;> simp only [getP,reduceCtorEq] at h;exact ih q h hv hq
  | R=>cases τ <;> simp only [getP,reduceCtorEq] at h;exact ih q h hv hq
  | ix i =>
   cases τ with
   | sl m e=>cases m <;> simp only [getP,reduceCtorEq] at h;exact ⟨hv.1,ih q h hv.2 hq⟩
   | _=>simp [getP] at h
theorem at_append {H:Heap}:∀ (p q:Path){τ:Ty}{x:τ.D}{σ:Ty}{y:σ.D}{vs v1 v2:List Value}{l l1 l2:Option (Nat×Nat)},getP p τ x=some ⟨σ,y⟩ →
  At H p τ vs l v1 l1→At H q σ v1 l1 v2 l2→At H (p++q) τ vs l v2 l2:=by
 intro p
 induction p with
 | nil =>
  intro q τ x σ y vs v1 v2 l l1 l2 h h1 h2
  simp only [getP,sI,Sigma.mk.injEq] at h
  obtain ⟨rfl,h⟩:=h;cases h
  obtain ⟨rfl,rfl⟩:=h1;exact h2
 | cons s p ih =>
  intro q τ x σ y vs v1 v2 l l1 l2 h h1 h2
  cases s with
  | L=>cases τ <;> simp only [getP,reduceCtorEq] at h;exact ih q h h1 h2
  | R=>cases τ <;> simp only [getP,reduceCtorEq] at h;exact ih q h h1 h2
  | ix i =>
   cases τ with
   | sl m e =>
    cases m <;> simp only [getP,reduceCtorEq] at h
    obtain ⟨b,off,len,cap,c,el,fr,rfl,hb,h1⟩:=h1
    exact ⟨b,off,len,cap,c,el,fr,rfl,hb,ih q h h1 h2⟩
   | _=>simp [getP] at h
theorem at_mem {S:Stab}{H:Heap}:∀ (p:Path){τ:Ty}{x:τ.D}{fp:List Nat}{vs vs':List Value}{b off:Nat}{l:Option (Nat×Nat)},
  Rep S H τ vs x fp→Valid p τ x→At H p τ vs l vs' (some (b,off))→(∀ B o,l=some (B,o)→∃ c el fr,H B=some (.cells c el fr)∧o+τ.size≤c.size∧(c.toList.drop o).take τ.size=vs) →
  ∀ {σ:Ty}{y:σ.D},getP p τ x=some ⟨σ,y⟩→∃ c el fr,H b=some (.cells c el fr)∧off+σ.size≤c.size∧(c.toList.drop off).take σ.size=vs':=by
 intro p
 induction p with
 | nil =>
  intro τ x fp vs vs' b off l hr hv ha hl σ y hg
  simp only [getP,sI,Sigma.mk.injEq] at hg
  obtain ⟨rfl,hg⟩:=hg;cases hg
  obtain ⟨rfl,rfl⟩:=ha
  exact hl b off rfl
 | cons s p ih =>
  intro τ x fp vs vs' b off l hr hv ha hl σ y hg
  cases s with
  | L =>
   cases τ <;> simp only [getP,reduceCtorEq] at hg
   rename_i ta tb
   obtain ⟨v1,v2,f1,f2,rfl,rfl,h1,h2⟩:=hr
   simp only [At] at ha
   rw [← h1.length,List.take_left] at ha
   refine ih h1 hv ha (fun B o e=>?_) hg
   obtain ⟨c,el,fr,e1,e2,e3⟩:=hl B o e
   refine ⟨c,el,fr,e1,by simp [Ty.size] at e2;omega,?_⟩
   have:=congrArg (List.take ta.size) e3
   rw [List.take_take,Nat.min_eq_left (by simp [Ty.size])] at this
   rw [this,← h1.length,List.take_left]
  | R =>
   cases τ <;> simp only [getP,reduceCtorEq] at hg
   rename_i ta tb
   obtain ⟨v1,v2,f1,f2,rfl,rfl,h1,h2⟩:=hr
   simp only [At] at ha
   rw [← h1.length,List.drop_left] at ha
   refine ih h2 hv ha (fun B o e=>?_) hg
   cases l with
   | none=>simp at e
   | some q =>
    simp only [Option.map_some,sI,Prod.mk.injEq] at e
    obtain ⟨rfl,rfl⟩:=e
    obtain ⟨c,el,fr,e1,e2,e3⟩:=hl q.1 q.2 rfl
    refine ⟨c,el,fr,e1,by simp [Ty.size] at e2;rw [h1.length];omega,?_⟩
    have:=congrArg (List.drop ta.size) e3
    rw [List.drop_take,List.drop_drop] at this
    rw [h1.length]
    rw [show (ta.pair tb).size-ta.size=tb.size by simp [Ty.size]] at this
    rw [this,← h1.length,List.drop_left]
  | ix i =>
   cases τ with
   | sl m e =>
    cases m <;> simp only [getP,reduceCtorEq] at hg
    obtain ⟨pa,len,cap,rfl,hl1,hc,hh⟩:=hr
    obtain ⟨hi,hv⟩:=hv
    obtain ⟨b1,o1,len1,cap1,c,el,fr,e1,hb,ha⟩:=ha
    simp only [List.cons.injEq,Value.slice.injEq,and_true] at e1
    obtain ⟨rfl,rfl,rfl⟩:=e1
    rcases hh with ⟨h,_⟩ | ⟨b2,o2,c2,el2,fr2,f2,e2,hb2,hsz,hr,h⟩
    ·omega
    simp only [sI,Addr.mk.injEq,and_true] at e2
    obtain ⟨rfl,rfl⟩:=e2
    rw [hb] at hb2;simp only [sI,Obj.cells.injEq] at hb2
    obtain ⟨rfl,rfl,rfl⟩:=hb2
    have hle:List.length x*e.size≤(c.toList.drop o1).length:=hr.pre
    obtain ⟨g1,g',g2,_,hri,_⟩:=Rows.focus e.dflt x _ _ i hr hi hle
    rw [List.drop_drop] at hri
    have hrow:i*e.size+e.size≤List.length x*e.size:=by
     have:=Nat.mul_le_mul_right e.size (Nat.succ_le_of_lt hi);rw [Nat.succ_mul] at this;exact this
    refine ih hri hv ha (fun B o e'=>?_) hg
    simp only [sI,Prod.mk.injEq] at e'
    obtain ⟨rfl,rfl⟩:=e'
    refine ⟨c,el,fr,hb,?_,rfl⟩
    simp at hle;omega
   | _=>simp [getP] at hg
theorem holds_mem {S:Stab}{H:Heap}{pl:Pl}{r:Root}{vs:List Value}{l:Option (Nat×Nat)} (h:Holds H pl r.τ.size vs l) :
  ∀ B o,l=some (B,o)→∃ c el fr,H B=some (.cells c el fr)∧o+r.τ.size≤c.size∧(c.toList.drop o).take r.τ.size=vs:=by
 intro B o e
 cases pl with
 | mem B' pre post el fr =>
  obtain ⟨h1,h2,rfl,_⟩:=h
  simp only [sI,Prod.mk.injEq] at e
  obtain ⟨rfl,rfl⟩:=e
  refine ⟨_,el,fr,h1,by simp;omega,?_⟩
  simp only [List.append_assoc,List.drop_left]
  rw [← h2,List.take_left]
 | val ws=>obtain ⟨_,rfl⟩:=h;cases e
theorem Inv.ptr (hI:Inv C w0 G st a w S pls X){val:Value}{id:Nat}{p:Path} (h:VRel S (hp w) pls st.roots val (.ptr id p)){r:Root} (hr:st.roots id=some r){σ:Ty}{y:σ.D}
  (hg:getP p r.τ r.x=some ⟨σ,y⟩):∃ b off c el fr vs',val=.pointer (some ⟨b,off,none⟩)∧hp w b=some (.cells c el fr)∧off+σ.size≤c.size∧(c.toList.drop off).take σ.size=vs' ∧
   (∃ vs l,Holds (hp w) (pls id) r.τ.size vs l∧At (hp w) p r.τ vs l vs' (some (b,off)))∧Valid p r.τ r.x∧∃ f',Rep S (hp w) σ vs' y f'∧∀ b∈f',b∈X id:=by
 obtain ⟨r',hr',σ',y',vs,l,vs',b,off,h1,h2,h3,h4,h5⟩:=h
 rw [hr] at hr';cases hr'
 rw [hg] at h1
 obtain ⟨v1,l1,fp,k1,k2,k3⟩:=(hI.roots id r hr).holds
 obtain ⟨rfl,rfl⟩:=k1.det h3
 obtain ⟨c,el,fr,e1,e2,e3⟩:=at_mem p k2 h2 h4 (holds_mem (S:=S) k1) hg
 exact ⟨b,off,c,el,fr,vs',h5,e1,e2,e3,⟨v1,l1,k1,h4⟩,h2,(hI.roots id r hr).at k1 h2 hg h4⟩
end
end Go.Rf
namespace Go.Rf
section
variable {P:Program}{C:Cx}{w0 w:World}{G:Blk}{st:St}{a:Act}{S:Stab}{pls:Nat→Pl}{X:Nat→List Nat}
theorem inB_spec {n:Int}{m:Nat} (h:inB n m):0≤n∧n<(m:Int)∧n.toNat<m:=by
 obtain ⟨h1,h2⟩:=h
 exact ⟨h1,h2,by omega⟩
theorem addr_add (b off n:Nat):(⟨b,off,none⟩:Addr).add n=⟨b,off+n,none⟩:=by unfold Addr.add;split <;> simp_all
theorem run_fieldAt {tab:Nat→Option Ty} (hT:TabOK P tab){t:Nat}{s:Ty} (hs:tab t=some s){k:Nat}{f:Ty} (hf:s.fld k=some f) (h0:0<f.size) (b off:Nat) (w:World) :
  (Instr.fieldAt t (.pointer (some ⟨b,off,none⟩)) k).run P w=.ok (.pointer (some ⟨b,off+s.offs k,none⟩)) w:=by
 obtain ⟨fields,fd,h1,h2,h3,h4⟩:=(hT t s hs).field hf
 have h5:=(hT _ _ h4).size (w:=w)
 simp only [Instr.fieldAt,Sem.run_bind,h1,Result.andThen_ok,h2,Instr.sureAddr,Sem.run_pure,fieldPlace,h5,Sem.run_ite]
 rw [if_neg (by omega)]
 simp [addr_add,h3]
theorem run_indexAt {tab:Nat→Option Ty} (hT:TabOK P tab){t:Nat}{m:Mode}{s:Ty} (hs:tab t=some (.sl m s)) (b off len cap:Nat) (k:IntKind) (i:Int) (h0:0≤i) (h1:i<(len:Int)) (w:World) :
  (Instr.indexAt t (.slice (some ⟨b,off,none⟩) len cap) (.int k i)).run P w=.ok (.pointer (some ⟨b,off+i.toNat*s.size,none⟩)) w:=by
 obtain ⟨d,hd,hk⟩:=(hT t _ hs).under
 cases d with
 | slice el =>
  simp only [dk,descOK,beq_iff_eq] at hk
  have h5:=(hT _ _ hk).size (w:=w)
  simp only [Instr.indexAt,asIntOf,Sem.run_bind,Sem.run_pure,Result.andThen_ok,hd]
  simp only [Bool.and_false,Sem.run_ite,h0,h1,and_self,if_true,Sem.run_bind,h5,Result.andThen_ok,Sem.run_pure,addr_add]
 | _=>simp [dk,descOK] at hk
theorem getD_row {S:Stab}{H:Heap}{e:Ty}{cs:List Value}{xs:List e.D}{fp:List Nat}{i:Nat} (h:Rows (Rep S H e) e.size cs xs fp) (hi:i<xs.length) :
  i*e.size+e.size≤cs.length∧∃ f',Rep S H e ((cs.drop (i*e.size)).take e.size) (xs.getD i e.dflt) f'∧∀ b∈f',b∈fp:=by
 have hle:=h.pre
 obtain ⟨g1,g',g2,rfl,hri,_⟩:=Rows.focus e.dflt xs _ _ i h hi hle
 have hrow:i*e.size+e.size≤List.length xs*e.size:=by
  have:=Nat.mul_le_mul_right e.size (Nat.succ_le_of_lt hi);rw [Nat.succ_mul] at this;exact this
 exact ⟨by omega,g',hri,fun b hb=>by simp [hb]⟩
theorem undr_sl {tab:Nat→Option Ty} (hT:TabOK P tab){t:Nat}{m:Mode}{s:Ty} (h:tab t=some (.sl m s)):∃ el,P.underlying t=some (.slice el)∧tab el=some s:=by
 obtain ⟨d,hd,hk⟩:=(hT t _ h).desc
 cases e:P.underlying t with
 | none=>simp [e] at hd
 | some d' =>
  simp only [e,Option.map_some,sI] at hd
  subst hd
  cases d' <;> simp [dk,descOK] at hk
  exact ⟨_,rfl,hk⟩
theorem undr_int {tab:Nat→Option Ty} (hT:TabOK P tab){t:Nat}{k:IntKind} (h:tab t=some (.int k)):P.underlying t=some (.int k):=by
 obtain ⟨d,hd,hk⟩:=(hT t _ h).desc
 cases e:P.underlying t with
 | none=>simp [e] at hd
 | some d' =>
  simp only [e,Option.map_some,sI] at hd
  subst hd
  cases d' <;> simp [dk,descOK] at hk
  rw [hk]
theorem undr_str {tab:Nat→Option Ty} (hT:TabOK P tab){t:Nat} (h:tab t=some .str):P.underlying t=some .string:=by
 obtain ⟨d,hd,hk⟩:=(hT t _ h).desc
 cases e:P.underlying t with
 | none=>simp [e] at hd
 | some d' =>
  simp only [e,Option.map_some,sI] at hd
  subst hd
  cases d' <;> simp [dk,descOK] at hk
  rfl
theorem int_rows {S:Stab}{H:Heap}{k:IntKind}:∀ {xs:List Int}{cs:List Value}{f:List Nat},Rows (Rep S H (.int k)) 1 cs xs f→cs.take xs.length=xs.map (Value.int k):=by
 intro xs
 induction xs with
 | nil=>intro cs f _;simp
 | cons x xs ih =>
  rintro cs f ⟨f1,f2,rfl,⟨h1,rfl⟩,h2⟩
  cases cs with
  | nil=>simp at h1
  | cons c cs =>
   simp only [List.take_succ_cons,List.take_zero,List.cons.injEq,and_true] at h1
   subst h1
   simp only [List.length_cons,List.take_succ_cons,List.map_cons,List.cons.injEq,true_and]
   exact ih h2
theorem fold_bytes:∀ (xs:List Int) (s:ByteArray),xs.foldl (fun r n=>r.push (UInt8.ofNat n.toNat)) s=⟨(s.data.toList++xs.map fun i=>UInt8.ofNat i.toNat).toArray⟩:=by
 intro xs
 induction xs with
 | nil=>intro s;simp
 | cons x xs ih =>
  intro s
  rw [List.foldl_cons,ih]
  congr 1
  simp [ByteArray.push]
theorem conv_bytes {tab:Nat→Option Ty} (hT:TabOK P tab){src dst:Nat}{m0 m:Mode} (hs:tab src=some (.sl m0 (.int .u8))) (hd:tab dst=some .str){val:Value}{xs:List Int}{fp:List Nat}
  (hr:Rep S (hp w) (.sl m (.int .u8)) [val] xs fp):(convert src dst val).run P w=.ok (.string (ofBytes xs)) w:=by
 obtain ⟨el,u1,u2⟩:=undr_sl hT hs
 have u3:=undr_int hT u2
 have u4:=undr_str hT hd
 obtain ⟨p,len,cap,hv,hl,hc,hh⟩:=hr
 simp only [List.cons.injEq,and_true] at hv
 subst hv
 rw [run_convert_bytes_string w src dst el p len cap u1 u3 u4]
 have hnil:∀ p:Option Addr,len=0→(Conv.bytesToString (.slice p len cap)).run P w=.ok (.string (ofBytes xs)) w:=by
  intro p h0
  have:(xs:List Int)=[]:=List.eq_nil_of_length_eq_zero (by omega)
  rw [this,h0]
  cases p with
  | none=>simp [Conv.bytesToString,ofBytes];rfl
  | some a=>rw [run_bytesToString w a 0 cap [] (by simp [loadCells,loadCellsFrom])];simp [ofBytes];rfl
 rcases hh with ⟨hc0,rfl⟩ | ⟨b,off,c,el',fr,f2,rfl,hb,hsz,hr,h⟩
 ·exact hnil p (by omega)
 ·have hrow:=int_rows hr
  have hsz':off+cap*1≤c.size:=hsz
  have hload:=run_loadCells_at (P:=P) (off:=off) (n:=len) hb (by omega)
  rw [hl,hrow] at hload
  rw [hl,run_bytesToString w _ _ cap xs hload,fold_bytes]
  rfl
theorem leaf_eq {tab:Nat→Option Ty} (hT:TabOK P tab){t:Nat}{a:Ty} (ht:tab t=some a) (hl:a.leaf=true){u v:a.D}{v1 v2:Value}{f g:List Nat}{H:Heap}
  (h1:Rep S H a [v1] u f) (h2:Rep S H a [v2] v g) (d:Nat):(Op.equalIn (d+1) t v1 v2).run P w=.ok (eqL a u v) w:=by
 cases a with
 | int k =>
  obtain ⟨h1,_⟩:=h1
  obtain ⟨h2,_⟩:=h2
  simp only [List.cons.injEq,and_true] at h1 h2
  subst h1 h2
  rw [run_equalIn_int w d t k k _ _ (undr_int hT ht)]
  congr 1
 | bool =>
  obtain ⟨h1,_⟩:=h1
  obtain ⟨h2,_⟩:=h2
  simp only [List.cons.injEq,and_true] at h1 h2
  subst h1 h2
  obtain ⟨d',hd,hk⟩:=(hT t _ ht).desc
  have hu:P.underlying t=some .bool:=by
   cases e:P.underlying t with
   | none=>simp [e] at hd
   | some d2 =>
    simp only [e,Option.map_some,sI] at hd
    subst hd
    cases d2 <;> simp [dk,descOK] at hk ⊢
  rw [run_equalIn_bool' w d t _ _ hu]
  rfl
 | str =>
  obtain ⟨h1,_⟩:=h1
  obtain ⟨h2,_⟩:=h2
  simp only [List.cons.injEq,and_true] at h1 h2
  subst h1 h2
  rw [run_equalIn_string w d t _ _ (undr_str hT ht),str_eq]
  rfl
 | _=>simp [Ty.leaf] at hl
theorem fields_eq {tab:Nat→Option Ty} (hT:TabOK P tab){xs ys:Array Value}{H:Heap} (d:Nat):∀ (fs:List Field) (o:Nat) (s:Ty) (u v:s.D) (vs us:List Value),fldsOK tab o s (fs.map fun f=>(f.offset,f.type))=true→s.flat=true →
  (∀ f∈fs,f.name ≠ "_")→xs.toList.drop o=vs→ys.toList.drop o=us→Rep S H s vs u []→Rep S H s us v []→(Op.eqFields (d+1) xs ys fs).run P w=.ok (eqD s u v) w:=by
 intro fs
 induction fs with
 | nil =>
  intro o s u v vs us hf hfl _ _ _ _ _
  cases s <;> simp [fldsOK] at hf
  rfl
 | cons f fs ih =>
  intro o s u v vs us hf hfl hn hx hy h1 h2
  cases s with
  | pair a b =>
   simp only [List.map_cons,fldsOK,bA,beq_iff_eq] at hf
   obtain ⟨⟨ho,ht⟩,hf⟩:=hf
   simp only [Ty.flat,bA] at hfl
   obtain ⟨w1,w2,f1,f2,e1,e2,r1,r2⟩:=h1
   obtain ⟨z1,z2,g1,g2,e3,e4,r3,r4⟩:=h2
   have n1:a.size=1∧a.isAgg=false:=by
    have:=hfl.1
    cases a <;> first | exact ⟨rfl,rfl⟩ | (simp [Ty.leaf] at this)
   have l1:=r1.length
   have l2:=r3.length
   rw [n1.1] at l1 l2
   obtain ⟨c1,rfl⟩:=List.length_eq_one_iff.1 l1
   obtain ⟨c2,rfl⟩:=List.length_eq_one_iff.1 l2
   simp only [List.nil_eq,List.append_eq_nil_iff] at e2 e4
   obtain ⟨rfl,rfl⟩:=e2
   obtain ⟨rfl,rfl⟩:=e4
   have hxo:xs[o]?=some c1:=by
    rw [← Array.getElem?_toList]
    have:=congrArg (fun l=>l[0]?) hx
    simpa [e1] using this
   have hyo:ys[o]?=some c2:=by
    rw [← Array.getElem?_toList]
    have:=congrArg (fun l=>l[0]?) hy
    simpa [e3] using this
   have hag:=(hT f.type a ht).agg (w:=w)
   have p1:(part f.type xs f.offset).run P w=.ok c1 w:=by
    rw [ho]
    simp [part,hag,n1.2,hxo]
   have p2:(part f.type ys f.offset).run P w=.ok c2 w:=by
    rw [ho]
    simp [part,hag,n1.2,hyo]
   have hn1:f.name ≠ "_":=hn f (by simp)
   have q:=leaf_eq (P:=P) (w:=w) hT ht hfl.1 r1 r3 d
   have hdx:xs.toList.drop (o+a.size)=w2:=by
    rw [n1.1,← List.drop_drop,hx,e1];rfl
   have hdy:ys.toList.drop (o+a.size)=z2:=by
    rw [n1.1,← List.drop_drop,hy,e3];rfl
   have rest:=ih (o+a.size) b u.2 v.2 w2 z2 hf hfl.2 (fun f hf=>hn f (by simp [hf])) hdx hdy r2 r4
   simp only [Op.eqFields,if_pos hn1,Sem.run_bind,p1,Result.andThen_ok,p2,q,Sem.run_ite]
   cases hq:eqL a u.1 v.1 with
   | true =>
    simp only [bN,bF,if_false]
    rw [rest]
    simp [eqD,hq]
   | false=>simp [eqD,hq]
  | _=>simp [fldsOK] at hf
theorem aggK_run (hT:TabOK P C.tab){op:BinOp}{t:Nat}{x y:AV}{tv:TV} (h:aggK C op t x y some=some tv){vx vy:Value}{H:Heap}{roots:Nat→Option Root} (hx:VRel S H pls roots vx x) (hy:VRel S H pls roots vy y) (ox oy:Operand) :
  ∃ v,(∀ w,((do eqGuard op t ox oy vx vy;binOp op t vx vy):Sem Value).run P w=.ok v w)∧TRel S H pls roots v tv:=by
 unfold aggK at h
 split at h
 ·rename_i a b u a' b' v
  split at h
  ·rename_i he
   cases he
   split at h
   ·rename_i hc
    obtain ⟨hfl,htab⟩:=hc
    obtain ⟨vs,rfl,r1⟩:=hx
    obtain ⟨us,rfl,r2⟩:=hy
    have hrow:=hT t _ htab
    obtain ⟨c1,c2,c3⟩:=hrow.cmp hfl
    obtain ⟨d,hd,hk⟩:=hrow.desc
    have hund:∃ fs,P.underlying t=some (.struct fs)∧fldsOK C.tab 0 (.pair a b) (fs.toList.map fun f=>(f.offset,f.type))=true:=by
     cases e:P.underlying t with
     | none=>simp [e] at hd
     | some d2 =>
      simp only [e,Option.map_some,sI] at hd
      subst hd
      cases d2 <;> simp only [dk,descOK,bF] at hk
      exact ⟨_,rfl,hk⟩
    obtain ⟨fs,hu,hfs⟩:=hund
    have hfo:P.fieldsOf t=fs:=by simp [Program.fieldsOf,hu]
    rw [hfo] at c3
    have hrun:∀ w,(Op.equalIn 10000 t (.agg vs.toArray) (.agg us.toArray)).run P w=.ok (eqD (.pair a b) u v) w:=by
     intro w
     rw [run_equalIn_struct w 9999 t _ _ (by rw [hfo];exact hu) c1,hfo]
     exact fields_eq (P:=P) (w:=w) hT 9998 fs.toList 0 (.pair a b) u v vs us hfs hfl (fun f hf=>by have:=List.all_eq_true.1 c3 f hf;simpa using this) (by simp) (by simp) r1 r2
    have hg:=fun w=>run_eqGuard_agg (P:=P) w op t ox oy vs.toArray us.toArray c2
    have e1:valOf (.pair a b) vs=.agg vs.toArray:=rfl
    have e2:valOf (.pair a b) us=.agg us.toArray:=rfl
    rw [e1,e2]
    split at h
    ·cases h
     exact ⟨_,fun w=>by simp only [Sem.run_bind,hg,Result.andThen_ok,run_eql_struct,hrun],tbool _⟩
    ·cases h
     exact ⟨_,fun w=>by simp only [Sem.run_bind,hg,Result.andThen_ok,run_neq_struct,hrun],tbool _⟩
    ·cases h
   ·cases h
  ·cases h
 ·rename_i u v
  rw [vbool_inv hx,vbool_inv hy]
  split at h
  ·rename_i htab
   have hu:P.underlying t=some .bool:=by
    obtain ⟨d,hd,hk⟩:=(hT t _ htab).desc
    cases e:P.underlying t with
    | none=>simp [e] at hd
    | some d2 =>
     simp only [e,Option.map_some,sI] at hd
     subst hd
     cases d2 <;> simp only [dk,descOK,bF] at hk
     rfl
   have hd:(u == v)=decide (u=v):=by cases u <;> cases v <;> rfl
   split at h
   ·cases h
    exact ⟨_,fun w=>by have h1:=run_eql_bool w t u v hu;rw [hd] at h1;simp [eqGuard,h1,Result.andThen],tbool _⟩
   ·cases h
    exact ⟨_,fun w=>by have h1:=run_neq_bool w t u v hu;rw [hd] at h1;simp [eqGuard,h1,Result.andThen],tbool _⟩
   ·cases h
  ·cases h
 ·cases h
def rdRoot (st:St):Op→Option Nat
 | .load _ x=>match opnd st x with
  | .a (.ptr id _)=>some id
  | _=>none
 | .convert _ _ x=>match opnd st x with
  | .a (.ref id _)=>some id
  | _=>none
 | _=>none
def Same (S:Stab) (X:Nat→List Nat) (st:St) (op:Op) (w w':World):Prop :=
 (∀ m b,S m b→hp w' b=hp w b)∧∀ id,rdRoot st op=some id→∀ b∈X id,hp w' b=hp w b
theorem RootRel.loc' {H:Heap}{pl:Pl}{r:Root}{Y:List Nat} (h:RootRel S H pl r Y){vs:List Value}{l:Option (Nat×Nat)} (hh:Holds H pl r.τ.size vs l) :
  ∀ B o,l=some (B,o)→B∈Y:=by
 obtain ⟨k,τ,x⟩:=r
 cases k <;> cases pl <;> simp only [RootRel] at h
 ·obtain ⟨vs',l',fp,h1,h2,rfl⟩:=h
  obtain ⟨_,_,rfl,_⟩:=hh
  intro B o e
  simp only [sI,Prod.mk.injEq] at e
  simp [e.1]
 ·obtain ⟨_,rfl⟩:=hh
  intro B o e;cases e
theorem place_mem {H:Heap}{pl:Pl}{r:Root}{Y:List Nat} (h:RootRel S H pl r Y){p:Path}{σ:Ty}{y:σ.D}{vs vs':List Value}{l:Option (Nat×Nat)}{b off:Nat} (hv:Valid p r.τ r.x) (hh:Holds H pl r.τ.size vs l)
  (hat:At H p r.τ vs l vs' (some (b,off))) (hg:getP p r.τ r.x=some ⟨σ,y⟩):b∈Y:=by
 have key:∀ (p:Path){τ:Ty}{x:τ.D}{vs:List Value}{fp:List Nat}{l:Option (Nat×Nat)},Rep S H τ vs x fp→Valid p τ x→At H p τ vs l vs' (some (b,off))→(∃ o,l=some (b,o))∨b∈fp:=by
  intro p
  induction p with
  | nil=>rintro τ x vs fp l _ _ ⟨_,h⟩;exact .inl ⟨off,h.symm⟩
  | cons s p ih =>
   intro τ x vs fp l hr hv ha
   cases s with
   | L =>
    cases τ <;> simp only [Valid] at hv
    obtain ⟨v1,v2,f1,f2,rfl,rfl,h1,h2⟩:=hr
    simp only [At] at ha
    rw [← h1.length,List.take_left] at ha
    rcases ih h1 hv ha with h | h
    ·exact .inl h
    ·exact .inr (by simp [h])
   | R =>
    cases τ <;> simp only [Valid] at hv
    obtain ⟨v1,v2,f1,f2,rfl,rfl,h1,h2⟩:=hr
    simp only [At] at ha
    rw [← h1.length,List.drop_left] at ha
    rcases ih h2 hv ha with ⟨o,h⟩ | h
    ·cases l with
     | none=>simp at h
     | some q =>
      simp only [Option.map_some,sI,Prod.mk.injEq] at h
      exact .inl ⟨q.2,by rw [← h.1]⟩
    ·exact .inr (by simp [h])
   | ix i =>
    cases τ with
    | sl m e =>
     cases m <;> simp only [Valid] at hv
     obtain ⟨hi,hv⟩:=hv
     obtain ⟨pa,len,cap,rfl,hl1,hc,hh⟩:=hr
     obtain ⟨b1,o1,len1,cap1,c,el,fr,e1,hb,ha⟩:=ha
     simp only [List.cons.injEq,Value.slice.injEq,and_true] at e1
     obtain ⟨rfl,rfl,rfl⟩:=e1
     rcases hh with ⟨h,_⟩ | ⟨b2,o2,c2,el2,fr2,f2,e2,hb2,hsz,hr,h⟩
     ·omega
     simp only [sI,Addr.mk.injEq,and_true] at e2
     obtain ⟨rfl,rfl⟩:=e2
     rw [hb] at hb2;simp only [sI,Obj.cells.injEq] at hb2
     obtain ⟨rfl,rfl,rfl⟩:=hb2
     obtain ⟨g1,f',g2,g3⟩:=getD_row hr hi
     rcases h with ⟨h,_⟩ | ⟨_,_,rfl⟩
     ·simp at h
     rw [List.drop_drop] at g2
     rcases ih g2 hv ha with ⟨o,h⟩ | h
     ·simp only [sI,Prod.mk.injEq] at h
      exact .inr (by simp [h.1])
     ·exact .inr (by simp [g3 b h])
    | _=>simp [Valid] at hv
 obtain ⟨v1,l1,fp,k1,k2,k3⟩:=h.holds
 obtain ⟨rfl,rfl⟩:=k1.det hh
 rcases key p k2 hv hat with ⟨o,e⟩ | e
 ·exact h.loc' hh b o e
 ·exact k3 b e
theorem pure_run (hT:TabOK P C.tab) (hI:Inv C w0 G st a w S pls X){o:Oper}{tv:TV} (h:pureK C st o.op some=some tv) :
  ∃ v,(∀ w',Same S X st o.op w w'→(execOp a.eval o).run P w'=.ok (.value v) w')∧TRel S (hp w) pls st.roots v tv:=by
 obtain ⟨dst,op,ty,pos,after,guard⟩:=o
 cases op <;> simp only [pureK] at h
 case move x=>cases h;exact ⟨_,fun _ _=>rfl,hI.opnd x⟩
 case assign x=>cases h;exact ⟨_,fun _ _=>rfl,hI.opnd x⟩
 case pick c x y =>
  have hc:=hI.opnd c
  split at h
  ·rename_i b he
   rw [he] at hc
   have hc:=vbool_inv (pls:=pls) (roots:=st.roots) hc
   simp only [execOp,hc,asBool]
   cases b <;> simp at h <;> cases h
   ·exact ⟨_,fun _ _=>rfl,hI.opnd y⟩
   ·exact ⟨_,fun _ _=>rfl,hI.opnd x⟩
  ·cases h
 case nilCheck x =>
  have hx:=hI.opnd x
  split at h
  ·rename_i id p he
   rw [he] at hx
   cases h
   have hx':=hx
   obtain ⟨r,hr,σ,y,vs,l,vs',b,off,h1,h2,h3,h4,h5⟩:=hx
   refine ⟨_,?_,(show TRel S (hp w) pls st.roots (a.eval x) (.a (.ptr id p)) from hx')⟩
   intro w' _;simp [execOp,h5]
  ·rename_i τ y he
   cases h
   rw [he] at hx
   obtain ⟨b,off,c,el,fr,e,rest⟩:=hx
   refine ⟨_,?_,show TRel S (hp w) pls st.roots (.pointer (some ⟨b,off,none⟩)) (.a (.sptr τ y)) from ⟨b,off,c,el,fr,rfl,rest⟩⟩
   intro w' _;simp [execOp,e]
  ·cases h
 case extract x i =>
  have hx:=hI.opnd x
  split at h
  ·rename_i l he
   rw [he] at hx
   obtain ⟨vs,e,hl⟩:=hx
   split at h
   ·rename_i v hv
    cases h
    have key:∀ (vs:List Value) (l:List AV) (i:Nat),LRel S (hp w) pls st.roots vs l→l[i]?=some v→∃ u,vs[i]?=some u∧VRel S (hp w) pls st.roots u v:=by
     intro vs
     induction vs with
     | nil=>intro l i hl hv;cases l <;> simp [LRel] at hl;simp at hv
     | cons u us ih =>
      intro l i hl hv
      cases l with
      | nil=>simp [LRel] at hl
      | cons q qs =>
       cases i with
       | zero=>simp at hv;subst hv;exact ⟨u,by simp,hl.1⟩
       | succ i=>simp at hv;simpa using ih qs i hl.2 hv
    obtain ⟨u,h1,h2⟩:=key vs l i hl hv
    exact ⟨u,fun w' _=>by simp [execOp,e,Instr.extract,h1],h2⟩
   ·cases h
  ·cases h
 case binOp op t x y t2 =>
  have hx:=hI.opnd x
  have hy:=hI.opnd y
  split at h
  ·rename_i a1 b1 u ay e1 e2
   rw [e1] at hx;rw [e2] at hy
   obtain ⟨v,h1,h2⟩:=aggK_run (P:=P) hT h hx hy x y
   exact ⟨v,fun w' _=>by simp only [execOp,Sem.run_bind,h1,Result.andThen_ok,Sem.run_pure],h2⟩
  ·rename_i u ay e1 e2
   rw [e1] at hx;rw [e2] at hy
   obtain ⟨v,h1,h2⟩:=aggK_run (P:=P) hT h hx hy x y
   exact ⟨v,fun w' _=>by simp only [execOp,Sem.run_bind,h1,Result.andThen_ok,Sem.run_pure],h2⟩
  ·rename_i ax ay _ e1 e2
   rw [e1] at hx;rw [e2] at hy
   obtain ⟨v,h1,h2⟩:=binK_run (P:=P) h hx hy t x y
   exact ⟨v,fun w' _=>by simp only [execOp,Sem.run_bind,h1,Result.andThen_ok,Sem.run_pure],h2⟩
  ·cases h
 case unOp op t x =>
  have hx:=hI.opnd x
  split at h
  ·rename_i ax e1
   rw [e1] at hx
   obtain ⟨v,h1,h2⟩:=unK_run (P:=P) h hx
   exact ⟨v,fun w' _=>by simp only [execOp,Sem.run_bind,h1,Result.andThen_ok,Sem.run_pure],h2⟩
  ·cases h
 case load t x =>
  have hx:=hI.opnd x
  split at h
  ·rename_i id p he
   rw [he] at hx
   split at h
   ·rename_i r hr
    split at h
    ·rename_i σ y hg
     split at h
     ·rename_i hlike
      obtain ⟨s,hs,hsz,hag⟩:=likeTy_spec hlike
      obtain ⟨b,off,c,el,fr,vs',e1,e2,e3,e4,⟨vs,l,hh,hat⟩,hv,f',hrep,hf⟩:=hI.ptr hx hr hg
      have hbX:b∈X id:=place_mem (hI.roots id r hr) hv hh hat hg
      have hex:∀ w',Same S X st (.load t x) w w'→(execOp a.eval ⟨dst,.load t x,ty,pos,after,guard⟩).run P w'=.ok (.value (valOf σ vs')) w':=by
       intro w' hw
       have e2':hp w' b=some (.cells c el fr):=by rw [hw.2 id (by simp [rdRoot,he]) b hbX];exact e2
       have hrun:=run_loadVar_at (P:=P) (hT t s hs) (el:=el) (fr:=fr) e2' (by rw [hsz];exact e3)
       rw [hsz,e4,valOf_like hag] at hrun
       simp [execOp,Instr.loadAt,e1,Instr.sureAddr,hrun]
      split at h
      ·rename_i hpl
       cases h
       have:=hrep.plain hpl;subst this
       exact ⟨_,hex,⟨vs',rfl,hrep⟩⟩
      ·cases h
       refine ⟨_,hex,?_⟩
       exact ⟨r,hr,_,_,vs,l,vs',_,hg,hv,hh,hat,rfl⟩
     ·cases h
    ·cases h
   ·cases h
  ·rename_i σ y he
   rw [he] at hx
   split at h
   ·rename_i hlike
    cases h
    obtain ⟨s,hs,hsz,hag⟩:=likeTy_spec hlike
    obtain ⟨b,off,c,el,fr,e1,e2,e3,e4,m,e5⟩:=hx
    refine ⟨_,?_,⟨_,rfl,e4⟩⟩
    intro w' hw
    have e2':hp w' b=some (.cells c el fr):=by rw [hw.1 m b e5];exact e2
    have hrun:=run_loadVar_at (P:=P) (hT t s hs) (el:=el) (fr:=fr) e2' (by rw [hsz];exact e3)
    rw [hsz,valOf_like hag] at hrun
    simp [execOp,Instr.loadAt,e1,Instr.sureAddr,hrun]
   ·cases h
  ·cases h
 case fieldAddr t x k =>
  have hx:=hI.opnd x
  split at h
  ·rename_i id p he
   rw [he] at hx
   split at h
   ·rename_i r hr
    split at h
    ·rename_i σ y hg
     split at h
     ·rename_i s f hs hf
      split at h
      ·rename_i hc
       cases h
       obtain ⟨c1,c2,c3⟩:=hc
       obtain ⟨b,off,c,el,fr,vs',e1,e2,e3,e4,⟨vs,l,hh,hat⟩,hv,f',hrep,hff⟩:=hI.ptr hx hr hg
       cases hsf:s.fld k with
       | none=>simp [hsf] at c2
       | some f2 =>
        simp [hsf] at c2
        have hrun:=fun w'=>run_fieldAt (P:=P) hT hs hsf (by omega) b off w'
        simp only [c1] at hrun
        obtain ⟨⟨z,q1⟩,q2,q3⟩:=fld_path hf y (hp w) vs' b off hrep.length
        refine ⟨_,fun w' _=>by simp [execOp,e1,hrun];rfl,?_⟩
        exact ⟨r,hr,f,z,vs,l,_,b,_,by rw [getP_append p _ hg];exact q1,valid_append p _ hg hv q2,hh,at_append p _ hg hat q3,rfl⟩
      ·cases h
     ·cases h
    ·cases h
   ·cases h
  ·rename_i σ y he
   rw [he] at hx
   split at h
   ·rename_i s f z hs hf
    split at h
    ·rename_i hc
     cases h
     obtain ⟨c1,c2,c3⟩:=hc
     obtain ⟨b,off,c,el,fr,e1,e2,e3,e4,m,e5⟩:=hx
     obtain ⟨q1,q2,q3⟩:=fldV_spec hf
     cases hsf:s.fld k with
     | none=>simp [hsf] at c2
     | some f2 =>
      simp [hsf] at c2
      have hrun:=fun w'=>run_fieldAt (P:=P) hT hs hsf (by omega) b off w'
      simp only [c1] at hrun
      refine ⟨_,fun w' _=>by simp [execOp,e1,hrun];rfl,⟨b,_,c,el,fr,rfl,e2,by omega,?_,m,e5⟩⟩
      have:=q3 e4
      rw [List.drop_take,List.take_take,List.drop_drop,Nat.min_eq_left (by omega)] at this
      exact this
    ·cases h
   ·cases h
  ·cases h
 case field t x k =>
  have hx:=hI.opnd x
  split at h
  ·rename_i id p he
   rw [he] at hx
   split at h
   ·rename_i r hr
    split at h
    ·rename_i σ y hg
     split at h
     ·rename_i s f z hs hf
      split at h
      ·rename_i hc
       obtain ⟨c1,c2,c3,c4⟩:=hc
       obtain ⟨r',hr',σ',y',vs,l,vs',l',g1,g2,g3,g4,g5⟩:=hx
       rw [hr] at hr';cases hr'
       rw [hg] at g1;cases g1
       obtain ⟨f',hrep,hff⟩:=(hI.roots id r hr).at g3 g2 hg g4
       obtain ⟨q1,q2,q3⟩:=fldV_spec hf
       cases hsf:s.fld k with
       | none=>simp [hsf] at c2
       | some f2 =>
        simp [hsf] at c2 c3
        obtain ⟨fields,fd,h1,h2,h3,h4⟩:=(hT t s hs).field hsf
        have hag:=fun w'=>(hT _ _ h4).agg (w:=w')
        have hsz:=fun w'=>(hT _ _ h4).size (w:=w')
        have hva:valOf σ vs'=.agg vs'.toArray:=by
         cases σ <;> first | (simp [valOf,Ty.isAgg];done) | (simp [fldV] at hf)
        have hl:=hrep.length
        have hrun:∀ w',(execOp a.eval ⟨dst,.field t x k,ty,pos,after,guard⟩).run P w'=.ok (.value (valOf f ((vs'.drop (σ.offs k)).take f.size))) w':=by
         intro w'
         simp only [execOp,g5,hva,Instr.field,Sem.run_bind,h1,Result.andThen_ok,h2,asAgg,Sem.run_pure,part,hag,Sem.run_ite,hsz,h3,c1,c2]
         cases hfa:f.isAgg with
         | true =>
          rw [c3,hfa]
          simp only [if_true,Result.andThen_ok,valOf,hfa]
          congr 3
          apply Array.ext'
          rw [Array.toList_extract,List.toList_toArray,List.extract_eq_take_drop]
          congr 1
          omega
         | false =>
          rw [c3,hfa]
          have h1s:f.size=1:=by cases f <;> first | rfl | (simp [Ty.isAgg] at hfa)
          have hlt:σ.offs k<vs'.length:=by omega
          simp only [bF,if_false,valOf,hfa,h1s]
          simp [hlt,List.take_one,List.head?_drop]
        obtain ⟨p1,p2,p3⟩:=fld_pathL q1 y (hp w) vs' l' hl
        split at h
        ·rename_i hpl
         cases h
         refine ⟨_,fun w' _=>hrun w',⟨_,rfl,?_⟩⟩
         have hh:=hrep.get (fieldPath k) l' p1 (p2 z hf)
         obtain ⟨va,la,f1,f2',f3,e1,e2,e3⟩:=hh
         obtain ⟨rfl,rfl⟩:=e2.det _ p3
         have:=e3.plain hpl
         subst this
         exact e3
        ·cases h
         exact ⟨_,fun w' _=>hrun w',⟨r,hr,f,z,vs,l,_,_,by rw [getP_append p _ hg];exact p2 z hf,valid_append p _ hg g2 p1,g3,at_append p _ hg g4 p3,rfl⟩⟩
      ·cases h
     ·cases h
    ·cases h
   ·cases h
  ·rename_i σ y he
   rw [he] at hx
   obtain ⟨vs,e1,e2⟩:=hx
   split at h
   ·rename_i s f z hs hf
    split at h
    ·rename_i hc
     cases h
     obtain ⟨c1,c2,c3,c4⟩:=hc
     obtain ⟨q1,q2,q3⟩:=fldV_spec hf
     cases hsf:s.fld k with
     | none=>simp [hsf] at c2
     | some f2 =>
      simp [hsf] at c2 c3
      obtain ⟨fields,fd,h1,h2,h3,h4⟩:=(hT t s hs).field hsf
      have hag:=fun w'=>(hT _ _ h4).agg (w:=w')
      have hsz:=fun w'=>(hT _ _ h4).size (w:=w')
      have hva:valOf σ vs=.agg vs.toArray:=by
       cases σ <;> first | (simp [valOf,Ty.isAgg];done) | (simp [fldV] at hf)
      have hl:=e2.length
      refine ⟨valOf f ((vs.drop (σ.offs k)).take f.size),?_,⟨_,rfl,q3 e2⟩⟩
      intro w' _
      simp only [execOp,e1,hva,Instr.field,Sem.run_bind,h1,Result.andThen_ok,h2,asAgg,Sem.run_pure,part,hag,Sem.run_ite,hsz,h3,c1,c2]
      cases hfa:f.isAgg with
      | true =>
       rw [c3,hfa]
       simp only [if_true,Result.andThen_ok,valOf,hfa]
       congr 3
       apply Array.ext'
       rw [Array.toList_extract,List.toList_toArray,List.extract_eq_take_drop]
       congr 1
       omega
      | false =>
       rw [c3,hfa]
       have h1s:f.size=1:=by cases f <;> first | rfl | (simp [Ty.isAgg] at hfa)
       have hlt:σ.offs k<vs.length:=by omega
       simp only [bF,if_false,valOf,hfa,h1s]
       simp [hlt,List.take_one,List.head?_drop]
    ·cases h
   ·cases h
  ·cases h
 case indexAddr t x i =>
  have hx:=hI.opnd x
  have hi:=hI.opnd i
  split at h
  ·rename_i m e xs k n he1 he2
   rw [he1] at hx;rw [he2] at hi
   have hi:=vint_inv (pls:=pls) (roots:=st.roots) hi
   split at h
   ·rename_i m' s hs
    split at h
    ·rename_i hc
     obtain ⟨c1,c2⟩:=hc
     split at h
     ·rename_i hb
      cases h
      obtain ⟨b1,b2,hlt⟩:=inB_spec hb
      obtain ⟨p,len,cap,e1,e2,e3,e4⟩:=vsl_inv (pls:=pls) (roots:=st.roots) hx
      rcases e4 with rfl | ⟨b,off,c,el,fr,rfl,f1,f2,f3⟩
      ·omega
      ·obtain ⟨f4,f5⟩:=f3 c1
       obtain ⟨g1,f',g2,g3⟩:=getD_row f4 hlt
       have:f'=[]:=by
        cases f' with
        | nil=>rfl
        | cons q qs=>have:=g3 q (by simp);simp at this
       subst this
       have hrun:=fun w'=>run_indexAt (P:=P) hT hs b off len cap k n b1 (by omega) w'
       simp only [c2] at hrun
       refine ⟨_,fun w' _=>by simp only [execOp,e1,hi,Sem.run_bind,hrun,Result.andThen_ok,Sem.run_pure];rfl,⟨b,_,c,el,fr,rfl,f1,?_,?_,m,f5⟩⟩
       ·simp at g1
        have:n.toNat*e.size+e.size≤cap*e.size:=by
         have:=Nat.mul_le_mul_right e.size (show n.toNat+1≤cap by omega);rw [Nat.succ_mul] at this;exact this
        omega
       ·rw [List.drop_drop] at g2;exact g2
     ·cases h
    ·cases h
   ·cases h
  ·rename_i id p k n he1 he2
   rw [he1] at hx;rw [he2] at hi
   have hi:=vint_inv (pls:=pls) (roots:=st.roots) hi
   split at h
   ·rename_i r hr
    split at h
    ·rename_i e xs hg
     split at h
     ·rename_i m' s hs
      split at h
      ·rename_i c2
       split at h
       ·rename_i hb
        cases h
        obtain ⟨b1,b2,hlt⟩:=inB_spec hb
        obtain ⟨r',hr',σ,y,vs,l,vs',l',g1,g2,g3,g4,g5⟩:=hx
        rw [hr] at hr';cases hr'
        rw [hg] at g1;cases g1
        obtain ⟨f',hrep,hff⟩:=(hI.roots id r hr).at g3 g2 hg g4
        have hrep':=hrep
        obtain ⟨pa,len,cap,rfl,e2,e3,e4⟩:=hrep
        rcases e4 with ⟨rfl,_⟩ | ⟨b,off,c,el,fr,f2,rfl,f1,f2,f3,f4⟩
        ·omega
        ·have hrun:=fun w'=>run_indexAt (P:=P) hT hs b off len cap k n b1 (by omega) w'
         simp only [c2] at hrun
         have g5':a.eval x=.slice (some ⟨b,off,none⟩) len cap:=by rw [g5];simp [valOf,Ty.isAgg]
         refine ⟨_,fun w' _=>by simp only [execOp,g5',hi,Sem.run_bind,hrun,Result.andThen_ok,Sem.run_pure];rfl,?_⟩
         refine ⟨r,hr,e,List.getD xs n.toNat e.dflt,vs,l,_,b,_,by rw [getP_append p _ hg];rfl,valid_append p _ hg g2 ⟨hlt,trivial⟩,g3,at_append p _ hg g4 ⟨b,off,len,cap,c,el,fr,rfl,f1,rfl,rfl⟩,rfl⟩
       ·cases h
      ·cases h
     ·cases h
    ·cases h
   ·cases h
  ·cases h
 case index t x i =>
  have hx:=hI.opnd x
  have hi:=hI.opnd i
  split at h
  ·rename_i s k n he1 he2
   rw [he1] at hx;rw [he2] at hi
   have hi:=vint_inv (pls:=pls) (roots:=st.roots) hi
   have hx:=vstr_inv (pls:=pls) (roots:=st.roots) hx
   split at h
   ·rename_i hs
    split at h
    ·rename_i hb
     cases h
     obtain ⟨d,hd,hk⟩:=(hT t _ hs).under
     have hd':d=.string:=by cases d <;> simp [dk,descOK] at hk ⊢
     subst hd'
     obtain ⟨b1,b2,hlt⟩:=inB_spec hb
     refine ⟨.int .u8 (bt s n),?_,tint _⟩
     intro w' _
     simp only [execOp,hx,hi,Instr.index,asIntOf,Sem.run_bind,Sem.run_pure,Result.andThen_ok,hd]
     have:s[n.toNat]?=some s[n.toNat]:=by
      rw [getElem?_pos]
     simp [hb.1,this,bt]
    ·cases h
   ·cases h
  ·cases h
 case slice t x lo hi mx =>
  have hx:=hI.opnd x
  have hbnd:∀ (q:Option Operand) (d n:Int),bnd st q d=some n→(q=none∧n=d)∨∃ o k,q=some o∧a.eval o=.int k n:=by
   intro q d n hq
   unfold bnd at hq
   split at hq
   ·cases hq;exact .inl ⟨rfl,rfl⟩
   ·rename_i o
    split at hq
    ·rename_i k i ho
     cases hq
     have:=hI.opnd o
     rw [ho] at this
     exact .inr ⟨o,k,rfl,vint_inv (pls:=pls) (roots:=st.roots) this⟩
    ·cases hq
  have hsb:∀ (b:Bool) (len cap:Nat) (l q:Int),len≤cap→bnd st lo 0=some l→bnd st hi (len:Int)=some q→cutB l q len →
    ∀ w,(Instr.sliceBounds b len cap (lo.map a.eval) (hi.map a.eval) none).run P w=.ok (l.toNat,q.toNat,cap) w:=by
   rintro b len cap l q hlc hl hh ⟨c1,c2,c3⟩ w
   have r1:∀ (v:Value) (k:IntKind) (n:Int) (y:Nat) (code:BoundsCode),v=.int k n→0≤n→n≤(y:Int)→(Instr.sliceBound v y code).run P w=.ok n.toNat w:=by
    rintro v k n y code rfl q1 q2
    simp [Instr.sliceBound,asIntOf,q1,q2]
   rcases hbnd lo 0 l hl with ⟨rfl,rfl⟩ | ⟨ol,kl,rfl,el⟩ <;> rcases hbnd hi len q hh with ⟨rfl,rfl⟩ | ⟨oh,kh,rfl,eh⟩
   ·simp [Instr.sliceBounds]
   ·simp only [Instr.sliceBounds,Option.map_none,Option.map_some,Sem.run_bind,Sem.run_pure,Result.andThen_ok]
    rw [r1 _ kh q _ _ eh (by omega) (by omega)]
    simp
   ·simp only [Instr.sliceBounds,Option.map_none,Option.map_some,Sem.run_bind,Sem.run_pure,Result.andThen_ok]
    rw [r1 _ kl l _ _ el (by omega) (by omega)]
    simp
   ·simp only [Instr.sliceBounds,Option.map_some,Sem.run_bind,Sem.run_pure,Result.andThen_ok]
    rw [r1 _ kh q _ _ eh (by omega) (by omega)]
    simp only [Result.andThen_ok]
    rw [r1 _ kl l _ _ el (by omega) (by omega)]
    simp
  split at h
  ·cases h
  unfold sliceK at h
  split at h
  ·rename_i s he hs
   rw [he] at hx
   have hx:=vstr_inv (pls:=pls) (roots:=st.roots) hx
   split at h
   ·rename_i l hh hl hhh
    split at h
    ·rename_i hc
     cases h
     obtain ⟨d,hd,hk⟩:=(hT t _ hs).under
     have hd':d=.string:=by cases d <;> simp [dk,descOK] at hk ⊢
     subst hd'
     have hb:=hsb false s.size s.size l hh (Nat.le_refl _) hl hhh hc
     refine ⟨.string (s.extract l.toNat hh.toNat),?_,tstr _⟩
     intro w' _
     simp only [execOp,hx,Instr.sliceAt,Sem.run_bind,hd,Result.andThen_ok,Instr.slice,Option.map_none,Option.isSome_none,bF,if_false,Sem.run_pure,hb]
    ·cases h
   ·cases h
  ·rename_i m e xs m' s he hs
   rw [he] at hx
   split at h
   ·rename_i l hh hl hhh
    split at h
    ·rename_i hm
     split at h
     ·rename_i hc
      cases h
      obtain ⟨d,hd,hk⟩:=(hT t _ hs).under
      cases d with
      | slice el =>
       simp only [dk,descOK,beq_iff_eq] at hk
       have h5:=fun w'=>(hT _ _ hk).size (w:=w')
       obtain ⟨p,len,cap,e1,e2,e3,e4⟩:=vsl_inv (pls:=pls) (roots:=st.roots) hx
       have hb:=hsb true len cap l hh e3 hl (by rw [e2];exact hhh) (by rw [e2];exact hc)
       obtain ⟨c1,c2,c3⟩:(0:Int)≤l∧(l:Int)≤(hh:Int)∧(hh:Int)≤(List.length xs:Int):=hc
       have hlen:((List.take hh.toNat xs).drop l.toNat).length=hh.toNat-l.toNat:=by simp;omega
       refine ⟨.slice (if cap=l.toNat then p else p.map (·.add (l.toNat*s.size))) (hh.toNat-l.toNat) (cap-l.toNat),fun w' _=>by simp only [execOp,e1,Instr.sliceAt,Sem.run_bind,hd,Result.andThen_ok,Instr.slice,Option.map_none,hb,h5,Sem.run_pure],?_⟩
       refine ⟨[.slice (if cap=l.toNat then p else p.map (·.add (l.toNat*s.size))) (hh.toNat-l.toNat) (cap-l.toNat)],by simp [valOf,Ty.isAgg],_,_,_,rfl,hlen.symm,by omega,?_⟩
       rcases e4 with rfl | ⟨b,off,c,el',fr,rfl,f1,f2,f3⟩
       ·exact .inl ⟨by omega,rfl⟩
       ·obtain ⟨f4,f5⟩:=f3 hm.1
        have hcut:∀ (cs:List Value) (ys:List e.D) (q:Nat),Rows (Rep S (hp w) e) e.size cs ys []→Rows (Rep S (hp w) e) e.size cs (ys.take q) []:=by
         intro cs ys
         induction ys generalizing cs with
         | nil=>intro q hr;simpa using hr
         | cons y ys ih =>
          rintro q ⟨g1,g2,hg,r1,r2⟩
          simp only [List.nil_eq,List.append_eq_nil_iff] at hg
          obtain ⟨rfl,rfl⟩:=hg
          cases q with
          | zero=>rfl
          | succ q=>exact ⟨[],[],rfl,r1,ih _ q r2⟩
        have hdrop:∀ (q:Nat) (cs:List Value) (ys:List e.D),Rows (Rep S (hp w) e) e.size cs ys []→Rows (Rep S (hp w) e) e.size (cs.drop (q*e.size)) (ys.drop q) []:=by
         intro q
         induction q with
         | zero=>intro cs ys hr;simpa using hr
         | succ q ih =>
          intro cs ys hr
          cases ys with
          | nil=>simp [Rows]
          | cons y ys =>
           obtain ⟨g1,g2,hg,r1,r2⟩:=hr
           simp only [List.nil_eq,List.append_eq_nil_iff] at hg
           obtain ⟨rfl,rfl⟩:=hg
           have:=ih _ _ r2
           rw [List.drop_drop] at this
           rw [show (q+1)*e.size=e.size+q*e.size by rw [Nat.add_mul];omega]
           exact this
        have hrow:=hdrop l.toNat _ _ (hcut _ _ hh.toNat f4)
        rw [List.drop_drop] at hrow
        by_cases hcl:cap=l.toNat
        ·refine .inr ⟨b,off,c,el',fr,[],by rw [if_pos hcl],f1,?_,?_,.inl ⟨hm.1,f5,rfl,rfl⟩⟩
         ·rw [hcl];simp;omega
         ·have:(List.take hh.toNat xs).drop l.toNat=[]:=by
           apply List.eq_nil_of_length_eq_zero;rw [hlen];omega
          rw [this];rfl
        refine .inr ⟨b,off+l.toNat*e.size,c,el',fr,[],by rw [if_neg hcl,hm.2];simp [addr_add],f1,?_,hrow,.inl ⟨hm.1,f5,rfl,rfl⟩⟩
        ·have:=Nat.mul_le_mul_right e.size (show l.toNat+(cap-l.toNat)≤cap by omega)
         rw [Nat.add_mul] at this
         omega
      | _=>simp [dk,descOK] at hk
     ·cases h
    ·cases h
   ·cases h
  ·cases h
 case convert t t2 x =>
  have hx:=hI.opnd x
  split at h
  ·rename_i k n k0 k' he1 he0 he2
   rw [he1] at hx
   have hx:=vint_inv (pls:=pls) (roots:=st.roots) hx
   cases h
   obtain ⟨d,hd,hk⟩:=(hT t2 _ he2).under
   have hd':d=.int k':=by cases d <;> simp [dk,descOK] at hk ⊢;exact hk.symm
   subst hd'
   obtain ⟨d0,hd0,hk0⟩:=(hT t _ he0).under
   have hd0':d0=.int k0:=by cases d0 <;> simp [dk,descOK] at hk0 ⊢;exact hk0.symm
   subst hd0'
   refine ⟨.int k' (k'.wrap n),?_,tint _⟩
   intro w' _
   simp [execOp,hx,convert,hd,hd0,Conv.intToInt]
  ·rename_i u m0 he1 he0 he2
   rw [he1] at hx
   cases h
   obtain ⟨vs,e1,⟨p,rfl⟩,_⟩:=hx
   refine ⟨_,?_,tstr _⟩
   intro w' _
   have:=conv_bytes (P:=P) (w:=w') (S:=S) (m:=.keep) hT he0 he2 (val:=.slice p 0 0) (xs:=[]) (fp:=[]) ⟨p,0,0,rfl,rfl,Nat.le_refl _,.inl ⟨rfl,rfl⟩⟩
   simp only [execOp,e1,valOf,Ty.isAgg,bF,if_false,List.headD_cons,Sem.run_bind,this,Result.andThen_ok,Sem.run_pure]
  ·rename_i m xs m0 he1 he0 he2
   rw [he1] at hx
   split at h
   ·cases h
   ·cases h
    obtain ⟨vs,e1,e2⟩:=hx
    obtain ⟨v,rfl,e3⟩:=valOf_one (τ:=.sl m (.int .u8)) rfl e2.length
    refine ⟨_,?_,tstr _⟩
    intro w' hw
    have:=conv_bytes (P:=P) (w:=w') hT he0 he2 (e2.heap (H':=hp w') (fun m b h=>hw.1 m b h) (by simp))
    simp only [execOp,e1,e3,Sem.run_bind,this,Result.andThen_ok,Sem.run_pure]
  ·rename_i id p m0 he1 he0 he2
   rw [he1] at hx
   split at h
   ·rename_i r hr
    split at h
    ·rename_i xs hg
     cases h
     obtain ⟨r',hr',σ,y,vs,l,vs',l',g1,g2,g3,g4,g5⟩:=hx
     rw [hr] at hr';cases hr'
     rw [hg] at g1;cases g1
     obtain ⟨f',hrep,hff⟩:=(hI.roots id r hr).at g3 g2 hg g4
     obtain ⟨v,rfl,e3⟩:=valOf_one (τ:=.sl .own (.int .u8)) rfl hrep.length
     refine ⟨_,?_,tstr _⟩
     intro w' hw
     have:=conv_bytes (P:=P) (w:=w') hT he0 he2 (hrep.heap (H':=hp w') (fun m b h=>hw.1 m b h) (fun b hb=>hw.2 id (by simp [rdRoot,he1]) b (hff b hb)))
     simp only [execOp,g5,e3,Sem.run_bind,this,Result.andThen_ok,Sem.run_pure]
    ·cases h
   ·cases h
  ·cases h
 case call c =>
  obtain ⟨callee,args,argTypes⟩:=c
  split at h
  ·rename_i x t hc ha hat
   simp only at hc ha hat
   have ha:args=#[x]:=by cases args;simp at ha;subst ha;rfl
   have hat:argTypes=#[t]:=by cases argTypes;simp at hat;subst hat;rfl
   subst hc ha hat
   have hx:=hI.opnd x
   split at h
   ·rename_i ax he
    rw [he] at hx
    have hgo:∀ (n:Nat) (d:TypeDesc),(∀ w,(underlying t).run P w=.ok d w)→((d=.string∧∃ s:ByteArray,a.eval x=.string s∧n=s.size)∨(∃ el p cap,d=.slice el∧a.eval x=.slice p n cap)) →
      ∀ w',(execOp a.eval ⟨dst,.call ⟨.builtin .len,#[x],#[t]⟩,ty,pos,after,guard⟩).run P w'=.ok (.value (.int .i64 (n:Int))) w':=by
     intro n d hd hh w'
     rcases hh with ⟨rfl,s,hs,rfl⟩ | ⟨el,p,cap,rfl,hs⟩
     ·simp [execOp,resolve,invoke,builtin,Builtin.len_,hd,hs,goInt]
     ·simp [execOp,resolve,invoke,builtin,Builtin.len_,hd,hs,goInt]
    unfold lenK at h
    split at h
    ·rename_i s hs
     cases h
     obtain ⟨d,hd,hk⟩:=(hT t _ hs).under
     have hd':d=.string:=by cases d <;> simp [dk,descOK] at hk ⊢
     exact ⟨_,fun w' _=>hgo _ d hd (.inl ⟨hd',s,vstr_inv (pls:=pls) (roots:=st.roots) hx,rfl⟩) w',tint _⟩
    ·rename_i m0 s0 m e xs hs
     cases h
     obtain ⟨d,hd,hk⟩:=(hT t _ hs).under
     obtain ⟨p,len,cap,e1,e2,_⟩:=vsl_inv (pls:=pls) (roots:=st.roots) hx
     cases d <;> simp [dk,descOK] at hk
     exact ⟨_,fun w' _=>hgo _ _ hd (.inr ⟨_,p,cap,rfl,by rw [e1,e2]⟩) w',tint _⟩
    ·rename_i m0 s0 u hs
     cases h
     obtain ⟨d,hd,hk⟩:=(hT t _ hs).under
     obtain ⟨vs,e1,⟨pa,rfl⟩,_⟩:=hx
     cases d <;> simp [dk,descOK] at hk
     exact ⟨_,fun w' _=>hgo 0 _ hd (.inr ⟨_,pa,0,rfl,by rw [e1];simp [valOf,Ty.isAgg]⟩) w',tint _⟩
    ·rename_i m0 s0 id p hs
     split at h
     ·rename_i r hr
      split at h
      ·rename_i e xs hg
       cases h
       obtain ⟨d,hd,hk⟩:=(hT t _ hs).under
       obtain ⟨r',hr',σ,y,vs,l,vs',l',g1,g2,g3,g4,g5⟩:=hx
       rw [hr] at hr';cases hr'
       rw [hg] at g1;cases g1
       obtain ⟨f',⟨pa,len,cap,rfl,e2,_⟩,_⟩:=(hI.roots id r hr).at g3 g2 hg g4
       cases d <;> simp [dk,descOK] at hk
       exact ⟨_,fun w' _=>hgo _ _ hd (.inr ⟨_,pa,cap,rfl,by rw [g5,e2];simp [valOf,Ty.isAgg]⟩) w',tint _⟩
      ·cases h
     ·cases h
    ·cases h
   ·cases h
  ·rename_i x y hc ha
   simp only at hc ha
   have ha:args=#[x,y]:=by cases args;simp at ha;subst ha;rfl
   subst hc ha
   have hx:=hI.opnd x
   have hy:=hI.opnd y
   split at h
   ·rename_i k n k' n' he1 he2
    rw [he1] at hx;rw [he2] at hy
    have hx:=vint_inv (pls:=pls) (roots:=st.roots) hx
    have hy:=vint_inv (pls:=pls) (roots:=st.roots) hy
    split at h
    ·cases h
     exact ⟨_,fun w' _=>by simp [execOp,resolve,invoke,builtin,Builtin.min_,Builtin.min2,hx,hy];rfl,tint _⟩
    ·cases h
   ·cases h
  ·rename_i x y hc ha
   simp only at hc ha
   have ha:args=#[x,y]:=by cases args;simp at ha;subst ha;rfl
   subst hc ha
   have hx:=hI.opnd x
   have hy:=hI.opnd y
   split at h
   ·rename_i k n k' n' he1 he2
    rw [he1] at hx;rw [he2] at hy
    have hx:=vint_inv (pls:=pls) (roots:=st.roots) hx
    have hy:=vint_inv (pls:=pls) (roots:=st.roots) hy
    split at h
    ·cases h
     exact ⟨_,fun w' _=>by simp [execOp,resolve,invoke,builtin,Builtin.max_,Builtin.max2,hx,hy];rfl,tint _⟩
    ·cases h
   ·cases h
  ·cases h
 all_goals cases h
end
end Go.Rf
