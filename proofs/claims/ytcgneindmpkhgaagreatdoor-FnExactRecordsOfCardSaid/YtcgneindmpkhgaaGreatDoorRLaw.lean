/-
  The plain functions of words and names, of heaps and values: what they return.
-/
import Derived.Test.YtcgneindmpkhgaaGreatDoorRNat
import Derived.Lib.AtoiTie
import Derived.Lib.ItoaLen
set_option linter.unusedSimpArgs false
set_option linter.unusedVariables false
set_option autoImplicit false
namespace Go.Rf
theorem iter_to {A B C:Type}{f:A→Option (Step A B C)} (st:Nat→A){k n:Nat}:∀ {N:Nat},(∀ i,k≤i→i<n→f (st i)=some (.more (st (i+1))))→k≤n→n-k<N→iter f N (st k)=iter f (N-(n-k)) (st n):=by
 intro N h hkn hN
 induction hd:n-k generalizing k N with
 | zero =>
  have:k=n:=by omega
  subst this;simp
 | succ d ih =>
  cases N with
  | zero=>omega
  | succ N =>
   simp only [iter,h k (Nat.le_refl _) (by omega)]
   rw [ih (k:=k+1) (fun i hi hi'=>h i (by omega) hi') (by omega) (by omega) (by omega)]
   congr 1
   omega
theorem iter_done {A B C:Type}{f:A→Option (Step A B C)} (st:Nat→A){k n N:Nat}{b:B} (h:∀ i,k≤i→i<n→f (st i)=some (.more (st (i+1)))) (hkn:k≤n){x0:A} (hd:f (st n)=some (.done b)) (hN:n-k<N) (h0:x0=st k) :
  iter f N x0=some (.inl b):=by
 subst h0
 rw [iter_to st h hkn hN]
 obtain ⟨M,hM⟩:∃ M,N-(n-k)=M+1:=⟨N-(n-k)-1,by omega⟩
 rw [hM,iter,hd]
theorem iter_ret {A B C:Type}{f:A→Option (Step A B C)} (st:Nat→A){k n N:Nat}{c:C} (h:∀ i,k≤i→i<n→f (st i)=some (.more (st (i+1)))) (hkn:k≤n){x0:A} (hd:f (st n)=some (.ret c)) (hN:n-k<N) (h0:x0=st k) :
  iter f N x0=some (.inr c):=by
 subst h0
 rw [iter_to st h hkn hN]
 obtain ⟨M,hM⟩:∃ M,N-(n-k)=M+1:=⟨N-(n-k)-1,by omega⟩
 rw [hM,iter,hd]
theorem iter_all {A B C:Type}{f:A→Option (Step A B C)} (st:Nat→A) (p:Nat→Bool){n N:Nat}{b:B}{c:C} (h:∀ i,i<n→f (st i)=some (if p i=true then .more (st (i+1)) else .ret c))
  {x0:A} (hd:f (st n)=some (.done b)) (hN:n<N) (h0:x0=st 0):iter f N x0=some (if (List.range n).all p=true then .inl b else .inr c):=by
 subst h0
 by_cases ha:(List.range n).all p=true
 ·rw [if_pos ha]
  refine iter_done st (fun i _ hi=>?_) (Nat.zero_le _) hd (by omega) rfl
  rw [h i hi,if_pos (List.all_eq_true.1 ha i (List.mem_range.2 hi))]
 ·rw [if_neg ha]
  -- the first one of which it does not hold
  have hex:∃ k,k<n∧p k=false∧∀ i,i<k→p i=true:=by
   have key:∀ m,m≤n→(∀ i,i<m→p i=true)∨∃ k,k<n∧p k=false∧∀ i,i<k→p i=true:=by
    intro m
    induction m with
    | zero=>intro _;exact .inl (by simp)
    | succ m ih =>
     intro hm
     rcases ih (by omega) with h1 | h1
     ·cases hp:p m with
      | true =>
       refine .inl (fun i hi=>?_)
       rcases Nat.lt_succ_iff_lt_or_eq.1 hi with h2 | h2
       ·exact h1 i h2
       ·rw [h2];exact hp
      | false=>exact .inr ⟨m,by omega,hp,h1⟩
     ·exact .inr h1
   rcases key n (Nat.le_refl _) with h1 | h1
   ·exact absurd (List.all_eq_true.2 (fun i hi=>h1 i (List.mem_range.1 hi))) ha
   ·exact h1
  obtain ⟨k,hk,hp,hbefore⟩:=hex
  refine iter_ret st (n:=k) (fun i _ hi=>?_) (Nat.zero_le _) ?_ (by omega) rfl
  ·rw [h i (by omega),if_pos (hbefore i hi)]
  ·rw [h k hk,hp];rfl
theorem iter_any {A B C:Type}{f:A→Option (Step A B C)} (st:Nat→A) (p:Nat→Bool){n N:Nat}{b:B}{c:C} (h:∀ i,i<n→f (st i)=some (if p i=true then .ret c else .more (st (i+1))))
  {x0:A} (hd:f (st n)=some (.done b)) (hN:n<N) (h0:x0=st 0):iter f N x0=some (if (List.range n).any p=true then .inr c else .inl b):=by
 subst h0
 have:=iter_all st (fun i=>!p i) (n:=n) (N:=N) (b:=b) (c:=c) (fun i hi=>by rw [h i hi];cases p i <;> rfl) hd hN rfl
 rw [this]
 have e:(List.range n).all (fun i=>!p i)=!(List.range n).any p:=by
  generalize List.range n=l
  induction l with
  | nil=>rfl
  | cons a l ih=>simp [ih]
 rw [e]
 cases (List.range n).any p <;> rfl
theorem iter_inv {A B C:Type}{f:A→Option (Step A B C)} (J:A→Prop) (m:A→Nat) (Q:B ⊕ C→Prop) (h:∀ x,J x→∃ s,f x=some s∧match s with
   | .more y=>J y∧m y<m x
   | .done b=>Q (.inl b)
   | .ret c=>Q (.inr c)):∀ {N:Nat}{x:A},J x→m x<N→∃ r,iter f N x=some r∧Q r:=by
 intro N
 induction N with
 | zero=>intro x _ hN;omega
 | succ N ih =>
  intro x hx hN
  obtain ⟨s,hs,hm⟩:=h x hx
  simp only [iter,hs]
  cases s with
  | more y=>exact ih hm.1 (by have:=hm.2;omega)
  | done b=>exact ⟨_,rfl,hm⟩
  | ret c=>exact ⟨_,rfl,hm⟩
theorem wrap_id {n:Int} (h1:-9223372036854775808≤n) (h2:n≤9223372036854775807):wI n=n:=by
 have e:wI n=if n % 18446744073709551616≥9223372036854775808 then n % 18446744073709551616-18446744073709551616 else n % 18446744073709551616:=by
  simp [IntKind.wrap,IntKind.bits,IntKind.signed]
 rw [e]
 split <;> omega
theorem wrap_nat {i:Nat} (h:i<9223372036854775807):wI ((i:Int)+1)=((i+1:Nat):Int):=by
 rw [wrap_id (by omega) (by omega)];simp
theorem wrap_u8 {n:Int} (h1:0≤n) (h2:n≤255):IntKind.wrap .u8 n=n:=by
 have e:IntKind.wrap .u8 n=n % 256:=by
  simp [IntKind.wrap,IntKind.bits,IntKind.signed]
 rw [e]
 omega
theorem and_some {P:Prop} [Decidable P]{c:Bool}:(if P then some c else some false)=some (decide P && c):=by
 by_cases h:P <;> simp [h]
theorem or_some {P:Prop} [Decidable P]{c:Bool}:(if P then some true else some c)=some (decide P || c):=by
 by_cases h:P <;> simp [h]
theorem inB_nat {i n:Nat}:inB (i:Int) n↔i<n:=by simp [inB]
theorem bt_nonneg (s:ByteArray) (i:Int):0≤bt s i:=by simp [bt]
theorem bt_lt (s:ByteArray) (i:Int):bt s i<256:=by
 simp only [bt]
 have:=(s[i.toNat]?.getD 0).toNat_lt
 omega
end Go.Rf
namespace Go.Rf
theorem e_i_inRange (N:Nat) (x:Int×Int×Int×Unit):i_inRange N x=some (decide (x.1≥x.2.1) && decide (x.1≤x.2.2.1),()):=by
 unfold i_inRange
 simp only [and_some,decide_eq_true_eq,oB]
theorem e_s_l1In (N:Nat) (x:Int×Int×Int×Unit):s_l1In N x=some (decide (x.1≥x.2.1) && decide (x.1≤x.2.2.1),()):=by
 unfold s_l1In
 simp only [and_some,decide_eq_true_eq,oB]
theorem e_s_l2Digit (N:Nat) (x:Int×Unit):s_l2Digit N x=some (decide (x.1≥48) && decide (x.1≤57),()):=by
 unfold s_l2Digit
 simp only [and_some,decide_eq_true_eq,oB]
def setB:ByteArray:=ByteArray.mk #[33,63,42,47,60,61,62,43,45,95]
def symB (b:Int):Bool:=(decide (b≥97) && decide (b≤122) || decide (b≥48) && decide (b≤57)) || decide (Lib.indexByte setB.data.toList b.toNat.toUInt8≥0)
theorem e_i_isSymByte (N:Nat) (x:Int×Unit):i_isSymByte N x=some (symB x.1,()):=by
 unfold i_isSymByte
 simp only [and_some,or_some,decide_eq_true_eq,oB,g_strings_IndexByte,Bool.decide_eq_true,Bool.decide_coe]
 rfl
theorem e_s_l2In (N:Nat) (x:Int×ByteArray×Unit) (hs:x.2.1.size<1000) (hN:1000≤N):s_l2In N x=some ((List.range x.2.1.size).any (fun i=>decide (bt x.2.1 i=x.1)),()):=by
 unfold s_l2In
 rw [iter_any (st:=fun i=>((i:Int),())) (p:=fun i=>decide (bt x.2.1 i=x.1)) (n:=x.2.1.size) (b:=()) (c:=(true,())) ?_ ?_ (by omega) ?_]
 ·cases (List.range x.2.1.size).any (fun i=>decide (bt x.2.1 i=x.1)) <;> rfl
 ·intro i hi
  have h1:(i:Int)<(x.2.1.size:Int):=by omega
  simp only [decide_eq_true_eq,if_pos h1,if_pos (inB_nat.2 hi),wrap_nat (show i<9223372036854775807 by omega)]
  split <;> rfl
 ·simp
 ·rfl
theorem set_same:∀ n:Nat,n<256→((List.range setB.size).any (fun i=>decide (bt setB i=(n:Int))))=decide (Lib.indexByte setB.data.toList n.toUInt8≥0):=by
 decide +kernel
theorem e_s_l2Sign (N:Nat) (x:Int×Unit) (h0:0≤x.1) (h1:x.1<256) (hN:1000≤N):s_l2Sign N x=some (symB x.1,()):=by
 unfold s_l2Sign
 obtain ⟨n,hn⟩:∃ n:Nat,x.1=(n:Int):=⟨x.1.toNat,by omega⟩
 have hs:=set_same n (by omega)
 rw [e_s_l2In N _ (by simp;decide) hN]
 simp only [and_some,or_some,decide_eq_true_eq,oB,e_s_l2Digit,Bool.decide_eq_true,Bool.decide_coe]
 have e:(ByteArray.mk #[33,63,42,47,60,61,62,43,45,95])=setB:=rfl
 rw [e]
 simp only [hn,hs]
 simp only [symB,tN]
def symAll (s:ByteArray):Bool:=(List.range s.size).all fun i=>symB (bt s i)
end Go.Rf
namespace Go.Rf
def bs (l:List UInt8):ByteArray:=⟨l.toArray⟩
theorem bs_append (a b:List UInt8):bs a++bs b=bs (a++b):=by
 apply bytes_inj
 show (ByteArray.append (bs a) (bs b)).data.toList=_
 simp [bs,ByteArray.append,ByteArray.copySlice]
theorem bs_size (l:List UInt8):(bs l).size=l.length:=by simp [bs,ByteArray.size]
theorem bs_toList (s:ByteArray):bs s.data.toList=s:=by
 apply bytes_inj;simp [bs]
theorem bs_data (l:List UInt8):(bs l).data.toList=l:=by simp [bs]
theorem natAbs_tmod10 (n:Int):(if Int.tmod n 10<0 then 0-Int.tmod n 10 else Int.tmod n 10)=((n.natAbs % 10:Nat):Int):=by
 have h:(Int.tmod n 10).natAbs=n.natAbs % 10:=Int.natAbs_tmod n 10
 split <;> omega
theorem dec_loop {f:Int×ByteArray×Unit→Option (Step (Int×ByteArray×Unit) (ByteArray×Unit) (ByteArray×Unit))}
  (hf:∀ s,f s=(if (!decide (s.1=0))=true then
(if (decide ((Int.tmod s.1 10)<0))=true then
 some (wI (0-(Int.tmod s.1 10)),()) else
 some (Int.tmod s.1 10,())).bind fun j2 =>
(if ByteArray.size (ofBytes [IntKind.wrap .u8 (wI (48+j2.1))])+ByteArray.size s.2.1<4611686018427387904 then
 some (Step.more (wI (Int.tdiv s.1 10),(ofBytes [IntKind.wrap .u8 (wI (48+j2.1))])++s.2.1,())) else none) else
 some (Step.done (s.2.1,())))):∀ (k u:Nat) (n:Int) (out:List UInt8) (N:Nat){x0:Int×ByteArray×Unit},x0=(n,bs out,())→n.natAbs=u→u<10 ^ k→-9223372036854775808≤n→n≤9223372036854775807→k<N→out.length+k≤1000 →
  iter f N x0=some (.inl (bs ((if u=0 then [] else Lib.decDigits u)++out),())):=by
 intro k
 induction k with
 | zero =>
  intro u n out N x0 hx0 hu hk h1 h2 hN hl
  subst hx0
  have hu0:u=0:=by simpa using hk
  have hn:n=0:=by omega
  obtain ⟨M,rfl⟩:∃ M,N=M+1:=⟨N-1,by omega⟩
  simp [iter,hf,hn,hu0]
 | succ k ih =>
  intro u n out N x0 hx0 hu hk h1 h2 hN hl
  subst hx0
  obtain ⟨M,rfl⟩:∃ M,N=M+1:=⟨N-1,by omega⟩
  by_cases hn:n=0
  ·simp [iter,hf,hn,show u=0 by omega]
  ·have hu0:u≠0:=by omega
   have hj:(if decide (Int.tmod n 10<0)=true then some (wI (0-Int.tmod n 10),()) else some (Int.tmod n 10,()))=some (((u % 10:Nat):Int),()):=by
    have h3:=natAbs_tmod10 n
    have h4:-9≤Int.tmod n 10∧Int.tmod n 10≤9:=by
     have:(Int.tmod n 10).natAbs=n.natAbs % 10:=Int.natAbs_tmod n 10
     omega
    rw [wrap_id (by omega) (by omega)]
    simp only [decide_eq_true_eq,hu] at h3 ⊢
    split <;> rename_i hlt
    ·rw [if_pos hlt] at h3;rw [h3]
    ·rw [if_neg hlt] at h3;rw [h3]
   have hw:IntKind.wrap .u8 (wI (48+((u % 10:Nat):Int)))=48+((u % 10:Nat):Int):=by
    rw [wrap_id (by omega) (by omega),wrap_u8 (by omega) (by omega)]
   have ho:ofBytes [48+((u % 10:Nat):Int)]=bs [UInt8.ofNat (48+u % 10)]:=by
    simp only [ofBytes,bs,List.map_cons,List.map_nil]
    have:(48+((u % 10:Nat):Int)).toNat=48+u % 10:=by omega
    rw [this]
   have hd:wI (Int.tdiv n 10)=Int.tdiv n 10:=by
    have:(Int.tdiv n 10).natAbs=n.natAbs / 10:=Int.natAbs_tdiv n 10
    exact wrap_id (by omega) (by omega)
   have hstep:f (n,bs out,())=some (.more (Int.tdiv n 10,bs (UInt8.ofNat (48+u % 10)::out),())):=by
    rw [hf]
    have hb:(!decide (n=0))=true:=by simp [hn]
    simp only [hb,if_true,hj,oB,hw,ho,hd,bs_append,bs_size,List.singleton_append,List.length_singleton]
    rw [if_pos (by omega)]
   simp only [iter,hstep]
   have hdv:(Int.tdiv n 10).natAbs=n.natAbs / 10:=Int.natAbs_tdiv n 10
   have hdiv:(Int.tdiv n 10).natAbs=u / 10:=by rw [Int.natAbs_tdiv,hu];rfl
   rw [ih (u / 10) (Int.tdiv n 10) (UInt8.ofNat (48+u % 10)::out) M rfl hdiv (by rw [Nat.pow_succ] at hk;omega) (by omega) (by omega) (by omega) (by simp;omega)]
   congr 4
   rw [if_neg hu0]
   by_cases h9:u<10
   ·rw [if_pos (by omega),Lib.decDigits_one h9,Nat.mod_eq_of_lt h9];rfl
   ·rw [if_neg (by omega)]
    conv=>rhs;rw [Lib.decDigits,dif_neg h9]
    simp
theorem e_s_Dec (N:Nat) (x:Int×Unit) (h1:-9223372036854775808≤x.1) (h2:x.1≤9223372036854775807) (hN:1000≤N):s_Dec N x=some (bs (Lib.itoa x.1),()):=by
 unfold s_Dec
 by_cases h0:x.1=0
 ·simp only [h0,decide_true,if_true]
  have:Lib.itoa 0=[48]:=by
   unfold Lib.itoa
   rw [if_neg (by decide)]
   exact Lib.decDigits_one (by decide)
  rw [this];rfl
 ·simp only [h0,decide_false,bF,if_false]
  rw [dec_loop (fun s=>rfl) 30 x.1.natAbs x.1 [] N ?_ rfl (by omega) h1 h2 (by omega) (by simp)]
  rotate_left
  ·rfl
  have hu:x.1.natAbs≠0:=by omega
  have hb:(ByteArray.mk #[45])=bs [45]:=rfl
  simp only [oB,hu,if_false,List.append_nil,hb,bs_size,bs_append,List.length_singleton]
  have hlen:(Lib.decDigits x.1.natAbs).length≤30:=by
   have:=Lib.itoa_length_le x.1 h1 h2
   unfold Lib.itoa at this
   split at this
   ·simp at this;omega
   ·have e:x.1.toNat=x.1.natAbs:=by omega
    rw [e] at this;omega
  unfold Lib.itoa
  by_cases hneg:x.1<0
  ·simp only [hneg,decide_true,if_true]
   rw [if_pos (by omega)]
   rfl
  ·simp only [hneg,decide_false,bF,if_false]
   have e:x.1.toNat=x.1.natAbs:=by omega
   rw [e]
def digF:Nat×Nat→List UInt8→Nat×Nat
 | p,[]=>p
 | p,b::l=>if 48≤b.toNat∧b.toNat≤57 then digF (p.1*10+(b.toNat-48),p.2+1) l else digF p l
theorem digF_append (p:Nat×Nat) (a b:List UInt8):digF p (a++b)=digF (digF p a) b:=by
 induction a generalizing p with
 | nil=>rfl
 | cons c a ih =>
  simp only [List.cons_append,digF]
  split <;> exact ih _
theorem digF_digits (u:Nat):∀ p,digF p (Lib.decDigits u)=(p.1*10 ^ (Lib.decDigits u).length+u,p.2+(Lib.decDigits u).length):=by
 induction u using Nat.strongRecOn with
 | _ u ih =>
  intro p
  rw [Lib.decDigits]
  have hb:∀ d:Nat,d<10→(UInt8.ofNat (48+d)).toNat=48+d:=fun d hd=>by
   simp only [UInt8.toNat_ofNat']
   omega
  by_cases h:u<10
  ·rw [dif_pos h]
   simp only [digF,hb u h]
   rw [if_pos (by omega)]
   simp
  ·rw [dif_neg h,digF_append,ih (u / 10) (by omega)]
   simp only [digF,hb _ (Nat.mod_lt u (show 0<10 by decide))]
   rw [if_pos (by omega)]
   simp only [List.length_append,List.length_singleton,Prod.mk.injEq,Nat.pow_succ]
   refine ⟨?_,by omega⟩
   rw [Nat.add_mul,Nat.mul_assoc]
   omega
theorem decFrom_digits (u:Nat):∀ acc,Lib.decFrom acc (Lib.decDigits u)=some (acc*10 ^ (Lib.decDigits u).length+u):=by
 have happ:∀ (a b:List UInt8) (acc n:Nat),Lib.decFrom acc a=some n→Lib.decFrom acc (a++b)=Lib.decFrom n b:=by
  intro a
  induction a with
  | nil=>intro b acc n h;simp only [Lib.decFrom,sI] at h;subst h;rfl
  | cons c a ih =>
   intro b acc n h
   simp only [List.cons_append,Lib.decFrom] at h ⊢
   split at h
   ·exact ih b _ _ h
   ·cases h
 induction u using Nat.strongRecOn with
 | _ u ih =>
  intro acc
  rw [Lib.decDigits]
  have hb:∀ d:Nat,d<10→Lib.digitVal (UInt8.ofNat (48+d))=some d:=fun d hd=>by
   have e:(UInt8.ofNat (48+d)).toNat=48+d:=by simp only [UInt8.toNat_ofNat'];omega
   unfold Lib.digitVal
   rw [if_pos (by omega),e]
   congr 1;omega
  by_cases h:u<10
  ·rw [dif_pos h]
   simp only [Lib.decFrom,hb u h,List.length_singleton,Nat.pow_one]
  ·rw [dif_neg h,happ _ _ _ _ (ih (u / 10) (by omega) acc)]
   simp only [Lib.decFrom,hb _ (Nat.mod_lt u (show 0<10 by decide))]
   simp only [List.length_append,List.length_singleton,Nat.pow_succ]
   congr 1
   rw [Nat.add_mul,Nat.mul_assoc]
   omega
theorem digits_ne (u:Nat):Lib.decDigits u≠[]:=by
 intro h
 rw [Lib.decDigits] at h
 split at h <;> simp at h
theorem digits_head (u:Nat):∃ b r,Lib.decDigits u=b::r∧48≤b.toNat∧b.toNat≤57:=by
 induction u using Nat.strongRecOn with
 | _ u ih =>
  rw [Lib.decDigits]
  have hb:∀ d:Nat,d<10→(UInt8.ofNat (48+d)).toNat=48+d:=fun d hd=>by
   simp only [UInt8.toNat_ofNat']
   omega
  by_cases h:u<10
  ·rw [dif_pos h]
   exact ⟨_,[],rfl,by rw [hb u h];omega,by rw [hb u h];omega⟩
  ·rw [dif_neg h]
   obtain ⟨b,r,e,h1,h2⟩:=ih (u / 10) (by omega)
   exact ⟨b,r++_,by rw [e];rfl,h1,h2⟩
theorem atoi_itoa (v:Int):Lib.atoi (Lib.itoa v)=some v:=by
 unfold Lib.itoa
 obtain ⟨b,r,e,h1,h2⟩:=digits_head v.toNat
 by_cases hv:v<0
 ·rw [if_pos hv]
  simp only [Lib.atoi,beq_self_eq_true,if_true,Lib.decNat]
  have hne:=digits_ne v.natAbs
  have:(Lib.decDigits v.natAbs).isEmpty=false:=by cases h:Lib.decDigits v.natAbs <;> simp_all
  rw [this]
  simp only [bF,if_false,decFrom_digits,Option.map_some]
  congr 1;omega
 ·rw [if_neg hv]
  have hdn:Lib.decNat (Lib.decDigits v.toNat)=some v.toNat:=by
   unfold Lib.decNat
   have hne:=digits_ne v.toNat
   have:(Lib.decDigits v.toNat).isEmpty=false:=by cases h:Lib.decDigits v.toNat <;> simp_all
   rw [this]
   simp only [bF,if_false,decFrom_digits]
   congr 1;omega
  rw [e] at hdn ⊢
  have hb1:(b == 45)=false:=by
   rw [beq_eq_false_iff_ne];rintro rfl;simp at h1
  have hb2:(b == 43)=false:=by
   rw [beq_eq_false_iff_ne];rintro rfl;simp at h1
  simp only [Lib.atoi,hb1,hb2,bF,if_false,hdn,Option.map_some]
  congr 1;omega
def rd (s:ByteArray):Int×Bool×Unit:=(i_ReadDec 0 (s,())).getD (0,false,())
theorem e_i_ReadDec (N:Nat) (x:ByteArray×Unit):i_ReadDec N x=some (rd x.1):=by
 unfold rd i_ReadDec
 simp only
 split
 ·split
  ·split <;> rfl
  ·rfl
 ·rfl
theorem trim_minus (l:List UInt8):Lib.trimPrefix (45::l) [45]=l:=by
 simp [Lib.trimPrefix,Lib.hasPrefix]
theorem trim_other {b:UInt8}{l:List UInt8} (h:b≠45):Lib.trimPrefix (b::l) [45]=b::l:=by
 have:(45 == b)=false:=by rw [beq_eq_false_iff_ne];exact Ne.symm h
 simp [Lib.trimPrefix,Lib.hasPrefix,this,Ne.symm h]
theorem trim_itoa (v:Int):Lib.trimPrefix (Lib.itoa v) [45]=Lib.decDigits v.natAbs:=by
 unfold Lib.itoa
 split
 ·exact trim_minus _
 ·obtain ⟨b,r,e,h1,h2⟩:=digits_head v.toNat
  have hn:v.toNat=v.natAbs:=by omega
  rw [hn] at e ⊢
  rw [e,trim_other (by rintro rfl;simp at h1)]
theorem rd_true {s:ByteArray}{v:Int} (h:Lib.itoa v=s.data.toList) (h9:(Lib.decDigits v.natAbs).length≤9):rd s=(v,true,()):=by
 unfold rd i_ReadDec
 simp only
 rw [← h,trim_itoa]
 have h1:1≤(Lib.decDigits v.natAbs).length:=by
  obtain ⟨b,r,e,_⟩:=digits_head v.natAbs
  rw [e];simp
 rw [if_pos ⟨h1,h9⟩]
 have hl:(Lib.itoa v).length≤18:=by
  unfold Lib.itoa
  split
  ·simp;omega
  ·have:v.toNat=v.natAbs:=by omega
   rw [this];omega
 rw [Lib.atoiAll_short _ hl,atoi_itoa]
 simp only [Lib.NumEnd.ofOption,if_true,Option.getD_some]
theorem rd_false {s:ByteArray} (h:∀ v,Lib.itoa v=s.data.toList→¬ (Lib.decDigits v.natAbs).length≤9):rd s=(0,false,()):=by
 unfold rd i_ReadDec
 simp only
 split
 ·rename_i hc
  split
  ·rename_i v hv
   split
   ·rename_i e
    exfalso
    refine h v e ?_
    rw [← trim_itoa,e];exact hc.2
   ·rfl
  ·rfl
 ·rfl
end Go.Rf
namespace Go.Rf
theorem bt_at {s:ByteArray}{i:Nat} (h:i<s.size) (hl:i<s.data.toList.length):bt s (i:Int)=((s.data.toList[i]).toNat:Int):=by
 simp only [bt,tN]
 rw [getElem?_pos s i h,Option.getD_some,Array.getElem_toList]
 rfl
theorem digF_lt:∀ (l:List UInt8) (p:Nat×Nat) (a:Nat),p.1<10 ^ a→(digF p l).1<10 ^ (a+l.length)∧(digF p l).2≤p.2+l.length∧p.2≤(digF p l).2:=by
 intro l
 induction l with
 | nil=>intro p a h;simpa [digF] using h
 | cons b l ih =>
  intro p a h
  simp only [digF,List.length_cons]
  split
  ·rename_i hb
   have:=ih (p.1*10+(b.toNat-48),p.2+1) (a+1) (by simp only [Nat.pow_succ];omega)
   refine ⟨by rw [show a+(l.length+1)=a+1+l.length by omega];exact this.1,by have:=this.2.1;simp at this;omega,by have:=this.2.2;simp at this;omega⟩
  ·have:=ih p (a+1) (by rw [Nat.pow_succ];omega)
   refine ⟨by rw [show a+(l.length+1)=a+1+l.length by omega];exact this.1,by omega,this.2.2⟩
theorem pow_le {a b:Nat} (h:a≤b):10 ^ a≤10 ^ b:=Nat.pow_le_pow_right (by decide) h
def rdS (s:ByteArray):Int×Bool×Unit :=
 let q:=digF (0,0) (s.data.toList.take 11)
 let n:Int:=if 0<s.size∧s.data.toList.head?=some 45 then -(q.1:Int) else q.1
 if q.2>9∨s.size>10∨bs (Lib.itoa n)≠s then (0,false,()) else (n,true,())
theorem e_s_ReadDec0 (N:Nat) (x:ByteArray×Unit) (hs:x.1.size<4611686018427387904) (hN:1000≤N):s_ReadDec N x=some (rdS x.1):=by
 obtain ⟨s,u⟩:=x
 simp only at hs
 have hsz:s.size=s.data.toList.length:=by rw [Array.length_toList];rfl
 unfold s_ReadDec
 rw [iter_done (fun i=>(((digF (0,0) (s.data.toList.take i)).1:Int),((digF (0,0) (s.data.toList.take i)).2:Int),(i:Int),())) (k:=0) (n:=min s.size 11) (b:=(((digF (0,0) (s.data.toList.take 11)).1:Int),((digF (0,0) (s.data.toList.take 11)).2:Int),())) ?_ (Nat.zero_le _) ?_ (by omega) ?_]
 ·have hq:=digF_lt (s.data.toList.take 11) (0,0) 0 (by decide)
  have hq1:(digF (0,0) (s.data.toList.take 11)).1<100000000000:=by
   refine Nat.lt_of_lt_of_le hq.1 (pow_le (b:=11) ?_)
   simp;omega
  have hq2:(digF (0,0) (s.data.toList.take 11)).2≤11:=by
   have:=hq.2.1
   simp at this;omega
  simp only [oB,rdS]
  generalize (digF (0,0) (s.data.toList.take 11)).1=q1 at hq1
  generalize (digF (0,0) (s.data.toList.take 11)).2=q2 at hq2
  have hhead:(if decide ((s.size:Int)>0)=true then (if inB 0 s.size then some (decide (bt s 0=45)) else none) else some false)=some (decide (0<s.size∧s.data.toList.head?=some 45)):=by
   by_cases h0:0<s.size
   ·have h1:((s.size:Int)>0):=by omega
    have h2:inB 0 s.size:=by constructor <;> omega
    simp only [h1,decide_true,if_true,if_pos h2,h0,true_and]
    congr 1
    have hb:=bt_at h0 (by omega)
    have e:bt s 0=bt s ((0:Nat):Int):=rfl
    rw [e,hb]
    have hl:s.data.toList.head?=some (s.data.toList[0]'(by omega)):=by
     rw [List.head?_eq_getElem?,List.getElem?_eq_getElem (by omega)]
    rw [hl]
    have hu:∀ b:UInt8,(((b.toNat:Int)=45)↔some b=some (45:UInt8)):=by
     intro b
     constructor
     ·intro h
      congr 1
      apply UInt8.toNat_inj.1
      simpa using (by omega:b.toNat=45)
     ·intro h;cases h;rfl
    exact decide_eq_decide.2 (hu _)
   ·have h1:¬ ((s.size:Int)>0):=by omega
    simp [h1,h0]
  rw [hhead]
  have hneg:wI (0-(q1:Int)) = -(q1:Int):=by rw [wrap_id (by omega) (by omega)];omega
  simp only [oB,decide_eq_true_eq,hneg]
  have hn:(if 0<s.size∧s.data.toList.head?=some 45 then some (-(q1:Int),()) else some ((q1:Int),()))=some ((if 0<s.size∧s.data.toList.head?=some 45 then -(q1:Int) else (q1:Int)),()):=by
   split <;> rfl
  have hnb:-9223372036854775808≤(if 0<s.size∧s.data.toList.head?=some 45 then -(q1:Int) else (q1:Int))∧(if 0<s.size∧s.data.toList.head?=some 45 then -(q1:Int) else (q1:Int))≤9223372036854775807:=by
   split <;> omega
  rw [hn]
  simp only [oB]
  generalize (if 0<s.size∧s.data.toList.head?=some 45 then -(q1:Int) else (q1:Int))=n at hnb ⊢
  rw [e_s_Dec N _ hnb.1 hnb.2 hN]
  simp only [oB,or_some,decide_eq_true_eq]
  have c1:((q2:Int)>9)↔q2>9:=by omega
  have c2:((s.size:Int)>10)↔s.size>10:=by omega
  by_cases a1:q2>9
  ·simp [c1.2 a1,a1]
  ·by_cases a2:s.size>10
   ·simp [c2.2 a2,a2]
   ·by_cases a3:bs (Lib.itoa n)=s
    ·have b1:¬ ((q2:Int)>9):=by omega
     have b2:¬ ((s.size:Int)>10):=by omega
     simp [b1,b2,a1,a2,a3]
    ·have b1:¬ ((q2:Int)>9):=by omega
     have b2:¬ ((s.size:Int)>10):=by omega
     simp [b1,b2,a1,a2,a3]
 ·-- a round
  intro i _ hi
  have hi1:i<s.size:=by omega
  have hi2:i<11:=by omega
  have hlt:i<s.data.toList.length:=by omega
  have c1:((i:Int)<(s.size:Int)):=by omega
  have c2:((i:Int)<11):=by omega
  have htake:s.data.toList.take (i+1)=s.data.toList.take i++[s.data.toList[i]]:=by rw [List.take_succ_eq_append_getElem hlt]
  have hb:=bt_at hi1 hlt
  have hq:=digF_lt (s.data.toList.take i) (0,0) 0 (by decide)
  have hq1:(digF (0,0) (s.data.toList.take i)).1<100000000000:=by
   refine Nat.lt_of_lt_of_le hq.1 (pow_le (b:=11) ?_)
   simp;omega
  have hq2:(digF (0,0) (s.data.toList.take i)).2≤11:=by
   have:=hq.2.1
   simp at this;omega
  simp only [htake,digF_append,c1,c2,decide_true,if_true,oB,if_pos (inB_nat.2 hi1),hb,digF,and_some,Bool.decide_eq_true]
  generalize hbb:s.data.toList[i]=b
  generalize digF (0,0) (List.take i s.data.toList)=q at hq1 hq2
  have hb255:=b.toNat_lt
  by_cases hd:48≤b.toNat∧b.toNat≤57
  ·have d1:((b.toNat:Int)≥48):=by omega
   have d2:((b.toNat:Int)≤57):=by omega
   simp only [d1,d2,decide_true,Bool.and_self,if_true,oB,if_pos hd]
   rw [wrap_u8 (show (0:Int)≤(b.toNat:Int)-48 by omega) (by omega),wrap_id (show -9223372036854775808≤(b.toNat:Int)-48 by omega) (by omega),wrap_id (show -9223372036854775808≤(q.1:Int)*10 by omega) (by omega),wrap_id (by omega) (by omega),wrap_nat (by omega),wrap_nat (by omega)]
   congr 3
   omega
  ·have hd':(decide ((b.toNat:Int)≥48) && decide ((b.toNat:Int)≤57))=false:=by
    rw [Bool.and_eq_false_iff]
    by_cases h:48≤b.toNat
    ·right;simp;omega
    ·left;simp;omega
   simp only [hd',bF,if_false,oB,if_neg hd]
   rw [wrap_nat (by omega)]
 ·-- the end
  have hm:(min s.size 11:Nat)=s.size∨(min s.size 11:Nat)=11:=by omega
  have htk:s.data.toList.take (min s.size 11)=s.data.toList.take 11:=by
   rcases hm with h | h
   ·rw [h,hsz]
    rw [List.take_length,List.take_of_length_le];omega
   ·rw [h]
  simp only [htk]
  have:(decide (((min s.size 11:Nat):Int)<(s.size:Int)) && decide (((min s.size 11:Nat):Int)<11))=false:=by
   rw [Bool.and_eq_false_iff]
   rcases hm with h | h
   ·left;rw [h];simp
   ·right;rw [h];simp
  simp only [and_some,Bool.decide_eq_true,this,oB,bF,if_false]
 ·rfl
end Go.Rf
namespace Go.Rf
theorem digF_itoa (v:Int):digF (0,0) (Lib.itoa v)=(v.natAbs,(Lib.decDigits v.natAbs).length):=by
 unfold Lib.itoa
 split
 ·simp only [digF]
  rw [if_neg (by decide),digF_digits]
  simp
 ·have:v.toNat=v.natAbs:=by omega
  rw [digF_digits,this];simp
theorem itoa_length (v:Int):(Lib.itoa v).length=(Lib.decDigits v.natAbs).length+(if v<0 then 1 else 0):=by
 unfold Lib.itoa
 split
 ·simp
 ·have:v.toNat=v.natAbs:=by omega
  rw [this];simp
theorem itoa_head (v:Int):(Lib.itoa v).head?=some 45↔v<0:=by
 unfold Lib.itoa
 split
 ·simp;assumption
 ·obtain ⟨b,r,e,h1,h2⟩:=digits_head v.toNat
  rw [e]
  simp only [List.head?_cons,sI]
  constructor
  ·rintro rfl;simp at h1
  ·intro h;contradiction
theorem rdS_rd (s:ByteArray):rdS s=rd s:=by
 have hsz:s.size=s.data.toList.length:=by rw [Array.length_toList];rfl
 unfold rdS
 simp only
 generalize hn:(if 0<s.size∧s.data.toList.head?=some 45 then -((digF (0,0) (List.take 11 s.data.toList)).1:Int) else ((digF (0,0) (List.take 11 s.data.toList)).1:Int))=n
 split
 ·rename_i h
  symm
  refine rd_false (fun v hv h9=>?_)
  have hl:s.size≤10:=by
   rw [hsz,← hv,itoa_length];split <;> omega
  have htake:s.data.toList.take 11=Lib.itoa v:=by rw [hv,List.take_of_length_le];omega
  rw [htake,digF_itoa] at h hn
  simp only [← hv,itoa_head] at hn
  simp only at h
  have hpos:0<s.size:=by
   rw [hsz,← hv,itoa_length]
   obtain ⟨b,r,e,_⟩:=digits_head v.natAbs
   rw [e];simp;omega
  have hnv:n=v:=by
   rw [← hn];split <;> omega
  rw [hnv] at h
  rcases h with h | h | h
  ·omega
  ·omega
  ·apply h
   rw [hv];exact bs_toList s
 ·rename_i h
  simp only [not_or,Decidable.not_not] at h
  obtain ⟨h1,h2,h3⟩:=h
  have htake:s.data.toList.take 11=s.data.toList:=List.take_of_length_le (by omega)
  rw [htake] at h1
  have hd:Lib.itoa n=s.data.toList:=by rw [← h3,bs_data]
  symm
  refine rd_true hd ?_
  rw [← hd,digF_itoa] at h1
  simp only at h1
  omega
theorem e_s_ReadDec (N:Nat) (x:ByteArray×Unit) (hs:x.1.size<4611686018427387904) (hN:1000≤N):s_ReadDec N x=some (rd x.1):=by
 rw [e_s_ReadDec0 N x hs hN,rdS_rd]
def symOk (s:ByteArray):Bool :=
 symAll s && (decide (1≤s.size) && decide (s.size≤16)) && !(decide (bt s 0≥48) && decide (bt s 0≤57)) && !(rd s).2.1
theorem e_i_symOk (N:Nat) (x:ByteArray×Unit) (hs:x.1.size<4611686018427387904) (hN:x.1.size<N):i_symOk N x=some (symOk x.1,()):=by
 obtain ⟨s,u⟩:=x
 simp only at hs hN
 unfold i_symOk
 rw [iter_all (fun i=>((i:Int),())) (fun i=>symB (bt s i)) (n:=s.size) (b:=()) (c:=(false,())) ?_ ?_ hN ?_]
 ·simp only [oB,e_i_inRange,e_i_ReadDec,or_some,and_some,Bool.decide_eq_true]
  change (match (if symAll s=true then Sum.inl () else Sum.inr (false,()):Unit ⊕ Bool×Unit) with | .inl y4=>_ | .inr z5=>_)=_
  cases ha:symAll s with
  | false=>simp [symOk,ha]
  | true =>
   simp only [if_true]
   have c1:((s.size:Int)≥1)↔1≤s.size:=by omega
   have c2:((s.size:Int)≤16)↔s.size≤16:=by omega
   simp only [c1,c2]
   by_cases h1:1≤s.size
   ·have hin:inB 0 s.size:=by constructor <;> omega
    simp only [if_pos hin,oB,or_some,and_some,Bool.decide_eq_true,symOk,ha,Bool.true_and,h1,decide_true]
    by_cases h2:s.size≤16
    ·simp only [h2,decide_true,bN,Bool.false_or,Bool.true_and,bF,if_false,oB]
     cases hd:(decide (bt s 0≥48) && decide (bt s 0≤57)) <;> simp [hd]
    ·simp [h2]
   ·simp [symOk,ha,h1]
 ·intro i hi
  have h1:(i:Int)<(s.size:Int):=by omega
  simp only [h1,decide_true,if_true,if_pos (inB_nat.2 hi),e_i_isSymByte,oB,wrap_nat (show i<9223372036854775807 by omega)]
  cases symB (bt s i) <;> rfl
 ·simp
 ·rfl
theorem e_s_l2Sym (N:Nat) (x:ByteArray×Unit) (hs:x.1.size<4611686018427387904) (hN:x.1.size<N) (hN2:1000≤N):s_l2Sym N x=some (symOk x.1,()):=by
 obtain ⟨s,u⟩:=x
 simp only at hs hN
 unfold s_l2Sym
 simp only [e_s_l1In,oB]
 have c1:((s.size:Int)≥1)↔1≤s.size:=by omega
 have c2:((s.size:Int)≤16)↔s.size≤16:=by omega
 simp only [c1,c2]
 by_cases hr:1≤s.size∧s.size≤16
 ·have hin:inB 0 s.size:=by constructor <;> omega
  simp only [hr.1,hr.2,decide_true,Bool.and_self,bN,bF,if_false,if_pos hin,e_s_l2Digit,oB]
  cases hd:(decide (bt s 0≥48) && decide (bt s 0≤57)) with
  | true=>simp [symOk,hd]
  | false =>
   simp only [bF,if_false]
   rw [iter_all (fun i=>((i:Int),())) (fun i=>symB (bt s i)) (n:=s.size) (b:=()) (c:=(false,())) ?_ ?_ hN ?_]
   ·simp only [oB]
    change (match (if symAll s=true then Sum.inl () else Sum.inr (false,()):Unit ⊕ Bool×Unit) with | .inl y4=>_ | .inr z5=>_)=_
    cases ha:symAll s with
    | false=>simp [symOk,ha]
    | true=>simp [symOk,ha,hd,hr.1,hr.2,e_s_ReadDec N (s,()) hs hN2]
   ·intro i hi
    have h1:(i:Int)<(s.size:Int):=by omega
    simp only [h1,decide_true,if_true,if_pos (inB_nat.2 hi),e_s_l2Sign N (bt s i,()) (bt_nonneg _ _) (bt_lt _ _) hN2,oB,wrap_nat (show i<9223372036854775807 by omega)]
    cases symB (bt s i) <;> rfl
   ·simp
   ·rfl
 ·have hf:(decide (1≤s.size) && decide (s.size≤16))=false:=by
   rw [Bool.and_eq_false_iff]
   by_cases h:1≤s.size
   ·right;exact decide_eq_false (fun h2=>hr ⟨h,h2⟩)
   ·left;exact decide_eq_false h
  simp only [hf,Bool.not_false,if_true,oB,symOk,Bool.and_false,Bool.false_and]
end Go.Rf
namespace Go.Rf
theorem contains_iff (l sub:List UInt8):Lib.contains l sub=true↔∃ a b,l=a++sub++b:=by
 unfold Lib.contains
 rw [decide_eq_true_eq]
 induction l with
 | nil =>
  unfold Lib.index
  constructor
  ·intro h
   split at h
   ·rename_i hs
    exact ⟨[],[],by simpa using hs⟩
   ·omega
  ·rintro ⟨a,b,h⟩
   simp at h
   rw [h.2.1];simp
 | cons c l ih =>
  unfold Lib.index
  constructor
  ·intro h
   split at h
   ·rename_i hp
    obtain ⟨b,hb⟩:=List.isPrefixOf_iff_prefix.1 hp
    exact ⟨[],b,by simpa using hb.symm⟩
   ·split at h
    ·omega
    ·rename_i h1 h2
     have hge:=Lib.index_ge l sub
     have:0≤Lib.index l sub:=by
      have:Lib.index l sub ≠ -1:=by simpa using h2
      omega
     obtain ⟨a,b,e⟩:=ih.1 this
     exact ⟨c::a,b,by rw [e];simp⟩
  ·rintro ⟨a,b,h⟩
   split
   ·omega
   ·rename_i hp
    cases a with
    | nil =>
     exfalso
     apply hp
     rw [List.isPrefixOf_iff_prefix]
     exact ⟨b,by simpa using h.symm⟩
    | cons a0 a =>
     simp only [List.cons_append,List.cons.injEq] at h
     have h0:=ih.2 ⟨a,b,h.2⟩
     have:(Lib.index l sub == -1)=false:=by rw [beq_eq_false_iff_ne];omega
     rw [this]
     simp only [bF,if_false]
     omega
def rowOf (ws:List (List UInt8)):List UInt8:=ws.flatMap fun w=>w++[32]
theorem first_sep {a b c d:List UInt8} (ha:(32:UInt8) ∉ a) (hb:(32:UInt8) ∉ b) (h:a++32::c=b++32::d):a=b∧c=d:=by
 induction a generalizing b with
 | nil =>
  cases b with
  | nil=>simpa using h
  | cons x b=>simp at h;exact absurd h.1 (by rintro rfl;simp at hb)
 | cons y a ih =>
  cases b with
  | nil=>simp at h;exact absurd h.1 (by rintro rfl;simp at ha)
  | cons x b =>
   simp only [List.cons_append,List.cons.injEq] at h
   obtain ⟨h1,h2⟩:=ih (fun hm=>ha (by simp [hm])) (fun hm=>hb (by simp [hm])) h.2
   exact ⟨by rw [h.1,h1],h2⟩
theorem in_row {ws:List (List UInt8)} (hw:∀ w∈ws,(32:UInt8) ∉ w){s:List UInt8} (hs:(32:UInt8) ∉ s):(∃ a b,32::rowOf ws=a++(32::s++[32])++b)↔s∈ws:=by
 induction ws with
 | nil =>
  constructor
  ·rintro ⟨a,b,h⟩
   have:=congrArg List.length h
   simp [rowOf] at this
   omega
  ·intro h;simp at h
 | cons w ws ih =>
  have ih:=ih (fun v hv=>hw v (by simp [hv]))
  have hw0:(32:UInt8) ∉ w:=hw w (by simp)
  have hrow:rowOf (w::ws)=w++32::rowOf ws:=by simp [rowOf]
  rw [hrow]
  constructor
  ·rintro ⟨a,b,h⟩
   cases a with
   | nil =>
    simp only [List.nil_append,List.cons_append,List.append_assoc,List.cons.injEq,true_and,List.singleton_append] at h
    rw [(first_sep hw0 hs h).1];simp
   | cons a0 a =>
    simp only [List.cons_append,List.append_assoc,List.cons.injEq] at h
    have h2:=h.2
    rcases List.append_eq_append_iff.1 h2 with ⟨a',e1,e2⟩ | ⟨c,e1,e2⟩
    ·have:=ih.1 ⟨a',b,by rw [e2];simp⟩
     simp [this]
    ·cases c with
     | nil =>
      have:=ih.1 ⟨[],b,by simp at e2 ⊢;rw [← e2]⟩
      simp [this]
     | cons c0 c =>
      simp only [List.cons_append,List.cons.injEq] at e2
      exact absurd (by rw [e1,← e2.1];simp) hw0
  ·intro h
   simp only [List.mem_cons] at h
   rcases h with rfl | h
   ·exact ⟨[],rowOf ws,by simp⟩
   ·obtain ⟨a,b,e⟩:=ih.2 h
    exact ⟨32::w++a,b,by rw [e];simp⟩
def oneOf (ws:List (List UInt8)) (s:ByteArray):Bool:=decide (s.data.toList∈ws)
theorem e_i_isOneOf {ws:List (List UInt8)} (hw:∀ w∈ws,(32:UInt8) ∉ w∧w≠[]) (N:Nat) (x:ByteArray×ByteArray×Unit) (hr:32::(x.2.1.data.toList++[32])=32::rowOf ws) (hs:x.1.size<2000000000) (hs2:x.2.1.size<1000) :
  i_isOneOf N x=some (oneOf ws x.1,()):=by
 obtain ⟨s,row,u⟩:=x
 simp only at hr hs hs2
 have hsz:s.size=s.data.toList.length:=by rw [Array.length_toList];rfl
 unfold i_isOneOf
 have eb:∀ l:List UInt8,ByteArray.mk l.toArray=bs l:=fun _=>rfl
 have e32:ByteArray.mk #[32]=bs [32]:=rfl
 have e0:ByteArray.mk #[]=bs []:=rfl
 have es:s=bs s.data.toList:=(bs_toList s).symm
 have er:row=bs row.data.toList:=(bs_toList row).symm
 simp only [g_strings_Contains,e32,e0]
 rw [if_pos (show s.size<4294967281 by omega)]
 have hemp:decide (s=bs [])=decide (s.data.toList=[]):=by
  apply decide_eq_decide.2
  constructor
  ·rintro rfl;rfl
  ·intro h;rw [es,h]
 simp only [hemp,oB,and_some,Bool.decide_eq_true]
 have hsp:Lib.contains s.data.toList [32]=decide ((32:UInt8)∈s.data.toList):=by
  rw [Bool.eq_iff_iff,contains_iff,decide_eq_true_eq]
  constructor
  ·rintro ⟨a,b,e⟩;rw [e];simp
  ·intro h;obtain ⟨a,b,e⟩:=List.append_of_mem h;exact ⟨a,b,by rw [e];simp⟩
 rw [hsp]
 by_cases h1:s.data.toList=[]
 ·have:oneOf ws s=false:=by
   unfold oneOf
   rw [h1]
   exact decide_eq_false (fun hm=>(hw [] hm).2 rfl)
  simp [h1,this]
 ·by_cases h2:(32:UInt8)∈s.data.toList
  ·have:oneOf ws s=false:=by
    unfold oneOf
    exact decide_eq_false (fun hm=>(hw _ hm).1 h2)
   simp [h1,h2,this]
  ·have hcat1:bs [32]++row=bs (32::row.data.toList):=by rw [er,bs_append,bs_data];rfl
   have hcat2:bs [32]++s=bs (32::s.data.toList):=by
    conv=>lhs;rw [es]
    rw [bs_append];rfl
   have hrsz:row.size=row.data.toList.length:=by rw [Array.length_toList];rfl
   simp only [h1,h2,decide_false,Bool.not_false,Bool.and_self,if_true,hcat1,hcat2,bs_append,bs_size,bs_data,List.cons_append]
   rw [if_pos (by simp;omega),if_pos (by simp;omega),if_pos (by simp;omega),if_pos (by simp;omega),if_pos (by simp;omega)]
   simp only [oB]
   rw [hr]
   congr 2
   unfold oneOf
   rw [Bool.eq_iff_iff,contains_iff,decide_eq_true_eq]
   exact in_row (fun w hw'=>(hw w hw').1) h2
end Go.Rf
namespace Go.Rf
theorem getD_lt {α:Type}{l:List α}{d:α}{i:Nat} (h:i<l.length):l.getD i d=l[i]:=by
 rw [List.getD_eq_getElem?_getD,List.getElem?_eq_getElem h];rfl
theorem range_all_getD {α:Type} (l:List α) (d:α) (p:α→Bool):(List.range l.length).all (fun i=>p (l.getD i d))=l.all p:=by
 rw [Bool.eq_iff_iff,List.all_eq_true,List.all_eq_true]
 constructor
 ·intro h a ha
  obtain ⟨i,hi,rfl⟩:=List.mem_iff_getElem.1 ha
  have:=h i (List.mem_range.2 hi)
  rwa [getD_lt hi] at this
 ·intro h i hi
  have hi:=List.mem_range.1 hi
  rw [getD_lt hi]
  exact h _ (List.getElem_mem hi)
theorem range_any_getD {α:Type} (l:List α) (d:α) (p:α→Bool):(List.range l.length).any (fun i=>p (l.getD i d))=l.any p:=by
 rw [Bool.eq_iff_iff,List.any_eq_true,List.any_eq_true]
 constructor
 ·rintro ⟨i,hi,h⟩
  have hi:=List.mem_range.1 hi
  rw [getD_lt hi] at h
  exact ⟨_,List.getElem_mem hi,h⟩
 ·rintro ⟨a,ha,h⟩
  obtain ⟨i,hi,rfl⟩:=List.mem_iff_getElem.1 ha
  exact ⟨i,List.mem_range.2 hi,by rwa [getD_lt hi]⟩
theorem loop_all {α B C:Type}{f:Int×Unit→Option (Step (Int×Unit) B C)} (l:List α) (d:α) (p:α→Bool){N:Nat}{b:B}{c:C}
  (hl:l.length<4611686018427387904) (h:∀ i,i<l.length→f ((i:Int),())=some (if p (l.getD i d)=true then .more (wI ((i:Int)+1),()) else .ret c))
  (hd:f ((l.length:Int),())=some (.done b)) (hN:l.length<N):iter f N (0,())=some (if l.all p=true then .inl b else .inr c):=by
 rw [← range_all_getD l d p]
 refine iter_all (fun i=>((i:Int),())) _ (fun i hi=>?_) hd hN rfl
 rw [h i hi,wrap_nat (by omega)]
theorem loop_any {α B C:Type}{f:Int×Unit→Option (Step (Int×Unit) B C)} (l:List α) (d:α) (p:α→Bool){N:Nat}{b:B}{c:C}
  (hl:l.length<4611686018427387904) (h:∀ i,i<l.length→f ((i:Int),())=some (if p (l.getD i d)=true then .ret c else .more (wI ((i:Int)+1),())))
  (hd:f ((l.length:Int),())=some (.done b)) (hN:l.length<N):iter f N (0,())=some (if l.any p=true then .inr c else .inl b):=by
 rw [← range_any_getD l d p]
 refine iter_any (fun i=>((i:Int),())) _ (fun i hi=>?_) hd hN rfl
 rw [h i hi,wrap_nat (by omega)]
def two:List (List UInt8):=[[43],[45],[42],[60],[61],[101,113,63],[99,111,110,115]]
def one:List (List UInt8):=[[99,97,114],[99,100,114],[110,117,108,108,63],[112,97,105,114,63],[110,111,116],[112,114,105,110,116],[101,114,114,111,114],[102,105,101,108,100],[105,115]]
def wordL:List (List UInt8):=[[113,117,111,116,101],[105,102],[108,97,109,98,100,97],[98,101,103,105,110],[115,101,116,33],[108,101,116],[108,101,116,42],[99,111,110,100],[101,108,115,101],[97,110,100],[111,114],[119,104,101,110],[100,101,102,105,110,101]]
def arity (s:ByteArray):Int:=if oneOf two s=true then 2 else if oneOf one s=true then 1 else if s.data.toList=[109,97,107,101] then 0 else -1
def isName (s:ByteArray):Bool:=decide (s.data.toList=[37,116]) || (symOk s && !oneOf wordL s && decide (arity s<0))
theorem eq_bs (s:ByteArray) (l:List UInt8):(s=ByteArray.mk l.toArray)↔s.data.toList=l:=by
 constructor
 ·rintro rfl;rfl
 ·intro h
  have:=bs_toList s
  rw [h] at this
  exact this.symm
theorem e_i_Arity (N:Nat) (x:ByteArray×Unit) (hs:x.1.size<2000000000):i_Arity N x=some (arity x.1,()):=by
 unfold i_Arity
 rw [e_i_isOneOf (ws:=two) (by decide) N _ rfl hs (Nat.lt_of_lt_of_le (m:=500) (by simp only;decide) (by decide))]
 simp only [oB]
 rw [e_i_isOneOf (ws:=one) (by decide) N _ rfl hs (Nat.lt_of_lt_of_le (m:=500) (by simp only;decide) (by decide))]
 simp only [oB,arity]
 have e:(x.1=ByteArray.mk #[109,97,107,101])↔_:=eq_bs x.1 [109,97,107,101]
 simp only [e,decide_eq_true_eq]
 repeat' split
 all_goals rfl
theorem e_i_IsName (N:Nat) (x:ByteArray×Unit) (hs:x.1.size<2000000000) (hN:x.1.size<N):i_IsName N x=some (isName x.1,()):=by
 unfold i_IsName
 rw [e_i_symOk N _ (show x.1.size<_ by omega) hN,e_i_isOneOf (ws:=wordL) (by decide) N _ rfl hs (Nat.lt_of_lt_of_le (m:=500) (by simp only;decide) (by decide)),e_i_Arity N _ hs]
 simp only [oB,isName]
 have e:(x.1=ByteArray.mk #[37,116])↔_:=eq_bs x.1 [37,116]
 simp only [e,decide_eq_true_eq]
 by_cases h:x.1.data.toList=[37,116]
 ·simp [h]
 ·simp only [h,decide_false,bF,if_false,Bool.false_or]
  cases symOk x.1 <;> cases oneOf wordL x.1 <;> simp
theorem e_s_l3In (N:Nat) (x:List ByteArray×ByteArray×Unit) (hl:x.1.length<1000) (hN:1000≤N):s_l3In N x=some (x.1.any (fun a=>decide (a=x.2.1)),()):=by
 unfold s_l3In
 rw [loop_any x.1 bE (fun a=>decide (a=x.2.1)) (b:=()) (c:=(true,())) (by omega) ?h ?hd (by omega)]
 case hd=>simp
 case h =>
  intro i hi
  have h1:(i:Int)<(x.1.length:Int):=by omega
  simp only [h1,decide_true,if_true,inB_nat,hi,tN,decide_eq_true_eq]
  split <;> rfl
 cases x.1.any (fun a=>decide (a=x.2.1)) <;> rfl
theorem e_s_l3Word (N:Nat) (x:ByteArray×Unit) (hN:1000≤N):s_l3Word N x=some (oneOf wordL x.1,()):=by
 unfold s_l3Word
 rw [e_s_l3In N _ (Nat.lt_of_lt_of_le (m:=500) (by simp only;decide) (by decide)) hN]
 simp only [oB]
 congr 2
 show (wordL.map bs).any (fun a=>decide (a=x.1))=_
 rw [List.any_map]
 unfold oneOf
 rw [Bool.eq_iff_iff,List.any_eq_true,decide_eq_true_eq]
 constructor
 ·rintro ⟨a,ha,h⟩
  have h:bs a=x.1:=of_decide_eq_true h
  rw [← h,bs_data];exact ha
 ·intro h
  exact ⟨_,h,decide_eq_true (bs_toList x.1)⟩
end Go.Rf
namespace Go.Rf
abbrev VT:=Int×Int×ByteArray×Unit
abbrev CT:=Int×ByteArray×Int×Int×List ByteArray×List VT×Unit
def big:Nat:=1048577
def SzV (v:VT):Prop:=v.2.2.1.size<big
def SzC (c:CT):Prop:=c.2.1.size<big∧c.2.2.2.2.1.length<big∧(∀ s∈c.2.2.2.2.1,s.size<big)∧c.2.2.2.2.2.1.length<big∧∀ v∈c.2.2.2.2.2.1,SzV v
def SzH (h:List CT):Prop:=h.length<big∧∀ c∈h,SzC c
def inI (n a b:Int):Bool:=decide (n≥a) && decide (n≤b)
def noteE (v:VT):Bool:=decide (v.2.2.1=ByteArray.mk #[])
def atC (h:List CT) (v:VT) (k:Int):Bool:=inI v.2.1 0 ((h.length:Int)-1) && decide ((h.getD v.2.1.toNat ((0:Int),bE,(0:Int),(0:Int),([]:List ByteArray),([]:List VT),())).1=k)
def valueOk (h:List CT) (v:VT):Bool :=
 if v.1=1 then inI v.2.1 (-1000000) 1000000 && noteE v
 else if v.1=2 then inI v.2.1 0 1 && noteE v
 else if v.1=3 then decide (v.2.1=0) && noteE v
 else if v.1=4 then decide (v.2.1=0) && symOk v.2.2.1
 else if v.1=5 then noteE v && atC h v 1
 else if v.1=6 then noteE v && atC h v 2
 else if v.1=7 then noteE v && atC h v 3
 else false
theorem e_i_cellKind (N:Nat) (x:Int×Unit):i_cellKind N x=some (if x.1=5 then 1 else if x.1=6 then 2 else if x.1=7 then 3 else 0,()):=by
 unfold i_cellKind
 simp only [decide_eq_true_eq]
 repeat' split
 all_goals rfl
theorem e_s_l6Cell (N:Nat) (x:List CT×Int×Int×Unit):s_l6Cell N x=some (inI x.2.1 0 ((x.1.length:Int)-1) && decide ((x.1.getD x.2.1.toNat ((0:Int),bE,(0:Int),(0:Int),([]:List ByteArray),([]:List VT),())).1=x.2.2.1),()):=by
 obtain ⟨h,n,k,u⟩:=x
 unfold s_l6Cell
 simp only [and_some,oB,inI]
 have e:(decide (n≥0) && decide (n<(h.length:Int)))=(decide (n≥0) && decide (n≤(h.length:Int)-1)):=by
  congr 1
  apply decide_eq_decide.2
  omega
 simp only [Bool.decide_eq_true,bA,decide_eq_true_eq,e]
 by_cases h1:n≥0∧n≤(h.length:Int)-1
 ·have hb:inB n h.length:=⟨h1.1,by omega⟩
  simp only [h1,if_pos hb,if_true,and_self,decide_true,Bool.true_and,oB]
 ·simp only [h1,if_false,oB]
  have:(decide (n≥0) && decide (n≤(h.length:Int)-1))=false:=by
   rw [← Bool.not_eq_true,bA,decide_eq_true_eq,decide_eq_true_eq];exact h1
  rw [this];rfl
theorem e_s_ValueOk (N:Nat) (x:List CT×VT×Unit) (hv:SzV x.2.1) (hN:big≤N):s_ValueOk N x=some (valueOk x.1 x.2.1,()):=by
 obtain ⟨h,⟨k,n,s,u'⟩,u⟩:=x
 have hs:s.size<big:=hv
 have hb:big=1048577:=rfl
 unfold s_ValueOk valueOk
 simp only [e_s_l1In,e_s_l6Cell,noteE,e_s_l2Sym N (s,()) (show s.size<_ by omega) (show s.size<N by omega) (by omega),oB,decide_eq_true_eq,and_some,atC,Bool.not_eq_true',decide_eq_false_iff_not]
 by_cases h4:k=4
 ·subst h4
  simp [inI]
 ·simp only [h4,if_false,not_false_eq_true,if_true]
  by_cases hn:s=ByteArray.mk #[]
  ·subst hn
   simp only [inI,decide_true,Bool.and_true,Bool.true_and]
   by_cases k1:k=1
   ·simp [k1]
   ·by_cases k2:k=2
    ·simp [k2]
    ·by_cases k3:k=3
     ·simp [k3]
     ·by_cases k5:k=5
      ·simp [k5]
      ·by_cases k6:k=6
       ·simp [k6]
       ·by_cases k7:k=7
        ·simp [k7]
        ·simp [*]
  ·simp [hn]
theorem e_i_ValueOk (N:Nat) (x:List CT×VT×Unit) (hv:SzV x.2.1) (hl:x.1.length<big) (hN:big≤N):i_ValueOk N x=some (valueOk x.1 x.2.1,()):=by
 obtain ⟨h,⟨k,n,s,u'⟩,u⟩:=x
 have hs:s.size<big:=hv
 have hl:h.length<big:=hl
 have hb:big=1048577:=rfl
 unfold i_ValueOk valueOk
 have hw:wI ((h.length:Int)-1)=(h.length:Int)-1:=wrap_id (by omega) (by omega)
 simp only [e_i_inRange,e_i_cellKind,noteE,e_i_symOk N (s,()) (show s.size<_ by omega) (show s.size<N by omega),oB,decide_eq_true_eq,and_some,atC,inI,hw]
 have fin:∀ j:Int,(if s=ByteArray.mk #[] then
   if (decide (n≥0) && decide (n≤(h.length:Int)-1))=true then
    (if inB n h.length then some (decide ((h.getD n.toNat (0,bE,0,0,[],[],())).1=j),()) else none)
   else some (false,())
  else some (false,()))=some (decide (s=ByteArray.mk #[]) && (decide (n≥0) && decide (n≤(h.length:Int)-1) && decide ((h.getD n.toNat ((0:Int),bE,(0:Int),(0:Int),([]:List ByteArray),([]:List VT),())).1=j)),()):=by
  intro j
  by_cases hn:s=ByteArray.mk #[]
  ·by_cases h1:(decide (n≥0) && decide (n≤(h.length:Int)-1))=true
   ·have h2:=h1
    rw [bA,decide_eq_true_eq,decide_eq_true_eq] at h2
    rw [if_pos hn,if_pos h1,if_pos (show inB n h.length from ⟨h2.1,by omega⟩),h1,decide_eq_true hn]
    rfl
   ·rw [if_pos hn,if_neg h1,Bool.eq_false_iff.2 h1]
    simp
  ·rw [if_neg hn,decide_eq_false hn];rfl
 by_cases k1:k=1
 ·simp [k1]
 ·by_cases k2:k=2
  ·simp [k2]
  ·by_cases k3:k=3
   ·simp [k3]
   ·by_cases k4:k=4
    ·simp [k4]
    ·simp only [if_neg k1,if_neg k2,if_neg k3,if_neg k4]
     by_cases k5:k=5
     ·subst k5
      simpa using fin 1
     ·simp only [if_neg k5]
      by_cases k6:k=6
      ·subst k6
       simpa using fin 2
      ·by_cases k7:k=7
       ·subst k7
        simpa using fin 3
       ·simp [*]
end Go.Rf
namespace Go.Rf
def refV (v:VT):Bool:=decide (v.1≥5) && decide (v.1≤7)
def belowV (n:Int) (v:VT):Bool:=!(refV v && decide (v.2.1≥n))
def shapeC (c:CT):Bool :=
 if c.1=1 then decide (c.2.1=ByteArray.mk #[]) && decide (c.2.2.1=0) && decide (c.2.2.2.1=0) && decide (c.2.2.2.2.1.length=0) && decide (c.2.2.2.2.2.1.length=2)
 else if c.1=2 then decide (c.2.1=ByteArray.mk #[]) && decide (c.2.2.1≥0) && decide (c.2.2.2.1≥0) && c.2.2.2.2.1.all isName && decide (c.2.2.2.2.2.1.length=c.2.2.2.2.1.length)
 else if c.1=3 then !decide (c.2.1=ByteArray.mk #[]) && inI c.2.2.1 0 1000 && decide (c.2.2.2.1=0) && decide (c.2.2.2.2.1.length=0) && decide (c.2.2.2.2.2.1.length≤8)
 else false
def cellOk (h:List CT) (n:Int) (c:CT):Bool :=
 shapeC c && c.2.2.2.2.2.1.all (valueOk h) && (decide (c.1=3) || c.2.2.2.2.2.1.all (belowV n))
def heapOk (h:List CT):Bool:=decide (h.length≤300) && (List.range h.length).all fun i=>cellOk h i (h.getD i ((0:Int),bE,(0:Int),(0:Int),([]:List ByteArray),([]:List VT),()))
theorem mem_getD {α:Type}{l:List α}{d:α}{i:Nat} (h:i<l.length):l.getD i d∈l:=by
 rw [getD_lt h];exact List.getElem_mem h
theorem ite_flip {X:Type}{c d:Bool}{i1:Decidable (c=true)}{i2:Decidable (d=true)}{a b:X} (h:c=!d):(if c=true then some a else some b)=some (if d=true then b else a):=by
 subst h
 cases d <;> simp
theorem lt_cast {i n:Nat} (h:i<n):(i:Int)<(n:Int):=by omega
theorem e_i_allNames (N:Nat) (x:List ByteArray×Unit) (hl:x.1.length<big) (hs:∀ s∈x.1,s.size<big) (hN:big≤N):i_allNames N x=some (x.1.all isName,()):=by
 have hb:big=1048577:=rfl
 unfold i_allNames
 rw [loop_all x.1 bE isName (b:=()) (c:=(false,())) (by omega) ?h ?hd (by omega)]
 case hd=>simp
 case h =>
  intro i hi
  have h2:=hs _ (mem_getD (d:=bE) hi)
  simp only [lt_cast hi,decide_true,if_true,inB_nat,hi,tN]
  rw [e_i_IsName N _ (show (x.1.getD i bE).size<_ by omega) (show (x.1.getD i bE).size<N by omega)]
  simp only [oB]
  cases isName (x.1.getD i bE) <;> rfl
 cases x.1.all isName <;> rfl
theorem e_i_valuesOk (N:Nat) (x:List CT×List VT×Unit) (h1:x.1.length<big) (hl:x.2.1.length<big) (hs:∀ s∈x.2.1,SzV s) (hN:big≤N):i_valuesOk N x=some (x.2.1.all (valueOk x.1),()):=by
 have hb:big=1048577:=rfl
 unfold i_valuesOk
 rw [loop_all x.2.1 ((0:Int),(0:Int),bE,()) (valueOk x.1) (b:=()) (c:=(false,())) (by omega) ?h ?hd (by omega)]
 case hd=>simp
 case h =>
  intro i hi
  have hm:x.2.1.getD i ((0:Int),(0:Int),bE,())∈x.2.1:=mem_getD hi
  dsimp only
  rw [tN]
  generalize x.2.1.getD i ((0:Int),(0:Int),bE,())=v at hm ⊢
  rw [e_i_ValueOk N (x.1,v,()) (hs v hm) h1 hN]
  simp only [lt_cast hi,decide_true,if_true,inB_nat,hi,oB]
  cases valueOk x.1 v <;> rfl
 cases x.2.1.all (valueOk x.1) <;> rfl
theorem kindRef (v:VT):decide ((if v.1=5 then (1:Int) else if v.1=6 then 2 else if v.1=7 then 3 else 0)=0)=!refV v:=by
 unfold refV
 by_cases k5:v.1=5
 ·simp [k5]
 ·by_cases k6:v.1=6
  ·simp [k6]
  ·by_cases k7:v.1=7
   ·simp [k7]
   ·rw [if_neg k5,if_neg k6,if_neg k7]
    have:¬ (v.1≥5∧v.1≤7):=by omega
    simp only [← Bool.decide_and]
    rw [decide_eq_false this];rfl
theorem e_i_areBelow (N:Nat) (x:List VT×Int×Unit) (hl:x.1.length<big) (hN:big≤N):i_areBelow N x=some (x.1.all (belowV x.2.1),()):=by
 have hb:big=1048577:=rfl
 unfold i_areBelow
 rw [loop_all x.1 ((0:Int),(0:Int),bE,()) (belowV x.2.1) (b:=()) (c:=(false,())) (by omega) ?h ?hd (by omega)]
 case hd=>simp
 case h =>
  intro i hi
  dsimp only
  rw [tN]
  generalize x.1.getD i ((0:Int),(0:Int),bE,())=v
  simp only [lt_cast hi,decide_true,if_true,inB_nat,hi,e_i_cellKind,oB,and_some,Bool.decide_eq_true,kindRef,Bool.not_not]
  exact ite_flip (by unfold belowV;rw [Bool.not_not])
 cases x.1.all (belowV x.2.1) <;> rfl
theorem e_i_cellOk (N:Nat) (x:CT×Unit) (hc:SzC x.1) (hN:big≤N):i_cellOk N x=some (shapeC x.1,()):=by
 obtain ⟨⟨k,s,a,b,ns,vs,u'⟩,u⟩:=x
 obtain ⟨h1,h2,h3,h4,h5⟩:=hc
 simp only at h1 h2 h3 h4 h5
 unfold i_cellOk shapeC
 simp only [e_i_allNames N (ns,()) h2 h3 hN,e_i_inRange,oB,and_some,decide_eq_true_eq,Bool.decide_eq_true,inI]
 have e0:∀ n:Nat,decide ((n:Int)=0)=decide (n=0):=fun n=>decide_eq_decide.2 (by omega)
 have e2:∀ n:Nat,decide ((n:Int)=2)=decide (n=2):=fun n=>decide_eq_decide.2 (by omega)
 have e8:∀ n:Nat,decide ((n:Int)≤8)=decide (n≤8):=fun n=>decide_eq_decide.2 (by omega)
 have ee:∀ n m:Nat,decide ((n:Int)=(m:Int))=decide (n=m):=fun n m=>decide_eq_decide.2 (by omega)
 simp only [e0,e2,e8,ee]
 by_cases k1:k=1
 ·simp [k1]
 ·by_cases k2:k=2
  ·simp only [k1,if_false,k2,if_true]
   congr 2
  ·by_cases k3:k=3
   ·simp only [k1,k2,if_false,k3,if_true]
    congr 2
   ·simp [k1,k2,k3]
theorem e_i_HeapOk (N:Nat) (x:List CT×Unit) (hh:SzH x.1) (hN:big≤N):i_HeapOk N x=some (heapOk x.1,()):=by
 have hb:big=1048577:=rfl
 obtain ⟨h,u⟩:=x
 obtain ⟨hl,hc⟩:=hh
 simp only at hl hc
 unfold i_HeapOk heapOk
 have e3:decide ((h.length:Int)>300)=!decide (h.length≤300):=by
  rw [← decide_not];exact decide_eq_decide.2 (by omega)
 simp only [e3]
 by_cases h3:h.length≤300
 ·simp only [h3,decide_true,bN,bF,if_false,Bool.true_and]
  rw [iter_all (fun i=>((i:Int),())) (fun i=>cellOk h i (h.getD i ((0:Int),bE,(0:Int),(0:Int),([]:List ByteArray),([]:List VT),()))) (n:=h.length) (x0:=(0,())) (b:=()) (c:=(false,())) ?h ?hd (by omega) rfl]
  case hd=>simp
  case h =>
   intro i hi
   have hm:h.getD i ((0:Int),bE,(0:Int),(0:Int),([]:List ByteArray),([]:List VT),())∈h:=mem_getD hi
   dsimp only
   rw [tN,wrap_nat (by omega)]
   generalize h.getD i ((0:Int),bE,(0:Int),(0:Int),([]:List ByteArray),([]:List VT),())=c at hm ⊢
   have h2:=hc c hm
   rw [e_i_cellOk N (c,()) h2 hN,e_i_valuesOk N (h,c.2.2.2.2.2.1,()) hl h2.2.2.2.1 h2.2.2.2.2 hN,e_i_areBelow N (c.2.2.2.2.2.1,(i:Int),()) h2.2.2.2.1 hN]
   simp only [lt_cast hi,decide_true,if_true,inB_nat,hi,oB,or_some,and_some,Bool.decide_eq_true]
   refine ite_flip ?_
   unfold cellOk
   by_cases hk:c.1=3 <;> cases hb1:shapeC c <;> cases hb2:c.2.2.2.2.2.1.all (valueOk h) <;> cases hb3:c.2.2.2.2.2.1.all (belowV i) <;> simp only [hk,decide_true,decide_false,bN,Bool.not_false,Bool.and_true,Bool.true_and,Bool.false_and,Bool.and_false,Bool.or_true,Bool.true_or,Bool.or_false,Bool.false_or]
  cases (List.range h.length).all fun i=>cellOk h i (h.getD i ((0:Int),bE,(0:Int),(0:Int),([]:List ByteArray),([]:List VT),())) <;> rfl
 ·simp [h3]
theorem e_s_l6Points (N:Nat) (x:VT×Unit):s_l6Points N x=some (refV x.1,()):=by
 unfold s_l6Points
 rw [e_s_l1In]
 rfl
theorem or_chain {P:Prop}{i1:Decidable P}{c:Bool}:((if P then some (decide P,()) else some (c,())).bind fun j=>some (j.1,()))=some (decide P || c,()):=by
 by_cases h:P <;> simp [h]
theorem or_end {P:Prop}{i1:Decidable P}{c:Bool}:(if P then some (decide P,()) else some (c,()))=some (decide P || c,()):=by
 by_cases h:P <;> simp [h]
theorem e_s_Arity (N:Nat) (x:ByteArray×Unit):s_Arity N x=some (arity x.1,()):=by
 unfold s_Arity
 have e:∀ l:List UInt8,decide (x.1=ByteArray.mk l.toArray)=decide (x.1.data.toList=l):=fun l=>decide_eq_decide.2 (eq_bs x.1 l)
 have e1:=e [43]
 have e2:=e [45]
 have e3:=e [42]
 have e4:=e [60]
 have e5:=e [61]
 have e6:=e [101,113,63]
 have e7:=e [99,111,110,115]
 have f1:=e [99,97,114]
 have f2:=e [99,100,114]
 have f3:=e [110,117,108,108,63]
 have f4:=e [112,97,105,114,63]
 have f5:=e [110,111,116]
 have f6:=e [112,114,105,110,116]
 have f7:=e [101,114,114,111,114]
 have f8:=e [102,105,101,108,100]
 have f9:=e [105,115]
 have g:=e [109,97,107,101]
 unfold arity oneOf two one
 simp only [e1,e2,e3,e4,e5,e6,e7,f1,f2,f3,f4,f5,f6,f7,f8,f9,g]
 generalize x.1.data.toList=l
 simp only [decide_eq_true_eq,or_chain,or_end,oB]
 simp only [List.mem_cons,List.not_mem_nil,or_false,Bool.or_eq_true,decide_eq_true_eq]
 by_cases h1:l=[43]∨l=[45]∨l=[42]∨l=[60]∨l=[61]∨l=[101,113,63]∨l=[99,111,110,115]
 ·rw [if_pos h1,if_pos h1]
 ·rw [if_neg h1,if_neg h1]
  by_cases h2:l=[99,97,114]∨l=[99,100,114]∨l=[110,117,108,108,63]∨l=[112,97,105,114,63]∨l=[110,111,116]∨l=[112,114,105,110,116]∨l=[101,114,114,111,114]∨l=[102,105,101,108,100]∨l=[105,115]
  ·rw [if_pos h2,if_pos h2]
  ·rw [if_neg h2,if_neg h2]
   by_cases h3:l=[109,97,107,101] <;> simp [h3]
theorem e_s_IsName (N:Nat) (x:ByteArray×Unit) (hs:x.1.size<2000000000) (hN:x.1.size<N) (hN2:1000≤N):s_IsName N x=some (isName x.1,()):=by
 unfold s_IsName
 rw [e_s_l2Sym N _ (show x.1.size<_ by omega) hN hN2,e_s_l3Word N _ hN2,e_s_Arity N _]
 simp only [oB,isName]
 have e:(x.1=ByteArray.mk #[37,116])↔_:=eq_bs x.1 [37,116]
 simp only [e,decide_eq_true_eq,and_some,or_some,oB]
 by_cases h:x.1.data.toList=[37,116]
 ·simp [h]
 ·simp only [h,decide_false,bF,if_false,Bool.false_or]
  cases symOk x.1 <;> cases oneOf wordL x.1 <;> simp
end Go.Rf
namespace Go.Rf
theorem all_and' {α:Type} (l:List α) (p q:α→Bool):l.all (fun v=>p v && q v)=(l.all p && l.all q):=by
 induction l with
 | nil=>rfl
 | cons a l ih=>simp only [List.all_cons,ih];cases p a <;> cases q a <;> cases l.all p <;> cases l.all q <;> rfl
theorem all_or' {α:Type} (l:List α) (c:Bool) (q:α→Bool):l.all (fun v=>c || q v)=(c || l.all q):=by
 cases c
 ·simp
 ·simp [List.all_eq_true]
theorem e_s_l6CellOk (N:Nat) (x:List CT×Int×Unit) (n:Nat) (hn:x.2.1=(n:Int)) (hn2:n<x.1.length) (hh:SzH x.1) (hN:big≤N):s_l6CellOk N x=some (cellOk x.1 n (x.1.getD n ((0:Int),bE,(0:Int),(0:Int),([]:List ByteArray),([]:List VT),())),()):=by
 have hb:big=1048577:=rfl
 obtain ⟨h,n',u⟩:=x
 simp only at hn hn2 hh
 subst hn
 unfold s_l6CellOk
 dsimp only
 rw [tN,if_pos (inB_nat.2 hn2)]
 have hm:h.getD n ((0:Int),bE,(0:Int),(0:Int),([]:List ByteArray),([]:List VT),())∈h:=mem_getD hn2
 have hc:=hh.2 _ hm
 generalize h.getD n ((0:Int),bE,(0:Int),(0:Int),([]:List ByteArray),([]:List VT),())=c at hc ⊢
 obtain ⟨k,s,a,b,ns,vs,u'⟩:=c
 obtain ⟨h1,h2,h3,h4,h5⟩:=hc
 simp only at h1 h2 h3 h4 h5
 rw [iter_all (x0:=((k,s,a,b,ns,vs,u'),0,())) (fun i=>((k,s,a,b,ns,vs,u'),(i:Int),())) (fun i=>valueOk h (vs.getD i ((0:Int),(0:Int),bE,())) && (decide (k=3) || belowV n (vs.getD i ((0:Int),(0:Int),bE,())))) (n:=vs.length) (b:=((k,s,a,b,ns,vs,u'),())) (c:=(false,())) ?h ?hd (by omega) rfl]
 case hd=>simp
 case h =>
  intro i hi
  have hm:vs.getD i ((0:Int),(0:Int),bE,())∈vs:=mem_getD hi
  dsimp only
  rw [tN,wrap_nat (by omega)]
  generalize vs.getD i ((0:Int),(0:Int),bE,())=v at hm ⊢
  rw [e_s_ValueOk N (h,v,()) (h5 v hm) hN,e_s_l6Points]
  simp only [lt_cast hi,decide_true,if_true,inB_nat,hi,oB,or_some,and_some,Bool.decide_eq_true]
  refine ite_flip ?_
  unfold belowV
  cases hb1:valueOk h v <;> cases hb2:refV v <;> by_cases hk:k=3 <;> by_cases hb3:v.2.1≥n <;> simp only [hk,hb3,decide_true,decide_false,bN,Bool.not_false,Bool.and_true,Bool.true_and,Bool.false_and,Bool.and_false,Bool.or_true,Bool.true_or,Bool.or_false,Bool.false_or]
 rw [range_all_getD vs ((0:Int),(0:Int),bE,()) (fun v=>valueOk h v && (decide (k=3) || belowV n v)),all_and',all_or']
 unfold cellOk shapeC
 simp only
 generalize hB:(vs.all (valueOk h) && (decide (k=3) || vs.all (belowV n)))=B
 rw [Bool.and_assoc,hB]
 cases B with
 | false=>simp
 | true =>
  simp only [if_true,oB,Bool.and_true,decide_eq_true_eq]
  have e0:∀ n:Nat,decide ((n:Int)=0)=decide (n=0):=fun n=>decide_eq_decide.2 (by omega)
  have e2:∀ n:Nat,decide ((n:Int)=2)=decide (n=2):=fun n=>decide_eq_decide.2 (by omega)
  have e8:∀ n:Nat,decide ((n:Int)≤8)=decide (n≤8):=fun n=>decide_eq_decide.2 (by omega)
  have ee:∀ n m:Nat,decide ((n:Int)=(m:Int))=decide (m=n):=fun n m=>decide_eq_decide.2 (by omega)
  by_cases k1:k=1
  ·simp only [k1,if_true,and_some,oB,Bool.decide_eq_true,e0,e2]
  ·by_cases k2:k=2
   ·rw [if_neg k1,if_pos k2,if_neg k1,if_pos k2]
    rw [iter_all (x0:=((k,s,a,b,ns,vs,u'),0,())) (fun i=>((k,s,a,b,ns,vs,u'),(i:Int),())) (fun i=>isName (ns.getD i bE)) (n:=ns.length) (b:=((k,s,a,b,ns,vs,u'),())) (c:=(false,())) ?h2 ?hd2 (by omega) rfl]
    case hd2=>simp
    case h2 =>
     intro i hi
     have hm:ns.getD i bE∈ns:=mem_getD hi
     dsimp only
     rw [tN,wrap_nat (by omega)]
     generalize ns.getD i bE=w at hm ⊢
     have:=h3 w hm
     rw [e_s_IsName N (w,()) (show w.size<_ by omega) (show w.size<N by omega) (by omega)]
     simp only [lt_cast hi,decide_true,if_true,inB_nat,hi,oB]
     exact ite_flip rfl
    rw [range_all_getD ns bE isName]
    cases ns.all isName with
    | false=>simp
    | true =>
     simp only [if_true,oB,and_some,Bool.decide_eq_true,ee,Bool.and_true]
   ·by_cases k3:k=3
    ·rw [if_neg k1,if_neg k2,if_pos k3,if_neg k1,if_neg k2,if_pos k3]
     simp only [k3,if_true,and_some,oB,Bool.decide_eq_true,e0,e8,e_s_l1In,inI,decide_not]
    ·simp only [k1,k2,k3,if_false]
theorem e_s_HeapOk (N:Nat) (x:List CT×Unit) (hh:SzH x.1) (hN:big≤N):s_HeapOk N x=some (heapOk x.1,()):=by
 have hb:big=1048577:=rfl
 obtain ⟨h,u⟩:=x
 simp only at hh
 unfold s_HeapOk heapOk
 have e3:decide ((h.length:Int)>300)=!decide (h.length≤300):=by
  rw [← decide_not];exact decide_eq_decide.2 (by omega)
 simp only [e3]
 by_cases h3:h.length≤300
 ·simp only [h3,decide_true,bN,bF,if_false,Bool.true_and]
  rw [iter_all (fun i=>((i:Int),())) (fun i=>cellOk h i (h.getD i ((0:Int),bE,(0:Int),(0:Int),([]:List ByteArray),([]:List VT),()))) (n:=h.length) (x0:=(0,())) (b:=()) (c:=(false,())) ?h ?hd (by omega) rfl]
  case hd=>simp
  case h =>
   intro i hi
   dsimp only
   rw [wrap_nat (by omega),e_s_l6CellOk N (h,(i:Int),()) i rfl hi hh hN]
   simp only [lt_cast hi,decide_true,if_true,oB]
   exact ite_flip rfl
  cases (List.range h.length).all fun i=>cellOk h i (h.getD i ((0:Int),bE,(0:Int),(0:Int),([]:List ByteArray),([]:List VT),())) <;> rfl
 ·simp [h3]
end Go.Rf
namespace Go.Rf
def leastW (n:Int):Int:=if n>100000 then 100000 else n
def addW (i:Nat) (w:List Int) (v:VT):List Int:=if v.1=5 then w.set i (leastW (w.getD i 0+w.getD v.2.1.toNat 0)) else w
def stepW (h:List CT) (w:List Int) (i:Nat):List Int:=if (h.getD i ((0:Int),bE,(0:Int),(0:Int),([]:List ByteArray),([]:List VT),())).1=1 then (h.getD i ((0:Int),bE,(0:Int),(0:Int),([]:List ByteArray),([]:List VT),())).2.2.2.2.2.1.foldl (addW i) (w.set i 1) else w
def wts (h:List CT) (k:Nat):List Int:=(List.range k).foldl (stepW h) (List.replicate h.length 0)
def weight (h:List CT) (v:VT):Int:=if heapOk h && valueOk h v && decide (v.1=5) then (wts h h.length).getD v.2.1.toNat 0 else 0
end Go.Rf
namespace Go.Rf
def lim:Nat:=9223372036854775807
theorem wrap_sub {left:Int}{n:Nat} (h0:0≤left) (hB:left≤1048576) (hn:n≤lim):wI (left-(n:Int))=left-(n:Int):=by
 have:lim=9223372036854775807:=rfl
 exact wrap_id (by omega) (by omega)
end Go.Rf
namespace Go.Rf
theorem loop_fill {α C:Type}{f:List α×Int×Unit→Option (Step (List α×Int×Unit) (List α×Unit) C)} (l:List α) (d d':α){N:Nat}
  (h:∀ i w,i<l.length→w.length=l.length→f (w,(i:Int),())=some (.more (w.set i (l.getD i d),((i+1:Nat):Int),())))
  (hd:∀ w,f (w,(l.length:Int),())=some (.done (w,()))) (hN:l.length<N) :
  iter f N (List.replicate l.length d',0,())=some (.inl (l,())):=by
 have e:(l,())=((l.take l.length++List.replicate (l.length-l.length) d'),()):=by simp
 rw [e]
 refine iter_done (fun i=>(l.take i++List.replicate (l.length-i) d',(i:Int),())) (k:=0) (n:=l.length) (fun i _ hi=>?_) (Nat.zero_le _) ?_ (by omega) (by simp)
 ·rw [h i _ hi (by simp;omega)]
  congr 3
  rw [getD_lt hi,List.set_append_right _ _ (by simp;omega),show l.length-i=(l.length-(i+1))+1 by omega,List.replicate_succ]
  rw [show i-(l.take i).length=0 by simp;omega,List.set_cons_zero]
  have e2:l.take (i+1)=l.take i++[l[i]]:=by
   rw [List.take_add_one,List.getElem?_eq_getElem hi];rfl
  rw [e2,List.append_assoc]
  rfl
 ·rw [hd]
end Go.Rf
