import Derived.Test.YtfpeabnehpclnaaGreatTD
import Derived.Test.YtfpeabnehpclnaaGreatI
import Derived.Test.YtfpeabnehpclnaaGreatTF
namespace Go.Proofs.YtfpeabnehpclnaaGreatT
open Go Go.Proofs Go.Proofs.YtfpeabnehpclnaaGreatE
set_option linter.unusedVariables false
set_option linter.unusedSimpArgs false
def Upm {S Ω:Type} (n k:Nat) (J:Nat→S→Prop) (Q:Ω→Prop):S ⊕ Ω→Prop
 | .inl s'=>k < n∧J (k + 1) s'
 | .inr o=>Q o
theorem dH {S Ω:Type} {step:S→Option (S ⊕ Ω)} {Q:Ω→Prop} (n:Nat) (J:Nat→S→Prop) {s0:S} {k0:Nat} (a1:k0≤n) (h0:J k0 s0)
  (hs:∀ (k:Nat) (s:S),k≤n→J k s→Tri (step s) (Upm n k J Q)):Tri (iter step s0) Q:=by
 generalize hd:n - k0=d
 induction d using Nat.strongRecOn generalizing k0 s0 with
 | ind d ih =>
  obtain ⟨x,hx,hr⟩:=hs k0 s0 a1 h0
  rw [ul,hx]
  cases x with
  | inl s'=>exact ih (n - (k0 + 1)) (by have:=hr.1; omega) (k0:=k0 + 1) (by have:=hr.1; omega) hr.2 rfl
  | inr o=>exact ⟨o,rfl,hr⟩
def Asc (s:List Int):Prop:=∀ k:Nat,k + 1 < s.length→idx s (k:Int) < idx s ((k + 1:Nat):Int)
instance (s:List Int):Decidable (Asc s):=by
 unfold Asc;exact decidable_of_iff (∀ k,k < s.length→k + 1 < s.length→idx s (k:Int) < idx s ((k + 1:Nat):Int)) ⟨fun h k hk=>h k (by omega) hk,fun h k _ hk=>h k hk⟩
theorem mM {s:List Int} {k:Nat} (h:k < s.length):idx s (k:Int)=s[k]:=dm rfl h
theorem Ak {s:List Int}:Asc s↔s.Pairwise (· < ·):=by
 rw [List.pairwise_iff_getElem]
 constructor
 ·intro h i j hi hj hij
  induction j with
  | zero=>omega
  | succ j ih =>
   have h1:=h j hj
   rw [mM (by omega),mM hj] at h1
   rcases Nat.lt_or_ge i j with h2 | h2
   ·exact Int.lt_trans (ih (by omega) h2) h1
   ·have:i=j:=by omega
    subst this;exact h1
 ·intro h k hk
  rw [mM (by omega),mM hk]
  exact h k (k + 1) (by omega) hk (by omega)
def SOk (t:Int) (s:List Int):Bool:=(t == 1 && decide (s.length≤1)) || (t == 2 && decide (s.length≤64)) || (t == 3 && decide (Asc s) && decide (s.length≤64)) || (t == 4 && s.length == 1)
def chk (t:Int) (s:List Int):Int:=if 1≤t∧t≤4 then (if SOk t s then 0 else 80) else 1
theorem mZ {k:Nat} (h:k < 2 ^ 62) (h1:1≤k):w64 ((k:Int) - 1)=((k - 1:Nat):Int):=by
 rw [nK (by omega) (by omega)]; omega
theorem Fb {s:List Int} (hs:s.length < 2 ^ 62):gT () s=some (decide (Asc s) && decide (s.length≤64)):=by
 unfold gT;refine eQ.1 ?_;refine dH (k0:=1) (s.length + 1) (fun k x=>x=(k:Int)∧1≤k∧∀ j:Nat,j + 1 < k→j + 1 < s.length→idx s (j:Int) < idx s ((j + 1:Nat):Int)) (by omega) ⟨rfl,Nat.le_refl _,fun j h=>by omega⟩ ?_
 rintro k x hk ⟨rfl,a1,hJ⟩;unfold qC;refine eP (fun h => ?_) (fun h => ?_)
 ·have h:(k:Int) < s.length:=of_decide_eq_true h;have e:=mZ (k:=k) (by omega) a1;refine ah (by rw [e]; omega) (ah (by omega) (eP (fun h2 => ?_) (fun h2 => ?_)))
  ·have h2:idx s (k:Int)≤idx s (w64 ((k:Int) - 1)):=of_decide_eq_true h2
   rw [e] at h2
   refine ax (ag ?_)
   show false=_
   have hn:¬ Asc s:=by
    intro hA;have:=hA (k - 1) (by omega)
    rw [show k - 1 + 1=k by omega] at this
    omega
   simp [hn]
  ·have h2:¬ idx s (k:Int)≤idx s (w64 ((k:Int) - 1)):=of_decide_eq_false h2
   rw [e] at h2
   refine ⟨_,rfl,by omega,aZ (by omega),by omega,fun j hj hl => ?_⟩
   rcases Nat.lt_or_ge (j + 1) k with h3 | h3
   ·exact hJ j h3 hl
   ·have:j=k - 1:=by omega
    subst this
    rw [show k - 1 + 1=k by omega]
    omega
 ·have h:¬ (k:Int) < s.length:=of_decide_eq_false h;refine ax (ag ?_)
  show decide ((s.length:Int)≤64)=_
  have hA:Asc s:=fun j hj=>hJ j (by omega) hj
  simp only [hA,decide_true,Bool.true_and]
  congr 1
  exact propext ⟨fun h=>by omega,fun h=>by omega⟩
theorem NQ {t:Int} {s:List Int} (h:1≤t∧t≤4):chk t s=if SOk t s then 0 else 80:=if_pos h
theorem four {t:Int} (h:1≤t∧t≤4):t=1∨t=2∨t=3∨t=4:=by omega
theorem TZ {s:List Int} {n:Nat}:decide ((s.length:Int)≤(n:Int))=decide (s.length≤n):=by
 congr 1
 exact propext ⟨fun h=>by omega,fun h=>by omega⟩
theorem Iu {t:Int} (h:¬ (1≤t∧t≤4)):kI t=some (-1):=by
 have e1:(t == 1)=false:=by rw [beq_eq_false_iff_ne]; omega
 have e2:(t == 2)=false:=by rw [beq_eq_false_iff_ne]; omega
 have e3:(t == 3)=false:=by rw [beq_eq_false_iff_ne]; omega
 have e4:(t == 4)=false:=by rw [beq_eq_false_iff_ne]; omega
 simp [kI,e1,e2,e3,e4]
theorem Df (t:Int) {s:List Int} (hs:s.length < 2 ^ 62):kK t s=some (chk t s):=by
 by_cases ht:1≤t∧t≤4
 ·rw [NQ ht]
  rcases four ht with rfl | rfl | rfl | rfl
  ·have:=TZ (s:=s) (n:=1)
   simp only [Int.cast_ofNat_Int] at this
   simp [kK,kI,kJ,SOk]
   by_cases h:s.length≤1
   ·have h':(s.length:Int)≤1:=by omega
    simp [h,h']
   ·have h':¬ (s.length:Int)≤1:=by omega
    simp [h,h']
  ·simp [kK,kI,oQ,SOk]
   by_cases h:s.length≤64
   ·have h':(s.length:Int)≤64:=by omega
    simp [h,h']
   ·have h':¬ (s.length:Int)≤64:=by omega
    simp [h,h']
  ·simp [kK,kI,Fb hs,SOk]
   by_cases h:Asc s <;> by_cases h':s.length≤64 <;> simp [h,h']
  ·simp [kK,kI,lI,SOk]
   by_cases h:s.length=1
   ·have h':(s.length:Int)=1:=by omega
    simp [h,h']
   ·have h':((s.length:Int) == 1)=false:=by rw [beq_eq_false_iff_ne]; omega
    simp [h,h']
 ·rw [chk,if_neg ht]
  simp [kK,Iu ht]
def lb (s:List Int) (a:Int):Nat:=s.findIdx (fun x=>decide (a≤x))
def hit (s:List Int) (a:Int):Bool:=decide (lb s a < s.length) && (idx s (lb s a:Int) == a)
def ins (s:List Int) (a:Int):List Int:=s.take (lb s a)++((if hit s a then [] else [a])++s.drop (lb s a))
theorem PG (s:List Int) (a:Int):lb s a≤s.length:=List.findIdx_le_length
theorem TC {s:List Int} {a:Int} {k:Nat} (h:k < lb s a):idx s (k:Int) < a:=by
 have h1:k < s.length:=Nat.lt_of_lt_of_le h (PG s a)
 rw [mM h1]
 have:=List.not_of_lt_findIdx (p:=fun x=>decide (a≤x)) (xs:=s) h
 simpa using this
theorem TD {s:List Int} {a:Int} (h:lb s a < s.length):a≤idx s (lb s a:Int):=by
 rw [mM h]
 have:=List.findIdx_getElem (p:=fun x=>decide (a≤x)) (xs:=s) (w:=h);exact of_decide_eq_true this
theorem SA {s:List Int} {a:Int} {i:Nat} (hi:i≤s.length) (h1:∀ k:Nat,k < i→idx s (k:Int) < a) (h2:i < s.length→a≤idx s (i:Int)):lb s a=i:=by
 rcases Nat.lt_trichotomy (lb s a) i with h | h | h
 ·have:=TD (s:=s) (a:=a) (by omega);have:=h1 _ h
  omega
 ·exact h
 ·have h3:=TC h;have:=h2 (by have:=PG s a; omega)
  omega
theorem Rv {i j:Nat} (hi:i < 2 ^ 62) (hj:j < 2 ^ 62):w64 (fu .u64 (IntKind.wrap .u64 (w64 ((i:Int) + (j:Int)))) (1:Int))=(((i + j) / 2:Nat):Int):=by
 have e1:w64 ((i:Int) + (j:Int))=((i + j:Nat):Int):=by rw [nK (by omega) (by omega)]; omega
 rw [e1,wrap_u64 (by omega),KE (n:=1) (i:=(1:Int)) rfl (by omega),nK (by omega) (by omega)]
 simp [Nat.shiftRight_eq_div_pow]
theorem NR (a b:Int):om a b=some (decide (a < b)):=by simp [om,mV]
theorem JI {s:List Int} (a:Int) (hA:Asc s) (hs:s.length < 2 ^ 62):bS s a=some ((lb s a:Int),hit s a):=by
 unfold bS;refine eQ.1 ?_;have hP:=List.pairwise_iff_getElem.1 (Ak.1 hA);have hmono:∀ p q:Nat,p≤q→q < s.length→idx s (p:Int)≤idx s (q:Int):=by
  intro p q hpq hq;rcases Nat.lt_or_ge p q with h | h
  ·rw [mM (by omega),mM hq]
   exact Int.le_of_lt (hP p q (by omega) hq h)
  ·have:p=q:=by omega
   subst this;exact Int.le_refl _
 refine oM (fun x:Int×Int=>∃ i j:Nat,x=((i:Int),(j:Int))∧i≤j∧j≤s.length∧(∀ k:Nat,k < i→idx s (k:Int) < a)∧(j < s.length→a≤idx s (j:Int))) (fun x=>x.2.toNat - x.1.toNat)
  ⟨0,s.length,rfl,by omega,by omega,fun k h=>by omega,fun h=>by omega⟩ ?_
 rintro _ ⟨i,j,rfl,hij,hj,h1,h2⟩;unfold jo;refine eP (fun h => ?_) (fun h => ?_)
 ·have h:(i:Int) < j:=of_decide_eq_true h;have e:=Rv (i:=i) (j:=j) (by omega) (by omega)
  rw [e]
  refine ah (by decide) (ah (by omega) ?_)
  rw [NR]
  show Tri (bif decide _ then _ else _) _
  have hm:(i + j) / 2 < j:=by omega
  have a1:i≤(i + j) / 2:=by omega
  generalize (i + j) / 2=m at hm a1;refine eP (fun h3 => ?_) (fun h3 => ?_)
  ·have h3:idx s (m:Int) < a:=of_decide_eq_true h3;refine ⟨_,rfl,⟨m + 1,j,by rw [aZ (by omega)],by omega,hj,fun k hk => ?_,h2⟩,?_⟩
   ·exact Int.lt_of_le_of_lt (hmono k m (by omega) (by omega)) h3
   ·rw [aZ (by omega)]; simp only [Int.toNat_natCast]; omega
  ·have h3:¬ idx s (m:Int) < a:=of_decide_eq_false h3;refine ⟨_,rfl,⟨i,m,rfl,a1,by omega,h1,fun _=>by omega⟩,?_⟩
   simp only [Int.toNat_natCast]; omega
 ·have h:¬ (i:Int) < j:=of_decide_eq_false h;have hji:j=i:=by omega
  subst hji;have hl:lb s a=j:=SA hj h1 h2;refine eP (fun h3 => ?_) (fun h3 => ?_)
  ·have h3:(j:Int) < s.length:=of_decide_eq_true h3;have hlt:j < s.length:=by omega
   refine ah (by omega) (eP (fun h4 => ?_) (fun h4 => ?_))
   ·refine ax (ag ?_)
    simp [Rnd,hl,hit,hlt,h4]
   ·simp only [jI,Option.bind_some,bne_self_eq_false,cond_false]
    refine ax (ag ?_)
    simp [Rnd,hl,hit,hlt,h4]
  ·have h3:¬ (j:Int) < s.length:=of_decide_eq_false h3;have hlt:¬ j < s.length:=by omega
   refine ax (ag ?_)
   simp [Rnd,hl,hit,hlt]
theorem Rw {s:List Int} {a:Int} (hA:Asc s):hit s a=true↔a ∈ s:=by
 unfold hit
 simp only [Bool.and_eq_true,decide_eq_true_eq,beq_iff_eq]
 constructor
 ·rintro ⟨h1,h2⟩
  rw [mM h1] at h2
  exact h2 ▸ List.getElem_mem h1
 ·intro h;obtain ⟨k,hk,e⟩:=List.getElem_of_mem h;have hP:=List.pairwise_iff_getElem.1 (Ak.1 hA);have:lb s a=k:=by
   refine SA (by omega) (fun j hj => ?_) (fun _ => ?_)
   ·rw [mM (by omega),← e]; exact hP j k (by omega) hk hj
   ·rw [mM hk,e]; exact Int.le_refl _
  rw [this]
  exact ⟨hk,by rw [mM hk,e]⟩
def next (t:Int) (s:List Int) (a:Int):List Int:=if t=1 then [a] else if t=2 then s++[a] else if t=3 then ins s a else [w64 (idx s 0 + a)]
def app (t:Int) (s:List Int) (a:Int):List Int×Int :=
 if chk t s≠0 then ([],chk t s) else if (next t s a).length > 64 then ([],2) else (next t s a,0)
theorem SI {t:Int} {s:List Int} (h:chk t s=0):1≤t∧t≤4∧SOk t s=true:=by
 unfold chk at h
 split at h
 ·rename_i h1
  split at h
  ·exact ⟨h1.1,h1.2,by assumption⟩
  ·cases h
 ·cases h
theorem SK {t:Int} {s:List Int} (h:SOk t s=true):s.length≤64:=by
 simp only [SOk,Bool.or_eq_true,Bool.and_eq_true,decide_eq_true_eq,beq_iff_eq] at h
 omega
theorem SL {s:List Int} (h:SOk 3 s=true):Asc s:=by
 simp [SOk] at h
 exact h.1
theorem ok_one {s:List Int} (h:SOk 4 s=true):s.length=1:=by
 simp [SOk] at h
 exact h
def start (t:Int):List Int×Int:=if 1≤t∧t≤4 then (if t=4 then [0] else [],0) else ([],1)
def step (t:Int) (x:List Int×Int) (a:Int):List Int×Int:=if x.2=0 then app t x.1 a else x
theorem NS {a b:List Int} (ha:a.length < 2 ^ 62):eu a b=some (decide (a=b)):=by
 unfold eu
 by_cases hl:a.length=b.length
 ·have:((a.length:Int) != (b.length:Int))=false:=by simp; omega
  rw [this,cond_false]
  refine eQ.1 ?_;refine LY a.length (fun k=>∀ j:Nat,j < k→idx a (j:Int)=idx b (j:Int)) (fun j h=>by omega) (fun k hk hJ => ?_);unfold mf;refine eP (fun h => ?_) (fun h => ?_)
  ·have h:(k:Int) < a.length:=of_decide_eq_true h;refine ah (by omega) (ah (by omega) (eP (fun h2 => ?_) (fun h2 => ?_)))
   ·have h2:idx a (k:Int)≠idx b (k:Int):=by simpa using h2
    refine ax (ag ?_)
    show false=_
    have:a≠b:=fun e=>h2 (by rw [e])
    simp [this]
   ·have h2:idx a (k:Int)=idx b (k:Int):=by simpa using h2
    refine ⟨_,rfl,aZ (by omega),by omega,fun j hj => ?_⟩
    rcases Nat.lt_or_ge j k with h3 | h3
    ·exact hJ j h3
    ·have:j=k:=by omega
     subst this;exact h2
  ·have h:¬ (k:Int) < a.length:=of_decide_eq_false h;refine ax (ag ?_)
   show true=_
   have:a=b:=KD hl (fun j hj=>hJ j (by omega))
   simp [this]
 ·have:((a.length:Int) != (b.length:Int))=true:=by simp; omega
  rw [this,cond_true]
  have:a≠b:=fun e=>hl (by rw [e])
  simp [this]
end Go.Proofs.YtfpeabnehpclnaaGreatT
namespace Go.Proofs.YtfpeabnehpclnaaGreatT
open Go Go.Proofs Go.Proofs.YtfpeabnehpclnaaGreatE
set_option linter.unusedVariables false
set_option linter.unusedSimpArgs false
theorem Bp {a b:List Int} (ha:a.length < 2 ^ 62):fH a b=some (decide (a=b)):=by
 rw [← NS ha]
 rfl
def Fit (s args:List Int):Prop:=∀ k:Nat,k < args.length→idx args (k:Int) ∈ s∧idx args (k:Int) ∉ args.take k
instance (s args:List Int):Decidable (Fit s args):=by unfold Fit; infer_instance
def before (t:Int) (s args:List Int):List Int×Bool :=
 if chk t s≠0∨args=[] then ([],false)
 else if t=1 then ([],decide (s.length=1∧idx s 0=idx args ((args.length - 1:Nat):Int)))
 else if t=2 then (if args.length≤s.length∧s.drop (s.length - args.length)=args then (s.take (s.length - args.length),true) else ([],false))
 else if t=3 then (if Fit s args then (s.filter (fun x=>decide (x ∉ args)),true) else ([],false))
 else ([args.foldl (fun v a=>w64 (v - a)) (idx s 0)],true)
theorem Iw {s args:List Int} (hs:args.length < 2 ^ 62) (v:Int):iter (iW args) (v,0)=some ([args.foldl (fun v a=>w64 (v - a)) v],true):=by
 refine eQ.1 ?_;refine vC args.length (fun k x=>x=(args.take k).foldl (fun v a=>w64 (v - a)) v) rfl (fun k x hk hJ => ?_);subst hJ;unfold iW;refine eP (fun h => ?_) (fun h => ?_)
 ·have h:(k:Int) < args.length:=of_decide_eq_true h;have hks:k < args.length:=by omega
  refine ah (by omega) ⟨_,rfl,aZ (by omega),hks,?_⟩
  show _=List.foldl _ _ _
  rw [List.take_add_one,List.getElem?_eq_getElem hks,List.foldl_append,mM hks]
  rfl
 ·have h:¬ (k:Int) < args.length:=of_decide_eq_false h;refine ax (ag ?_)
  show ([_],true)=_
  rw [List.take_of_length_le (by omega)]
theorem BV {s args:List Int} (hs:s.length < 2 ^ 43) (ha:args.length < 2 ^ 62):eB () s args=some (if args.length≤s.length∧s.drop (s.length - args.length)=args then (s.take (s.length - args.length),true) else ([],false)):=by
 unfold eB
 by_cases hm:args.length≤s.length
 ·have e1:w64 ((s.length:Int) - (args.length:Int))=((s.length - args.length:Nat):Int):=by rw [nK (by omega) (by omega)]; omega
  have hlt:decide (w64 ((s.length:Int) - (args.length:Int)) < 0)=false:=decide_eq_false (by rw [e1]; omega)
  rw [hlt,cond_false,iQ _ (by rw [e1]; omega),e1]
  have hsl:kg s ((s.length - args.length:Nat):Int) (s.length:Int)=s.drop (s.length - args.length):=by simp [kg]
  have a1:kg s (0:Int) ((s.length - args.length:Nat):Int)=s.take (s.length - args.length):=by simp [kg]
  rw [hsl,Bp (by simp; omega)]
  simp only [Option.bind_some]
  unfold iN
  rw [e1,a1,iQ _ (by omega)]
  have hc:gq (s.take (s.length - args.length))=some (s.take (s.length - args.length)):=iQ _ (by simp; omega)
  rw [hc]
  by_cases he:s.drop (s.length - args.length)=args
  ·simp [he,hm]
  ·simp [he]
 ·have hlt:decide (w64 ((s.length:Int) - (args.length:Int)) < 0)=true:=decide_eq_true (by rw [nK (by omega) (by omega)]; omega)
  rw [hlt,cond_true,iN,cond_true,if_neg (fun h=>hm h.1)]
theorem Lj {s:List Int} (p:Int→Bool) (h:Asc s):Asc (s.filter p):=Ak.2 ((Ak.1 h).filter p)
theorem NT {args:List Int} {k:Nat} (h:k < args.length):args.take (k + 1)=args.take k++[idx args (k:Int)]:=by
 rw [List.take_add_one,List.getElem?_eq_getElem h,mM h]; rfl
theorem JJ {s args:List Int} {k:Nat} (h:k < args.length):s.filter (fun x=>decide (x ∉ args.take (k + 1)))=(s.filter (fun x=>decide (x ∉ args.take k))).filter (fun x=>decide (x≠idx args (k:Int))):=by
 rw [List.filter_filter]
 apply List.filter_congr
 intro x _
 rw [NT h]
 simp only [List.mem_append,List.mem_singleton,not_or]
 rw [Bool.eq_iff_iff]
 simp only [decide_eq_true_eq,Bool.and_eq_true]
 exact ⟨fun h=>⟨h.2,h.1⟩,fun h=>⟨h.2,h.1⟩⟩
theorem Ll {l:List Int} {a:Int} (hA:Asc l) (h:hit l a=true):l.take (lb l a)++l.drop (lb l a + 1)=l.filter (fun x=>decide (x≠a)):=by
 have hP:=List.pairwise_iff_getElem.1 (Ak.1 hA)
 simp only [hit,Bool.and_eq_true,decide_eq_true_eq,beq_iff_eq] at h
 obtain ⟨h1,h2⟩:=h
 rw [mM h1] at h2
 generalize lb l a=i at h1 h2
 conv=>rhs; rw [← List.take_append_drop i l,List.drop_eq_getElem_cons h1,List.filter_append,List.filter_cons,h2]
 rw [if_neg (by simp)]
 congr 1
 ·symm
  rw [List.filter_eq_self]
  intro x hx;obtain ⟨j,hj,rfl⟩:=List.getElem_of_mem hx;have hj':j < i:=by simp at hj; omega
  have:=hP j i (by omega) h1 hj'
  rw [List.getElem_take,decide_eq_true_eq]
  omega
 ·symm
  rw [List.filter_eq_self]
  intro x hx;obtain ⟨j,hj,rfl⟩:=List.getElem_of_mem hx;have hj':i + 1 + j < l.length:=by simp at hj; omega
  have:=hP i (i + 1 + j) h1 hj' (by omega)
  rw [List.getElem_drop,decide_eq_true_eq]
  omega
theorem Dg {s args:List Int} (hA:Asc s) (hs:s.length < 2 ^ 43) (ha:args.length < 2 ^ 62):fw () s args=some (if Fit s args then (s.filter (fun x=>decide (x ∉ args)),true) else ([],false)):=by
 unfold fw;have hc:gq s=some s:=iQ _ (by omega)
 rw [hc]
 refine eQ.1 ?_
 show Tri (iter (kM args) (s,0)) _
 refine vC args.length (fun k l=>l=s.filter (fun x=>decide (x ∉ args.take k))∧∀ j:Nat,j < k→idx args (j:Int) ∈ s∧idx args (j:Int) ∉ args.take j) ⟨by simp; exact (List.filter_eq_self.2 (fun _ _=>rfl)).symm,fun j h=>by omega⟩ (fun k l hk hJ => ?_)
 obtain ⟨hl,hJ⟩:=hJ;have hAl:Asc l:=by rw [hl]; exact Lj _ hA
 have hll:l.length≤s.length:=by rw [hl]; exact List.length_filter_le _ _
 unfold kM;refine eP (fun h => ?_) (fun h => ?_)
 ·have h:(k:Int) < args.length:=of_decide_eq_true h;have hks:k < args.length:=by omega
  refine ah (by omega) ?_
  rw [JI _ hAl (by omega)]
  have hm:=Rw (s:=l) (a:=idx args (k:Int)) hAl
  show Tri (bif !hit l (idx args (k:Int)) then _ else _) _
  cases hh:hit l (idx args (k:Int))
  ·simp only [Bool.not_false,cond_true]
   refine ax (ag ?_)
   show ([],false)=_
   have hn:¬ Fit s args:=by
    intro hF;have h1:=hF k hks;have:idx args (k:Int) ∈ l:=by rw [hl,List.mem_filter]; exact ⟨h1.1,by simpa using h1.2⟩
    rw [hm.2 this] at hh
    cases hh
   rw [if_neg hn]
  ·simp only [Bool.not_true,cond_false]
   have hi:=PG l (idx args (k:Int));have hlt:lb l (idx args (k:Int)) < l.length:=by
    simp only [hit,Bool.and_eq_true,decide_eq_true_eq] at hh
    exact hh.1
   have hd:jr l (lb l (idx args (k:Int)):Int) (w64 ((lb l (idx args (k:Int)):Int) + 1))=some (l.filter (fun x=>decide (x≠idx args (k:Int)))):=by
    unfold jr
    rw [aZ (by omega),iQ _ ⟨by omega,by omega,by omega⟩,Int.toNat_natCast,Int.toNat_natCast,Ll hAl hh]
   rw [hd]
   refine ⟨_,rfl,aZ (by omega),hks,?_,fun j hj => ?_⟩
   ·rw [JJ hks,← hl]
   ·rcases Nat.lt_or_ge j k with h3 | h3
    ·exact hJ j h3
    ·have:j=k:=by omega
     subst this;have hmem:=hm.1 hh
     rw [hl,List.mem_filter] at hmem
     exact ⟨hmem.1,by simpa using hmem.2⟩
 ·have h:¬ (k:Int) < args.length:=of_decide_eq_false h;have hF:Fit s args:=fun j hj=>hJ j (by omega);refine ax (ag ?_)
  show (l,true)=_
  rw [if_pos hF,hl,List.take_of_length_le (by omega)]
theorem PH {s args:List Int} (ha:args.length < 2 ^ 62) (h0:args≠[]):iA () s args=some ([],decide (s.length=1∧idx s 0=idx args ((args.length - 1:Nat):Int))):=by
 unfold iA;have hp:0 < args.length:=List.length_pos_iff.2 h0;have e1:w64 ((args.length:Int) - 1)=((args.length - 1:Nat):Int):=mZ ha hp
 rw [e1]
 by_cases h1:s.length=1
 ·have h2:((s.length:Int) == 1)=true:=by rw [beq_iff_eq]; omega
  rw [h2,cond_true,iQ _ (by omega),iQ _ (by omega)]
  simp [h1]
  rw [Bool.eq_iff_iff]; simp
 ·have h2:((s.length:Int) == 1)=false:=by rw [beq_eq_false_iff_ne]; omega
  rw [h2,cond_false]
  simp [h1]
theorem BX (t:Int) {s args:List Int} (hs:s.length < 2 ^ 62) (ha:args.length < 2 ^ 62):gU t s args=some (before t s args):=by
 unfold gU before
 rw [Df t hs]
 by_cases hc:chk t s=0
 ·obtain ⟨h1,h2,h3⟩:=SI hc;have hl:=SK h3
  simp only [hc,Option.bind_some,bne_self_eq_false,cond_false,ne_eq,not_true,false_or]
  by_cases h0:args=[]
  ·subst h0
   simp [kD]
  ·have hp:((args.length:Int) == 0)=false:=by
    have:0 < args.length:=List.length_pos_iff.2 h0
    rw [beq_eq_false_iff_ne]; omega
   rw [hp,if_neg h0]
   unfold kD;rcases four ⟨h1,h2⟩ with rfl | rfl | rfl | rfl
   ·simp [kI,PH ha h0]
   ·simp [kI,BV (s:=s) (by omega) ha]
   ·simp [kI,Dg (SL h3) (by omega) ha]
   ·have:=ok_one h3
    simp [kI,eD]
    rw [iQ _ (by omega),Iw (s:=s) ha]
    simp
 ·have:(chk t s != 0)=true:=by simpa using hc
  simp [hc,this,kD]
theorem Iy (t:Int) (s args:List Int):(before t s args).1.length≤s.length + 1:=by
 unfold before
 split
 ·simp
 ·split
  ·simp
  ·split
   ·split <;> simp <;> omega
   ·split
    ·split
     ·exact Nat.le_trans (List.length_filter_le _ _) (by omega)
     ·simp
    ·simp
end Go.Proofs.YtfpeabnehpclnaaGreatT
namespace Go.Proofs.YtfpeabnehpclnaaGreatT
open Go Go.Proofs Go.Proofs.YtfpeabnehpclnaaGreatE
set_option linter.unusedVariables false
set_option linter.unusedSimpArgs false
def uL (c:Call) (k:Int):Prop :=
 1≤c.Kind∧c.Kind≤8∧1≤c.Key.size∧c.Key.size≤32 ∧
  (c.Kind≤4→c.Got=false∧c.Vals.length=0∧(c.Kind=4 → -1048576≤c.Arg∧c.Arg≤1048576)) ∧
  (5≤c.Kind→c.Arg=0∧(c.Got=true↔k=1)∧(c.Got=false→c.Vals.length=0) ∧
   (c.Got=true→(c.Kind=5→c.Vals.length≤1)∧(c.Kind=8→c.Vals.length=1)∧(c.Kind=7→Asc c.Vals)∧c.Vals.length≤64))
theorem GY {k:ByteArray}:k=(⟨#[]⟩:ByteArray)↔k.size=0:=by
 constructor
 ·rintro rfl; rfl
 ·intro h;obtain ⟨a⟩:=k;have:a = #[]:=Array.eq_empty_of_size_eq_zero h
  rw [this]
theorem PI {c:Call} (hs:c.Vals.length < 2 ^ 61):Tri (iter (tT c) 1) (fun r=>r=true↔(c.Kind=7→Asc c.Vals)):=by
 refine dH (k0:=1) (c.Vals.length + 1) (fun k x=>x=(k:Int)∧1≤k∧∀ j:Nat,j + 1 < k→j + 1 < c.Vals.length→idx c.Vals (j:Int) < idx c.Vals ((j + 1:Nat):Int)) (by omega) ⟨rfl,Nat.le_refl _,fun j h=>by omega⟩ ?_
 rintro k x hk ⟨rfl,a1,hJ⟩;unfold tT tQ
 dsimp only
 have e:=mZ (k:=k) (by omega) a1;have e2:=aZ (k:=k) (by omega)
 rw [e,e2]
 repeat' (first | contradiction | with_reducible refine az (fun hq => ?_) (fun hq => ?_) | with_reducible refine ah (by first | omega | grind [bA]) ?_ | with_reducible refine ax ?_ | with_reducible refine bX ?_ | with_reducible refine dJ ?_ | with_reducible refine dK ?_ | with_reducible refine dL ?_ | with_reducible refine ag ?_)
 ·show false=true↔_
  have hl:¬ Asc c.Vals:=by
   intro hA;have:=hA (k - 1) (by omega)
   rw [show k - 1 + 1=k by omega] at this
   omega
  grind
 ·refine ⟨by omega,rfl,by omega,fun j hj hl => ?_⟩
  rcases Nat.lt_or_ge (j + 1) k with h3 | h3
  ·exact hJ j h3 hl
  ·have:j=k - 1:=by omega
   subst this
   rw [show k - 1 + 1=k by omega]
   omega
 ·show true=true↔_
  have hl:Asc c.Vals:=fun j hj=>hJ j (by omega) hj
  grind
 ·show true=true↔_
  grind
theorem Ew (c:Call) (k:Int) (hs:c.Vals.length < 2 ^ 61):Tri (dA c k) (fun r=>r=true↔uL c k):=by
 unfold dA ni tX tV yl uL
 simp only [cond_true,cond_false]
 have he:=GY (k:=c.Key)
 repeat' (first | contradiction | with_reducible refine az (fun hq => ?_) (fun hq => ?_) | with_reducible refine ah (by first | omega | grind [bA]) ?_ | with_reducible refine ax ?_ | with_reducible refine bX ?_ | with_reducible refine dJ ?_ | with_reducible refine dK ?_ | with_reducible refine dL ?_ | with_reducible refine ag ?_ | refine fV (PI hs) (fun r hr => ?_))
 all_goals grind
theorem Rx {c:Call} (hs:c.Vals.length < 2 ^ 61) (hc:c.Kind=7):Tri (iter (pU c) 1) (fun r=>r=true↔(Asc c.Vals∧c.Vals.length≤64)):=by
 refine dH (k0:=1) (c.Vals.length + 1) (fun k x=>x=(k:Int)∧1≤k∧∀ j:Nat,j + 1 < k→j + 1 < c.Vals.length→idx c.Vals (j:Int) < idx c.Vals ((j + 1:Nat):Int)) (by omega) ⟨rfl,Nat.le_refl _,fun j h=>by omega⟩ ?_
 rintro k x hk ⟨rfl,a1,hJ⟩;unfold pU lL
 dsimp only
 have e:=mZ (k:=k) (by omega) a1;have e2:=aZ (k:=k) (by omega)
 rw [e,e2]
 repeat' (first | contradiction | with_reducible refine az (fun hq => ?_) (fun hq => ?_) | with_reducible refine ah (by first | omega | grind [bA]) ?_ | with_reducible refine ax ?_ | with_reducible refine bX ?_ | with_reducible refine dJ ?_ | with_reducible refine dK ?_ | with_reducible refine dL ?_ | with_reducible refine ag ?_)
 ·show false=true↔_
  have hl:¬ Asc c.Vals:=by
   intro hA;have:=hA (k - 1) (by omega)
   rw [show k - 1 + 1=k by omega] at this
   omega
  grind
 ·refine ⟨by omega,rfl,by omega,fun j hj hl => ?_⟩
  rcases Nat.lt_or_ge j (k - 1) with h3 | h3
  ·exact hJ j (by omega) hl
  ·have:j=k - 1:=by omega
   subst this
   rw [show k - 1 + 1=k by omega]
   omega
 ·show decide _=true↔_
  have hl:Asc c.Vals:=fun j hj=>hJ j (by omega) hj
  grind
theorem Gz (c:Call) (k:Int) (hs:c.Vals.length < 2 ^ 61):Tri (bJ c k) (fun r=>r=true↔uL c k):=by
 unfold bJ jy jw lL uL
 simp only [cond_true,cond_false]
 have ha:c.Vals.length=0→Asc c.Vals:=fun h j hj=>by omega
 repeat' (first | contradiction | with_reducible refine az (fun hq => ?_) (fun hq => ?_) | with_reducible refine ah (by first | omega | grind [bA]) ?_ | with_reducible refine ax ?_ | with_reducible refine bX ?_ | with_reducible refine dJ ?_ | with_reducible refine dK ?_ | with_reducible refine dL ?_ | with_reducible refine ag ?_ | refine fV (Rx hs (by assumption)) (fun r hr => ?_))
 all_goals grind
def Small (l:List Call):Prop:=l.length < 2 ^ 61∧wP l (fun c=>c.Vals.length < 2 ^ 61)
theorem PK {l:List Call} {e:Event} (hs:Small l):Tri (dW l e) (fun r=>r=true ↔ ¬ wP l (fun c=>uL c e.Kind)):=by
 have h1:Tri (bT l e) (fun r=>0≤r ↔ ¬ wP l (fun c=>uL c e.Kind)):=by
  have hl:=hs.1;unfold bT;refine pF l.length (fun j=>uL (idx l (j:Int)) e.Kind) ?_;intro k hk hJ;unfold gF uV
  dsimp only
  repeat' (first | contradiction | with_reducible refine az (fun hq => ?_) (fun hq => ?_) | with_reducible refine ah (by first | omega | grind [bA]) ?_ | with_reducible refine ax ?_ | with_reducible refine bX ?_ | with_reducible refine dJ ?_ | with_reducible refine dK ?_ | with_reducible refine dL ?_ | with_reducible refine ag ?_ | refine dN (Ew _ _ (hs.2 k (by omega))) (fun r hr => ?_))
  all_goals grind [Nxt,wP,bA]
 unfold dW;refine dN h1 (fun r hr => ?_)
 repeat' (first | contradiction | with_reducible refine az (fun hq => ?_) (fun hq => ?_) | with_reducible refine ah (by first | omega | grind [bA]) ?_ | with_reducible refine ax ?_ | with_reducible refine bX ?_ | with_reducible refine dJ ?_ | with_reducible refine dK ?_ | with_reducible refine dL ?_ | with_reducible refine ag ?_)
 grind
def Bq (e:Event):Prop:=0≤e.Kind∧e.Kind≤3∧e.Calls.length≤16∧wP e.Calls (fun c=>uL c e.Kind)
theorem Ex {e:Event} (hs:Small e.Calls):Tri (gW [e]) (fun r=>(r=0↔Bq e)∧(r=0∨r=1)):=by
 unfold gW;refine az (fun h => ?_) (fun h => ?_)
 ·simp at h
 ·refine pF 1 (fun j=>Bq e) ?_;intro k hk hJ;unfold xm pY
  dsimp only
  have hi:k=0→idx [e] (k:Int)=e:=by rintro rfl; rfl
  simp only [cond_true,cond_false]
  have hc:=fun h:k=0=>PK (l:=e.Calls) (e:=e) hs
  by_cases h0:k=0
  ·rw [hi h0]
   repeat' (first | contradiction | with_reducible refine az (fun hq => ?_) (fun hq => ?_) | with_reducible refine ah (by first | omega | grind [bA]) ?_ | with_reducible refine ax ?_ | with_reducible refine bX ?_ | with_reducible refine dJ ?_ | with_reducible refine dK ?_ | with_reducible refine dL ?_ | with_reducible refine ag ?_ | refine dN (hc h0) (fun r hr => ?_))
   all_goals grind [Nxt,Bq,bA]
  ·repeat' (first | contradiction | with_reducible refine az (fun hq => ?_) (fun hq => ?_) | with_reducible refine ah (by first | omega | grind [bA]) ?_ | with_reducible refine ax ?_ | with_reducible refine bX ?_ | with_reducible refine dJ ?_ | with_reducible refine dK ?_ | with_reducible refine dL ?_ | with_reducible refine ag ?_ | refine dN (hc (by grind)) (fun r hr => ?_))
   all_goals grind [Nxt,Bq,bA]
theorem Fe {e:Event} (hs:Small e.Calls):Tri (dX e) (fun r=>r=true↔Bq e):=by
 unfold dX kV
 simp only [cond_true,cond_false]
 have hl:=hs.1;have h1:Tri (iter (oG e) 0) (fun r=>r=true↔wP e.Calls (fun c=>uL c e.Kind)):=by
  refine pF e.Calls.length (fun j=>uL (idx e.Calls (j:Int)) e.Kind) ?_;intro k hk hJ;unfold oG
  dsimp only
  repeat' (first | contradiction | with_reducible refine az (fun hq => ?_) (fun hq => ?_) | with_reducible refine ah (by first | omega | grind [bA]) ?_ | with_reducible refine ax ?_ | with_reducible refine bX ?_ | with_reducible refine dJ ?_ | with_reducible refine dK ?_ | with_reducible refine dL ?_ | with_reducible refine ag ?_ | refine dN (Gz _ _ (hs.2 k (by omega))) (fun r hr => ?_))
  all_goals grind [Nxt,wP,bA]
 repeat' (first | contradiction | with_reducible refine az (fun hq => ?_) (fun hq => ?_) | with_reducible refine ah (by first | omega | grind [bA]) ?_ | with_reducible refine ax ?_ | with_reducible refine bX ?_ | with_reducible refine dJ ?_ | with_reducible refine dK ?_ | with_reducible refine dL ?_ | with_reducible refine ag ?_ | refine fV h1 (fun r hr => ?_))
 all_goals grind [Bq]
theorem Ey {e:Event} (hs:Small e.Calls):Tri (jh [e]) (fun r=>(r=0↔Bq e)∧(r=0∨r=1)):=by
 unfold jh;refine az (fun h => ?_) (fun h => ?_)
 ·simp at h
 ·refine pF 1 (fun j=>Bq e) ?_;intro k hk hJ;unfold uu
  dsimp only
  have hi:k=0→idx [e] (k:Int)=e:=by rintro rfl; rfl
  have hc:k=0→Tri (dX (idx [e] (k:Int))) (fun r=>r=true↔Bq e):=fun h0=>by rw [hi h0]; exact Fe hs
  repeat' (first | contradiction | with_reducible refine az (fun hq => ?_) (fun hq => ?_) | with_reducible refine ah (by first | omega | grind [bA]) ?_ | with_reducible refine ax ?_ | with_reducible refine bX ?_ | with_reducible refine dJ ?_ | with_reducible refine dK ?_ | with_reducible refine dL ?_ | with_reducible refine ag ?_ | refine dN (hc (by grind)) (fun r hr => ?_))
  all_goals grind [Nxt,bA]
def xE (h:History) (o:Op):Call:=⟨o.Kind,idx h.Keys o.Key,o.Arg,o.Got,o.Vals⟩
def dR (h:History) (t:Txn):List Call:=t.Ops.map (xE h)
def AU (h:History) (t:Txn):Event:=⟨0,t.Status,dR h t⟩
def yE (h:History) (t:Txn):Prop:=wP t.Ops (fun o=>0≤o.Key∧o.Key < (h.Keys.length:Int))
def Ff (t:Txn):Prop:=t.Ops.length * 56≤140737488351232∧wP t.Ops (fun o=>o.Vals.length * 8≤140737488351232)
theorem Ff.small {h:History} {t:Txn} (hs:Ff t) (k:Nat):Small ((dR h t).take k):=by
 have h1:=hs.1;refine ⟨by simp [dR]; omega,fun j hj => ?_⟩
 have hj':j < k∧j < t.Ops.length:=by simp [dR] at hj; omega
 rw [zY hj'.1,dR,yM hj'.2]
 have:=hs.2 j hj'.2
 show (idx t.Ops (j:Int)).Vals.length < _
 omega
theorem Dh {h:History} {t:Txn} (hs:Ff t):Tri (eZ h t) (fun r=>(r.2=true↔yE h t∧Bq (AU h t))∧(r.2=true→r.1=AU h t)):=by
 unfold eZ;have hl:=hs.1;refine vC t.Ops.length (fun k l=>l=(dR h t).take k∧∀ j:Nat,j < k→0≤(idx t.Ops (j:Int)).Key∧(idx t.Ops (j:Int)).Key < (h.Keys.length:Int)) ⟨rfl,by omega⟩ ?_
 rintro k l hk ⟨rfl,hJ⟩;have hlen:((dR h t).take k).length=k:=by simp [dR]; omega
 unfold vK rf vJ
 simp only [cond_true,cond_false,hlen]
 have hsm:=Ex (e:=⟨0,t.Status,(dR h t).take k⟩) (hs.small k);have hfull:k=t.Ops.length→(dR h t).take k=dR h t:=fun e=>List.take_of_length_le (by simp [dR]; omega);have hnext:k < t.Ops.length→(dR h t).take (k + 1)=(dR h t).take k++[xE h (idx t.Ops (k:Int))]:=fun hk=>by
  rw [nu (by simpa [dR] using hk),dR,yM hk]
 repeat' (first | contradiction | with_reducible refine az (fun hq => ?_) (fun hq => ?_) | with_reducible refine ah (by first | omega | grind [bA]) ?_ | with_reducible refine ax ?_ | with_reducible refine bX ?_ | with_reducible refine dJ ?_ | with_reducible refine dK ?_ | with_reducible refine dL ?_ | with_reducible refine ag ?_ | refine dN hsm (fun r hr => ?_))
 all_goals grind [Up2,yE,wP,bA,xE,AU]
def GZ (l:List Txn) (i:Nat):Prop:=∀ j:Nat,j < i → ¬ ((idx l (j:Int)).Proc=(idx l (i:Int)).Proc∧((idx l (j:Int)).To = -1∨(idx l (j:Int)).To ≥ (idx l (i:Int)).From))
def zI (l:List Txn) (i:Nat):Prop :=
 1≤(idx l (i:Int)).Status∧(idx l (i:Int)).Status≤3∧0≤(idx l (i:Int)).From∧((idx l (i:Int)).To = -1→(idx l (i:Int)).Status=3) ∧
  ((idx l (i:Int)).To ≠ -1→(idx l (i:Int)).From < (idx l (i:Int)).To)∧(0 < i→(idx l ((i - 1:Nat):Int)).From < (idx l (i:Int)).From)∧GZ l i
theorem NU {l:List Txn} {i:Nat} (hi:i < l.length) (hl:l.length < 2 ^ 61):Tri (dU (kg l 0 (i:Int)) (idx l (i:Int))) (fun r=>r=true ↔ ¬ GZ l i):=by
 have h1:Tri (bM (kg l 0 (i:Int)) (idx l (i:Int))) (fun r=>0≤r ↔ ¬ GZ l i):=by
  rw [oN (by omega)]
  unfold bM;have ht:(l.take i).length=i:=by simp; omega
  refine pF i (fun j => ¬ ((idx l (j:Int)).Proc=(idx l (i:Int)).Proc∧((idx l (j:Int)).To = -1∨(idx l (j:Int)).To ≥ (idx l (i:Int)).From))) ?_;intro k hk hJ;unfold gp rq
  dsimp only
  rw [ht]
  have hx:k < i→idx (l.take i) (k:Int)=idx l (k:Int):=fun h=>zY h
  repeat' (first | contradiction | with_reducible refine az (fun hq => ?_) (fun hq => ?_) | with_reducible refine ah (by first | omega | grind [bA]) ?_ | with_reducible refine ax ?_ | with_reducible refine bX ?_ | with_reducible refine dJ ?_ | with_reducible refine dK ?_ | with_reducible refine dL ?_ | with_reducible refine ag ?_)
  all_goals grind [Nxt,GZ,bA]
 unfold dU;refine dN h1 (fun r hr => ?_)
 repeat' (first | contradiction | with_reducible refine az (fun hq => ?_) (fun hq => ?_) | with_reducible refine ah (by first | omega | grind [bA]) ?_ | with_reducible refine ax ?_ | with_reducible refine bX ?_ | with_reducible refine dJ ?_ | with_reducible refine dK ?_ | with_reducible refine dL ?_ | with_reducible refine ag ?_)
 grind
theorem BZ {l:List Txn} {i:Nat} (hi:i < l.length) (hl:l.length < 2 ^ 61):Tri (dw (kg l 0 (i:Int)) (idx l (i:Int))) (fun r=>r=true↔zI l i):=by
 have hf:=NU hi hl;have hlen:(kg l 0 (i:Int)).length=i:=by rw [oN (by omega)]; simp; omega
 have hx:0 < i→idx (kg l 0 (i:Int)) (w64 ((i:Int) - 1))=idx l ((i - 1:Nat):Int):=fun h=>by
  rw [mZ (by omega) (by omega),oN (by omega),zY (by omega)]
 have hw:0 < i→w64 ((i:Int) - 1)=((i - 1:Nat):Int):=fun h=>mZ (by omega) (by omega);unfold dw qy qx qw mU zI
 simp only [cond_true,cond_false,hlen]
 repeat' (first | contradiction | with_reducible refine az (fun hq => ?_) (fun hq => ?_) | with_reducible refine ah (by first | omega | grind [bA]) ?_ | with_reducible refine ax ?_ | with_reducible refine bX ?_ | with_reducible refine dJ ?_ | with_reducible refine dK ?_ | with_reducible refine dL ?_ | with_reducible refine ag ?_ | refine dN hf (fun r hr => ?_))
 all_goals grind
theorem za {l:List Txn} {i:Nat} (hi:i < l.length) (hl:l.length < 2 ^ 61):Tri (aQ l (i:Int)) (fun r=>r=true↔zI l i):=by
 have h1:Tri (iter (nA l (i:Int)) 0) (fun r=>r=true↔GZ l i):=by
  refine pF i (fun j => ¬ ((idx l (j:Int)).Proc=(idx l (i:Int)).Proc∧((idx l (j:Int)).To = -1∨(idx l (j:Int)).To ≥ (idx l (i:Int)).From))) ?_;intro k hk hJ;unfold nA jV
  simp only [cond_true,cond_false]
  repeat' (first | contradiction | with_reducible refine az (fun hq => ?_) (fun hq => ?_) | with_reducible refine ah (by first | omega | grind [bA]) ?_ | with_reducible refine ax ?_ | with_reducible refine bX ?_ | with_reducible refine dJ ?_ | with_reducible refine dK ?_ | with_reducible refine dL ?_ | with_reducible refine ag ?_)
  all_goals grind [Nxt,GZ,bA]
 have hw:0 < i→w64 ((i:Int) - 1)=((i - 1:Nat):Int):=fun h=>mZ (by omega) (by omega);unfold aQ eF nC zI
 simp only [cond_true,cond_false]
 repeat' (first | contradiction | with_reducible refine az (fun hq => ?_) (fun hq => ?_) | with_reducible refine ah (by first | omega | grind [bA]) ?_ | with_reducible refine ax ?_ | with_reducible refine bX ?_ | with_reducible refine dJ ?_ | with_reducible refine dK ?_ | with_reducible refine dL ?_ | with_reducible refine ag ?_ | refine fV h1 (fun r hr => ?_))
 all_goals grind
def MM (l:List ByteArray) (s:ByteArray) (r:Int):Prop :=
 (r = -1∧∀ j:Nat,j < l.length→idx l (j:Int)≠s)∨(∃ k:Nat,r=(k:Int)∧k < l.length∧idx l (k:Int)=s∧∀ j:Nat,j < k→idx l (j:Int)≠s)
theorem Di {l:List ByteArray} {s:ByteArray} (hl:l.length < 2 ^ 61):Tri (gZ l s) (MM l s):=by
 unfold gZ;refine pF l.length (fun j=>idx l (j:Int)≠s) ?_;intro k hk hJ;unfold uN
 dsimp only
 repeat' (first | contradiction | with_reducible refine az (fun hq => ?_) (fun hq => ?_) | with_reducible refine ah (by first | omega | grind [bA]) ?_ | with_reducible refine ax ?_ | with_reducible refine bX ?_ | with_reducible refine dJ ?_ | with_reducible refine dK ?_ | with_reducible refine dL ?_ | with_reducible refine ag ?_)
 ·exact .inr ⟨k,rfl,by omega,by assumption,hJ⟩
 ·grind [Nxt,bA]
 ·exact .inl ⟨rfl,fun j hj=>hJ j (by omega)⟩
def Br (l:List ByteArray) (i:Nat):Prop:=1≤(idx l (i:Int)).size∧(idx l (i:Int)).size≤32∧∀ j:Nat,j < i→idx l (j:Int)≠idx l (i:Int)
def rY (l:List ByteArray):Prop:=l.length≤32∧∀ i:Nat,i < l.length→Br l i
theorem GA {l:List ByteArray} {s:ByteArray} (hl:l.length < 2 ^ 61):Tri (slices_Contains_string l s) (fun r=>r=true↔∃ j:Nat,j < l.length∧idx l (j:Int)=s):=by
 have h1:Tri (slices_Index_string l s) (fun r=>0≤r↔∃ j:Nat,j < l.length∧idx l (j:Int)=s):=by
  unfold slices_Index_string;refine pF l.length (fun j=>idx l (j:Int)≠s) ?_;intro k hk hJ;unfold mE
  dsimp only
  repeat' (first | contradiction | with_reducible refine az (fun hq => ?_) (fun hq => ?_) | with_reducible refine ah (by first | omega | grind [bA]) ?_ | with_reducible refine ax ?_ | with_reducible refine bX ?_ | with_reducible refine dJ ?_ | with_reducible refine dK ?_ | with_reducible refine dL ?_ | with_reducible refine ag ?_)
  all_goals grind [Nxt,bA]
 unfold slices_Contains_string;refine dN h1 (fun r hr => ?_)
 repeat' (first | contradiction | with_reducible refine az (fun hq => ?_) (fun hq => ?_) | with_reducible refine ah (by first | omega | grind [bA]) ?_ | with_reducible refine ax ?_ | with_reducible refine bX ?_ | with_reducible refine dJ ?_ | with_reducible refine dK ?_ | with_reducible refine dL ?_ | with_reducible refine ag ?_)
 grind
theorem Fg {l:List ByteArray} (hl:l.length < 2 ^ 61):Tri (eX l) (fun r=>r=true↔rY l):=by
 unfold eX;refine pF l.length (Br l) ?_;intro k hk hJ;unfold ut kU
 simp only [cond_true,cond_false]
 have hf:Tri (gZ (kg l 0 (k:Int)) (idx l (k:Int))) (fun r=>0≤r↔∃ j:Nat,j < k∧idx l (j:Int)=idx l (k:Int)):=by
  rw [oN (by omega)]
  refine fV (Di (by simp; omega)) (fun r hr => ?_);have ht:(l.take k).length=k:=by simp; omega
  have hx:∀ j:Nat,j < k→idx (l.take k) (j:Int)=idx l (j:Int):=fun j h=>zY h;unfold MM at hr
  rw [ht] at hr
  grind
 have hN:rY l→k < l.length→Br l k:=fun h hk=>h.2 k hk
 repeat' (first | contradiction | with_reducible refine az (fun hq => ?_) (fun hq => ?_) | with_reducible refine ah (by first | omega | grind [bA]) ?_ | with_reducible refine ax ?_ | with_reducible refine bX ?_ | with_reducible refine dJ ?_ | with_reducible refine dK ?_ | with_reducible refine dL ?_ | with_reducible refine ag ?_ | refine dN hf (fun r hr => ?_))
 all_goals (have hNk:Br l k↔(1≤(idx l (k:Int)).size∧(idx l (k:Int)).size≤32∧∀ j:Nat,j < k→idx l (j:Int)≠idx l (k:Int)):=Iff.rfl)
 all_goals grind [Nxt,rY,bA]
end Go.Proofs.YtfpeabnehpclnaaGreatT
namespace Go.Proofs.YtfpeabnehpclnaaGreatT
open Go Go.Proofs Go.Proofs.YtfpeabnehpclnaaGreatE
set_option linter.unusedVariables false
set_option linter.unusedSimpArgs false
def typ (k:Int):Int:=(k - 1) % 4 + 1
theorem zJ {k:Int} (h1:1≤k) (h2:k≤8):oP k=some (typ k):=by
 have:k=1∨k=2∨k=3∨k=4∨k=5∨k=6∨k=7∨k=8:=by omega
 rcases this with h | h | h | h | h | h | h | h <;> subst h <;> decide
theorem EH {k:Int} (h1:1≤k) (h2:k≤8):rR k=some (typ k):=by
 have:k=1∨k=2∨k=3∨k=4∨k=5∨k=6∨k=7∨k=8:=by omega
 rcases this with h | h | h | h | h | h | h | h <;> subst h <;> decide
structure Sim (g:bG) (b:aL) (n:Nat):Prop where
 keys:g.keys=b.keys
 types:g.types=b.types
 len:b.keys.length≤32
 tl:b.types.length=b.keys.length
 wl:b.wrote.length=b.keys.length
 il:b.incs.length=b.keys.length
 ll:b.last_.length=b.keys.length
 nd:∀ i j:Nat,i < b.keys.length→j < b.keys.length→idx b.keys (i:Int)=idx b.keys (j:Int)→i=j
 has:∀ s,iR g.at_ s=true↔∃ j:Nat,j < b.keys.length∧idx b.keys (j:Int)=s
 at_:∀ j:Nat,j < b.keys.length→mat g.at_ (idx b.keys (j:Int))=(j:Int)
 facts:∀ j:Nat,j < b.keys.length→∀ a,iR g.facts ⟨idx b.keys (j:Int),a⟩=true↔∃ m:Nat,m < (idx b.wrote (j:Int)).length∧idx (idx b.wrote (j:Int)) (m:Int)=a
 fout:∀ s a,iR g.facts ⟨s,a⟩=true→∃ j:Nat,j < b.keys.length∧idx b.keys (j:Int)=s
 wn:∀ j:Nat,j < b.keys.length→(idx b.wrote (j:Int)).length≤n
 incs:∀ j:Nat,j < b.keys.length→((mat g.incs (idx b.keys (j:Int))).length:Int)=idx b.incs (j:Int)
 i8:∀ j:Nat,j < b.keys.length→(mat g.incs (idx b.keys (j:Int))).length≤8
 iout:∀ s,(∀ j:Nat,j < b.keys.length→idx b.keys (j:Int)≠s)→mat g.incs s=[]
 last:∀ j:Nat,j < b.keys.length→((mat g.incs (idx b.keys (j:Int))).length=0→idx b.last_ (j:Int) = -1) ∧
  (0 < (mat g.incs (idx b.keys (j:Int))).length→idx b.last_ (j:Int)=idx (mat g.incs (idx b.keys (j:Int))) (((mat g.incs (idx b.keys (j:Int))).length - 1:Nat):Int))
theorem Sim.start:Sim ⟨[],[],[],[],[]⟩ ⟨[],[],[],[],[]⟩ 0:=by
 refine ⟨rfl,rfl,by simp,rfl,rfl,rfl,rfl,?_,?_,?_,?_,?_,?_,?_,?_,?_,?_⟩
 all_goals simp [FV,Sd]
 rfl
theorem Sim.mono {g:bG} {b:aL} {n m:Nat} (h:Sim g b n) (hm:n≤m):Sim g b m :=
 { h with wn:=fun j hj=>Nat.le_trans (h.wn j hj) hm }
theorem Sim.new {g:bG} {b:aL} {n:Nat} (h:Sim g b n) {s:ByteArray} {t:Int} (hn:∀ j:Nat,j < b.keys.length→idx b.keys (j:Int)≠s) (a2:b.keys.length < 32) :
  Sim ⟨g.keys++[s],fC g.at_ s (g.keys.length:Int),g.types++[t],g.facts,g.incs⟩ ⟨b.keys++[s],b.types++[t],b.wrote++[[]],b.incs++[0],b.last_++[-1]⟩ n:=by
 have hk:=h.keys;have hl:(b.keys++[s]).length=b.keys.length + 1:=by simp
 have k1:∀ j:Nat,j < b.keys.length→idx (b.keys++[s]) (j:Int)=idx b.keys (j:Int):=fun j hj=>lg hj;have k2:idx (b.keys++[s]) ((b.keys.length:Nat):Int)=s:=jY rfl;have w1:∀ j:Nat,j < b.keys.length→idx (b.wrote++[[]]) (j:Int)=idx b.wrote (j:Int):=fun j hj=>lg (by rw [h.wl]; exact hj);have w2:idx (b.wrote++[[]]) ((b.keys.length:Nat):Int)=[]:=jY h.wl.symm;have i1:∀ j:Nat,j < b.keys.length→idx (b.incs++[0]) (j:Int)=idx b.incs (j:Int):=fun j hj=>lg (by rw [h.il]; exact hj);have i2:idx (b.incs++[0]) ((b.keys.length:Nat):Int)=0:=jY h.il.symm;have l1:∀ j:Nat,j < b.keys.length→idx (b.last_++[-1]) (j:Int)=idx b.last_ (j:Int):=fun j hj=>lg (by rw [h.ll]; exact hj);have l2:idx (b.last_++[-1]) ((b.keys.length:Nat):Int) = -1:=jY h.ll.symm;have a1:=h.iout s hn;have cut:∀ j:Nat,j < b.keys.length + 1→j < b.keys.length∨j=b.keys.length:=by omega
 refine ⟨by simp [hk],by simp [h.types],by simp; omega,by simp [h.tl],by simp [h.wl],by simp [h.il],by simp [h.ll],?_,?_,?_,?_,?_,?_,?_,?_,?_,?_⟩
 ·intro i j hi hj he
  dsimp only at hi hj he
  rw [hl] at hi hj
  have:=h.nd i j;rcases cut i hi with hi' | hi' <;> rcases cut j hj with hj' | hj' <;> grind
 ·intro x
  dsimp only
  rw [oO,hl,h.has]
  constructor
  ·rintro (rfl | ⟨j,hj,he⟩)
   ·exact ⟨_,Nat.lt_succ_self _,k2⟩
   ·exact ⟨j,by omega,(k1 j hj).trans he⟩
  ·rintro ⟨j,hj,he⟩;rcases cut j hj with hj' | hj'
   ·exact .inr ⟨j,hj',(k1 j hj') ▸ he⟩
   ·subst hj'; exact .inl (k2.symm.trans he).symm
 ·intro j hj
  dsimp only at hj ⊢
  rw [hl] at hj
  rw [qA,hk]
  rcases cut j hj with hj' | hj'
  ·rw [k1 j hj',if_neg (hn j hj')]; exact h.at_ j hj'
  ·subst hj'; rw [k2,if_pos rfl]
 ·intro j hj a
  dsimp only at hj ⊢
  rw [hl] at hj
  rcases cut j hj with hj' | hj'
  ·rw [k1 j hj',w1 j hj']; exact h.facts j hj' a
  ·subst hj'
   rw [k2,w2]
   constructor
   ·intro hh;obtain ⟨i,hi,he⟩:=h.fout s a hh;exact absurd he (hn i hi)
   ·rintro ⟨m,hm,_⟩; simp at hm
 ·intro x a hh;obtain ⟨i,hi,he⟩:=h.fout x a hh;exact ⟨i,by simp; omega,(k1 i hi).trans he⟩
 ·intro j hj
  dsimp only at hj ⊢
  rw [hl] at hj
  rcases cut j hj with hj' | hj'
  ·rw [w1 j hj']; exact h.wn j hj'
  ·subst hj'; rw [w2]; simp
 ·intro j hj
  dsimp only at hj ⊢
  rw [hl] at hj
  rcases cut j hj with hj' | hj'
  ·rw [k1 j hj',i1 j hj']; exact h.incs j hj'
  ·subst hj'; rw [k2,i2,a1]; rfl
 ·intro j hj
  dsimp only at hj ⊢
  rw [hl] at hj
  rcases cut j hj with hj' | hj'
  ·rw [k1 j hj']; exact h.i8 j hj'
  ·subst hj'; rw [k2,a1]; simp
 ·intro x hx
  dsimp only at hx ⊢
  rw [hl] at hx
  exact h.iout x (fun j hj=>by rw [← k1 j hj]; exact hx j (by omega))
 ·intro j hj
  dsimp only at hj ⊢
  rw [hl] at hj
  rcases cut j hj with hj' | hj'
  ·rw [k1 j hj',l1 j hj']; exact h.last j hj'
  ·subst hj'; rw [k2,l2,a1]; simp
theorem Sim.write {g:bG} {b:aL} {n k:Nat} (h:Sim g b n) {s:ByteArray} {a:Int} (hk:k < b.keys.length) (hs:idx b.keys (k:Int)=s) :
  Sim ⟨g.keys,g.at_,g.types,fC g.facts ⟨s,a⟩ (),g.incs⟩ ⟨b.keys,b.types,b.wrote.set k (idx b.wrote (k:Int)++[a]),b.incs,b.last_⟩ (n + 1):=by
 have w1:∀ j:Nat,idx (b.wrote.set k (idx b.wrote (k:Int)++[a])) (j:Int)=if j=k then idx b.wrote (k:Int)++[a] else idx b.wrote (j:Int):=fun j=>uF (by rw [h.wl]; exact hk);refine ⟨h.keys,h.types,h.len,h.tl,by simp [h.wl],h.il,h.ll,h.nd,h.has,h.at_,?_,?_,?_,h.incs,h.i8,h.iout,h.last⟩
 ·intro j hj x
  dsimp only at hj ⊢
  rw [oO,w1 j,h.facts j hj]
  by_cases e:j=k
  ·subst e
   rw [if_pos rfl,hs]
   constructor
   ·rintro (he | ⟨m,hm,he⟩)
    ·have:x=a:=by injection he
     subst this;exact ⟨_,by simp,jY rfl⟩
    ·exact ⟨m,by simp; omega,(lg hm).trans he⟩
   ·rintro ⟨m,hm,he⟩;rcases Nat.lt_or_ge m (idx b.wrote (j:Int)).length with h1 | h1
    ·exact .inr ⟨m,h1,(lg h1).symm.trans he⟩
    ·simp at hm
     rw [jY (by omega)] at he
     rw [he]; exact .inl rfl
  ·rw [if_neg e]
   constructor
   ·rintro (he | hh)
    ·injection he with h1 h2
     exact absurd (h.nd j k hj hk (h1.trans hs.symm)) e
    ·exact hh
   ·exact .inr
 ·intro x y hh
  dsimp only at hh ⊢
  rcases oO.1 hh with he | hh
  ·injection he with h1 h2
   exact ⟨k,hk,hs.trans h1.symm⟩
  ·exact h.fout x y hh
 ·intro j hj
  dsimp only at hj ⊢
  rw [w1 j]
  have:=h.wn j hj
  split
  ·rename_i e; subst e; simp; omega
  ·omega
theorem Sim.inc {g:bG} {b:aL} {n k:Nat} (h:Sim g b n) {s:ByteArray} {a:Int} (hk:k < b.keys.length) (hs:idx b.keys (k:Int)=s) (h8:(mat g.incs s).length < 8) :
  Sim ⟨g.keys,g.at_,g.types,g.facts,fC g.incs s (mat g.incs s++[a])⟩ ⟨b.keys,b.types,b.wrote,b.incs.set k (idx b.incs (k:Int) + 1),b.last_.set k a⟩ n:=by
 have i1:∀ j:Nat,idx (b.incs.set k (idx b.incs (k:Int) + 1)) (j:Int)=if j=k then idx b.incs (k:Int) + 1 else idx b.incs (j:Int):=fun j=>uF (by rw [h.il]; exact hk);have l1:∀ j:Nat,idx (b.last_.set k a) (j:Int)=if j=k then a else idx b.last_ (j:Int):=fun j=>uF (by rw [h.ll]; exact hk);have hne:∀ j:Nat,j < b.keys.length→j≠k→idx b.keys (j:Int)≠s:=fun j hj e he=>e (h.nd j k hj hk (he.trans hs.symm));refine ⟨h.keys,h.types,h.len,h.tl,h.wl,by simp [h.il],by simp [h.ll],h.nd,h.has,h.at_,h.facts,h.fout,h.wn,?_,?_,?_,?_⟩
 ·intro j hj
  dsimp only at hj ⊢
  rw [qA,i1 j]
  by_cases e:j=k
  ·subst e
   rw [if_pos hs,if_pos rfl,← h.incs j hj,hs]; simp
  ·rw [if_neg (hne j hj e),if_neg e]; exact h.incs j hj
 ·intro j hj
  dsimp only at hj ⊢
  rw [qA]
  by_cases e:j=k
  ·subst e
   rw [if_pos hs]; simp; omega
  ·rw [if_neg (hne j hj e)]; exact h.i8 j hj
 ·intro x hx
  dsimp only at hx ⊢
  rw [qA,if_neg (fun e=>hx k hk (hs.trans e.symm))]
  exact h.iout x hx
 ·intro j hj
  dsimp only at hj ⊢
  rw [qA,l1 j]
  by_cases e:j=k
  ·subst e
   rw [if_pos hs,if_pos rfl]
   refine ⟨fun h0=>by simp at h0,fun _ => ?_⟩
   rw [jY (by simp)]
  ·rw [if_neg (hne j hj e),if_neg e]; exact h.last j hj
theorem Lm {c:Call} {who:Int} {a2:List ByteArray} {a5:List Int} {a1:List (List Int)} {a4 a3:List Int} {k:Nat} {Q:Int×aL→Prop} (hk:k < a1.length) (hb:(idx a1 (k:Int)).length≤4096)
  (h1:(∃ m:Nat,m < (idx a1 (k:Int)).length∧idx (idx a1 (k:Int)) (m:Int)=c.Arg)→Q (3,⟨a2,a5,a1,a4,a3⟩))
  (h2:(¬ ∃ m:Nat,m < (idx a1 (k:Int)).length∧idx (idx a1 (k:Int)) (m:Int)=c.Arg)→Tri (gG c who a2 a5 a4 a3 (k:Int) (a1.set k (idx a1 (k:Int)++[c.Arg]))) Q) :
  Tri (iter (kr c who a2 a5 a1 a4 a3 (k:Int)) 0) Q:=by
 refine pF (idx a1 (k:Int)).length (fun m=>idx (idx a1 (k:Int)) (m:Int)≠c.Arg) ?_;intro m hm hJ;unfold kr
 dsimp only
 rw [Int.toNat_natCast]
 repeat' (first | contradiction | with_reducible refine az (fun hq => ?_) (fun hq => ?_) | with_reducible refine ah (by first | omega | grind [bA]) ?_ | with_reducible refine ax ?_ | with_reducible refine bX ?_ | with_reducible refine dJ ?_ | with_reducible refine dK ?_ | with_reducible refine dL ?_ | with_reducible refine ag ?_)
 ·exact h1 ⟨m,by omega,by assumption⟩
 ·grind [Nxt,bA]
 ·exact h2 (by grind)
def Both (r:Int×bG) (n:Nat) (r':Int×aL):Prop:=r.1=r'.1∧(r.1=0→Sim r.2 r'.2 n)
def Lp (b:aL) (c:Call) (who:Int) (k:Nat) (r:Int×aL):Prop :=
 (idx b.types (k:Int)≠typ c.Kind∧r=(50,b)) ∨
 (idx b.types (k:Int)=typ c.Kind∧(c.Kind=2∨c.Kind=3)∧(∃ m:Nat,m < (idx b.wrote (k:Int)).length∧idx (idx b.wrote (k:Int)) (m:Int)=c.Arg)∧r=(3,b)) ∨
 (idx b.types (k:Int)=typ c.Kind∧(c.Kind=2∨c.Kind=3)∧(¬ ∃ m:Nat,m < (idx b.wrote (k:Int)).length∧idx (idx b.wrote (k:Int)) (m:Int)=c.Arg) ∧
  r=(0,⟨b.keys,b.types,b.wrote.set k (idx b.wrote (k:Int)++[c.Arg]),b.incs,b.last_⟩)) ∨
 (idx b.types (k:Int)=typ c.Kind∧c.Kind=4∧idx b.last_ (k:Int)≠who∧idx b.incs (k:Int) + 1 > 8∧r.1=51) ∨
 (idx b.types (k:Int)=typ c.Kind∧c.Kind=4∧idx b.last_ (k:Int)≠who∧idx b.incs (k:Int) + 1≤8 ∧
  r=(0,⟨b.keys,b.types,b.wrote,b.incs.set k (idx b.incs (k:Int) + 1),b.last_.set k who⟩)) ∨
 (idx b.types (k:Int)=typ c.Kind∧c.Kind=4∧idx b.last_ (k:Int)=who∧r=(0,b)) ∨
 (idx b.types (k:Int)=typ c.Kind∧c.Kind≠2∧c.Kind≠3∧c.Kind≠4∧r=(0,b))
theorem Iz {b:aL} {k:Nat} {c:Call} {who:Int} (hk:k < b.keys.length) (t1:b.types.length=b.keys.length) (t2:b.wrote.length=b.keys.length) (t3:b.incs.length=b.keys.length)
  (t4:b.last_.length=b.keys.length) (hwr:(idx b.wrote (k:Int)).length≤4096) (hin:0≤idx b.incs (k:Int)∧idx b.incs (k:Int)≤8)
  (h1:1≤c.Kind) (h8:c.Kind≤8):Tri (fG c who b.keys b.types b.wrote b.incs b.last_ (k:Int)) (Lp b c who k):=by
 have e1:w64 (idx b.incs (k:Int) + 1)=idx b.incs (k:Int) + 1:=bA (by omega) (by omega);have e2:idx (b.incs.set k (idx b.incs (k:Int) + 1)) (k:Int)=idx b.incs (k:Int) + 1:=by rw [uF (by omega),if_pos rfl]
 unfold fG ku gG iK iJ
 simp only [cond_true,cond_false,EH h1 h8,Int.toNat_natCast,e1,e2]
 repeat' (first | contradiction | with_reducible refine az (fun hq => ?_) (fun hq => ?_) | with_reducible refine ah (by first | omega | grind [bA]) ?_ | with_reducible refine ax ?_ | with_reducible refine bX ?_ | with_reducible refine dJ ?_ | with_reducible refine dK ?_ | with_reducible refine dL ?_ | with_reducible refine ag ?_ | refine Lm (by omega) hwr (fun h => ?_) (fun h => ?_))
 all_goals try unfold gG iK iJ
 all_goals try simp only [cond_true,cond_false,Int.toNat_natCast,e1,e2]
 repeat' (first | contradiction | with_reducible refine az (fun hq => ?_) (fun hq => ?_) | with_reducible refine ah (by first | omega | grind [bA]) ?_ | with_reducible refine ax ?_ | with_reducible refine bX ?_ | with_reducible refine dJ ?_ | with_reducible refine dK ?_ | with_reducible refine dL ?_ | with_reducible refine ag ?_)
 all_goals grind [Lp]
theorem enter_at {g:bG} {b:aL} {n k:Nat} {a0:bG} {c:Call} {who:Int} (h:Sim g b n) (hf:a0.facts=g.facts) (hi:a0.incs=g.incs) (hk:k < b.keys.length) (hs:idx b.keys (k:Int)=c.Key)
  (h1:1≤c.Kind) (h8:c.Kind≤8) (hw:0≤who) (hn:n≤2048) :
  Tri (iM a0 c who g.keys g.at_ g.types (k:Int)) (fun r=>Tri (fG c who b.keys b.types b.wrote b.incs b.last_ (k:Int)) (Both r (n + 1))):=by
 obtain ⟨gk,ga,gt,gf,gi⟩:=g
 dsimp only at hf hi
 have htl:=h.types;have hkk:=h.keys
 dsimp only at htl hkk ⊢
 subst htl hkk;have t1:=h.tl;have t2:=h.wl;have t3:=h.il;have t4:=h.ll;have hfa:=h.facts k hk c.Arg;have hin:=h.incs k hk;have a1:=h.i8 k hk;have hla:=h.last k hk;have hwr:=h.wn k hk
 rw [hs] at hfa hin a1 hla
 dsimp only at hfa hin a1 hla
 obtain ⟨r',hr',spec⟩:=Iz (who:=who) hk t1 t2 t3 t4 (by omega) (by omega) h1 h8;have s0:=h.mono (Nat.le_succ n);have s1:=h.write (a:=c.Arg) hk hs;have s2:(mat gi c.Key).length < 8→_:=fun hl=>(h.inc (a:=who) hk hs hl).mono (Nat.le_succ n)
 dsimp only at s1 s2
 have e3:0 < (mat gi c.Key).length→w64 (((mat gi c.Key).length:Int) - 1)=(((mat gi c.Key).length - 1:Nat):Int):=fun h=>mZ (by omega) (by omega);have m1:mat (fC gi c.Key (mat gi c.Key++[who])) c.Key=mat gi c.Key++[who]:=by rw [qA,if_pos rfl]
 unfold iM jT ny jS jR iL
 simp only [cond_true,cond_false,zJ h1 h8,hf,hi,m1]
 repeat' (first | contradiction | with_reducible refine az (fun hq => ?_) (fun hq => ?_) | with_reducible refine ah (by first | omega | grind [bA]) ?_ | with_reducible refine ax ?_ | with_reducible refine bX ?_ | with_reducible refine dJ ?_ | with_reducible refine dK ?_ | with_reducible refine dL ?_ | with_reducible refine ag ?_)
 all_goals refine ⟨r',hr',?_⟩
 all_goals unfold Lp at spec
 all_goals simp only [Both]
 all_goals grind
theorem Lr {g:bG} {b:aL} {n:Nat} {c:Call} {who:Int} (h:Sim g b n) (h1:1≤c.Kind) (h8:c.Kind≤8) (hw:0≤who) (hn:n≤2048) :
  Tri (aG g c who) (fun r=>Tri (ak b c who) (Both r (n + 1))):=by
 have hl:=h.len;have t1:=h.tl;have t2:=h.wl;have t3:=h.il;have t4:=h.ll;have hk:=h.keys;have ht:=h.types;obtain ⟨r0,a3,hf⟩:=Di (l:=b.keys) (s:=c.Key) (by omega);rcases hf with ⟨rfl,hno⟩ | ⟨k,rfl,a1,a2,_⟩
 ·have hm:¬ iR g.at_ c.Key=true:=fun hh=>by
   obtain ⟨j,hj,he⟩:=(h.has c.Key).1 hh;exact hno j hj he
  unfold aG ak nz
  simp only [a3,zJ h1 h8,hk,ht]
  refine az (fun _ => ?_) (fun hh=>absurd hm hh);refine az (fun a4 => ?_) (fun a4 => ?_)
  ·refine ag (bX ?_)
   repeat' (first | contradiction | with_reducible refine az (fun hq => ?_) (fun hq => ?_) | with_reducible refine ah (by first | omega | grind [bA]) ?_ | with_reducible refine ax ?_ | with_reducible refine bX ?_ | with_reducible refine dJ ?_ | with_reducible refine dK ?_ | with_reducible refine dL ?_ | with_reducible refine ag ?_)
   ·exact ⟨rfl,fun h=>by cases h⟩
   ·omega
  ·have hS:=h.new (s:=c.Key) (t:=typ c.Kind) hno (by omega)
   rw [hk,ht] at hS
   have he:=enter_at (a0:=g) (who:=who) hS rfl rfl (k:=b.keys.length) (by simp) (jY rfl) h1 h8 hw hn
   dsimp only at he
   refine ah (by omega) (bX (ah (by omega) ?_));refine fV he (fun r hr => ?_);unfold ky kw
   simp only [EH h1 h8]
   repeat' (first | contradiction | with_reducible refine az (fun hq => ?_) (fun hq => ?_) | with_reducible refine ah (by first | omega | grind [bA]) ?_ | with_reducible refine ax ?_ | with_reducible refine bX ?_ | with_reducible refine dJ ?_ | with_reducible refine dK ?_ | with_reducible refine dL ?_ | with_reducible refine ag ?_ | exact hr)
   omega
 ·have hm:iR g.at_ c.Key=true:=(h.has c.Key).2 ⟨k,a1,a2⟩;have hat:mat g.at_ c.Key=(k:Int):=by rw [← a2]; exact h.at_ k a1
  have he:=enter_at (a0:=g) (who:=who) h rfl rfl a1 a2 h1 h8 hw hn;unfold aG ak
  simp only [a3,hat]
  refine az (fun hh=>absurd hm hh) (fun _ => ?_);refine fV he (fun r hr=>bX ?_)
  repeat' (first | contradiction | with_reducible refine az (fun hq => ?_) (fun hq => ?_) | with_reducible refine ah (by first | omega | grind [bA]) ?_ | with_reducible refine ax ?_ | with_reducible refine bX ?_ | with_reducible refine dJ ?_ | with_reducible refine dK ?_ | with_reducible refine dL ?_ | with_reducible refine ag ?_ | exact hr)
abbrev GS:=List ByteArray×(List (ByteArray×Int))×List Int×(List (dP×Unit))×(List (ByteArray×(List Int)))×Int
abbrev BS:=List ByteArray×List Int×(List (List Int))×List Int×List Int×Int
def JK (g:bG) (x:Int):GS:=(g.keys,g.at_,g.types,g.facts,g.incs,x)
def Ca (b:aL) (x:Int):BS:=(b.keys,b.types,b.wrote,b.incs,b.last_,x)
def Go1 (i n:Nat):GS ⊕ (Int ⊕ Int)→(List Call×Int) ⊕ (BS ⊕ Int)→Prop
 | .inl s,.inr (.inl t)=>∃ g b,s=JK g ((i + 1:Nat):Int)∧t=Ca b ((i + 1:Nat):Int)∧Sim g b n
 | .inr (.inr a),.inr (.inr b)=>a=1∧b=1
 | _,_=>False
theorem enters {g:bG} {b:aL} {n i:Nat} {l:List Call} {y:Event×Bool} (h:Sim g b n) (hy:y.1.Calls=l) (hl:l.length≤16) (hi:i < 64) (hn:n≤1024) (hc:wP l (fun c=>1≤c.Kind∧c.Kind≤8)) :
  Tri (iter (ru (i:Int) y) (JK g 0)) (fun x=>Tri (iter (ib (i:Int) l) (Ca b 0)) (Go1 i (n + 16) x)):=by
 refine DD l.length (fun k s t=>∃ g b,s=JK g (k:Int)∧t=Ca b (k:Int)∧Sim g b (n + k)) (Nat.zero_le _) ⟨g,b,rfl,rfl,h⟩ ?_;rintro k s t hk ⟨g,b,rfl,rfl,hS⟩;unfold ru ib JK Ca
 dsimp only
 rw [hy]
 refine az (fun h => ?_) (fun h => ?_)
 ·refine ah (by omega) ?_;obtain ⟨r,hr,r',hr',hb⟩:=Lr (who:=(i:Int)) hS (hc k (by omega)).1 (hc k (by omega)).2 (by omega) (by omega);refine bK hr ?_;have hw:w64 ((k:Int) + 1)=((k + 1:Nat):Int):=aZ (by omega)
  rw [hw]
  repeat' (first | contradiction | with_reducible refine az (fun hq => ?_) (fun hq => ?_) | with_reducible refine ah (by first | omega | grind [bA]) ?_ | with_reducible refine ax ?_ | with_reducible refine bX ?_ | with_reducible refine dJ ?_ | with_reducible refine dK ?_ | with_reducible refine dL ?_ | with_reducible refine ag ?_ | refine bK hr' ?_)
  ·exact ⟨rfl,rfl⟩
  ·exact absurd (by rw [hb.1]; omega) ‹r.1≠0›
  ·exact absurd (by rw [← hb.1]; omega) ‹r'.1≠0›
  ·exact ⟨by omega,r.2,r'.2,rfl,rfl,hb.2 (by omega)⟩
 ·have hw:w64 ((i:Int) + 1)=((i + 1:Nat):Int):=aZ (by omega)
  rw [hw]
  repeat' (first | contradiction | with_reducible refine az (fun hq => ?_) (fun hq => ?_) | with_reducible refine ah (by first | omega | grind [bA]) ?_ | with_reducible refine ax ?_ | with_reducible refine bX ?_ | with_reducible refine dJ ?_ | with_reducible refine dK ?_ | with_reducible refine dL ?_ | with_reducible refine ag ?_)
  exact ⟨g,b,rfl,rfl,hS.mono (by omega)⟩
theorem IA {h:History} {i:Nat} {b:aL} {Q:BS ⊕ Int→Prop} (hi:i < h.Txns.length) (hs:Ff (idx h.Txns (i:Int))) (a2:(idx h.Txns (i:Int)).Ops.length≤16)
  (h1:¬ (yE h (idx h.Txns (i:Int))∧Bq (AU h (idx h.Txns (i:Int))))→Q (.inr 1))
  (h2:yE h (idx h.Txns (i:Int))→Bq (AU h (idx h.Txns (i:Int)))→Tri (iter (ib (i:Int) (dR h (idx h.Txns (i:Int)))) (Ca b 0)) (fun x=>match x with | .inl _=>False | .inr y=>Q y)) :
  Tri (iter (ig h b.keys b.types b.wrote b.incs b.last_ (i:Int)) ([],0)) Q:=by
 generalize ht:idx h.Txns (i:Int)=t at hs a2 h1 h2;refine vC t.Ops.length (fun k l=>l=(dR h t).take k∧∀ j:Nat,j < k→0≤(idx t.Ops (j:Int)).Key∧(idx t.Ops (j:Int)).Key < (h.Keys.length:Int)) ⟨rfl,by omega⟩ ?_
 rintro k l hk ⟨rfl,hJ⟩;have hlen:((dR h t).take k).length=k:=by simp [dR]; omega
 unfold ig oH uw
 simp only [cond_true,cond_false,hlen,ht]
 have hsm:=Ey (e:=⟨0,t.Status,(dR h t).take k⟩) (hs.small k);have hfull:k=t.Ops.length→(dR h t).take k=dR h t:=fun e=>List.take_of_length_le (by simp [dR]; omega);have hnext:k < t.Ops.length→(dR h t).take (k + 1)=(dR h t).take k++[xE h (idx t.Ops (k:Int))]:=fun hk=>by
  rw [nu (by simpa [dR] using hk),dR,yM hk]
 have hw:w64 ((k:Int) + 1)=((k + 1:Nat):Int):=aZ (by omega)
 rw [hw]
 repeat' (first | contradiction | with_reducible refine az (fun hq => ?_) (fun hq => ?_) | with_reducible refine ah (by first | omega | grind [bA]) ?_ | with_reducible refine ax ?_ | with_reducible refine bX ?_ | with_reducible refine dJ ?_ | with_reducible refine dK ?_ | with_reducible refine dL ?_ | with_reducible refine ag ?_ | refine dN hsm (fun r hr => ?_))
 ·grind [Up2,yE,wP]
 ·grind [Up2,yE,wP]
 ·grind [Up2,xE]
 ·have a1:k=t.Ops.length:=by omega
  rw [hfull a1] at hr
  refine h1 (fun hh => ?_);have:=hr.1.2 hh.2
  contradiction
 ·have a1:k=t.Ops.length:=by omega
  rw [hfull a1] at hr ⊢
  have hK:yE _ t:=fun j hj=>hJ j (by omega);refine fV (h2 hK (hr.1.1 (by omega))) ?_;rintro (x | y) hxy
  ·exact hxy.elim
  ·exact hxy
def Cb (h:History) (i:Nat):Prop:=zI h.Txns i∧yE h (idx h.Txns (i:Int))∧Bq (AU h (idx h.Txns (i:Int)))
def qM (h:History):Prop:=h.Keys.length * 16≤140737488351232∧h.Txns.length * 56≤140737488351232∧wP h.Txns Ff
theorem NV {h:History} (hs:qM h) (hN:rY h.Keys) (b0:h.Txns.length≤32) :
  Tri (iter (oh h) (JK ⟨[],[],[],[],[]⟩ 0)) (fun x=>Tri (iter (kX h) (Ca ⟨[],[],[],[],[]⟩ 0)) (fun y=>(∃ v,x = .inr v∧v=y)∧(y=0∨y=1))):=by
 obtain ⟨a9,a8,a2⟩:=hs;refine DD h.Txns.length (fun k s t=>∃ g b,s=JK g (k:Int)∧t=Ca b (k:Int)∧Sim g b (k * 16)∧∀ j:Nat,j < k→Cb h j) (Nat.zero_le _) ⟨_,_,rfl,rfl,Sim.start,fun j hj=>absurd hj (Nat.not_lt_zero _)⟩ ?_;rintro k s t hk ⟨g,b,rfl,rfl,hS,hJ⟩;unfold oh ry kX kW JK Ca
 simp only [cond_true,cond_false]
 refine az (fun a6 => ?_) (fun a6 => ?_)
 ·have a1:k < h.Txns.length:=by omega
  obtain ⟨r,hr,a5,a7⟩:=Dh (h:=h) (a2 k a1);obtain ⟨p,hp,a4⟩:=BZ (l:=h.Txns) a1 (by omega);obtain ⟨p',hp',hp1'⟩:=za (l:=h.Txns) a1 (by omega);have hco:Bq (AU h (idx h.Txns (k:Int)))→(idx h.Txns (k:Int)).Ops.length≤16:=fun he=>by
   have:=he.2.2.1
   simpa [AU,dR] using this
  refine ah (by omega) (bK hr ?_)
  by_cases hok:Cb h k
  ·have e1:r.2=true:=a5.2 ⟨hok.2.1,hok.2.2⟩;have e2:p=true:=a4.2 hok.1;have e3:p'=true:=hp1'.2 hok.1;have hc:wP (dR h (idx h.Txns (k:Int))) (fun c=>1≤c.Kind∧c.Kind≤8):=fun j hj=>⟨(hok.2.2.2.2.2 j hj).1,(hok.2.2.2.2.2 j hj).2.1⟩;obtain ⟨x,hx,y,hy,hxy⟩:=enters (y:=r) (i:=k) hS (congrArg Event.Calls (a7 e1)) hok.2.2.2.2.1 (by omega) (by omega) hc;refine az (fun h=>absurd e1 h) (fun _ => ?_);refine ah (by omega) (bK hp ?_);refine az (fun h=>absurd e2 h) (fun _ => ?_);refine ⟨x,hx,?_⟩
   repeat' (first | contradiction | with_reducible refine az (fun hq => ?_) (fun hq => ?_) | with_reducible refine ah (by first | omega | grind [bA]) ?_ | with_reducible refine ax ?_ | with_reducible refine bX ?_ | with_reducible refine dJ ?_ | with_reducible refine dK ?_ | with_reducible refine dL ?_ | with_reducible refine ag ?_ | refine bK hp' ?_)
   ·exact absurd (hco hok.2.2) (by omega)
   ·refine IA a1 (a2 k a1) (hco hok.2.2) (fun hn=>absurd ⟨hok.2.1,hok.2.2⟩ hn) (fun _ _=>⟨y,hy,?_⟩);rcases x with s | a | a <;> rcases y with t | t | t
    ·exact hxy.elim
    ·obtain ⟨g',b',rfl,rfl,hS'⟩:=hxy;refine ⟨by omega,g',b',rfl,rfl,(show k * 16 + 16=(k + 1) * 16 by omega) ▸ hS',fun j hj => ?_⟩
     rcases Nat.lt_or_ge j k with h1 | h1
     ·exact hJ j h1
     ·rw [show j=k by omega]; exact hok
    ·exact hxy.elim
    ·exact hxy.elim
    ·exact hxy.elim
    ·exact hxy.elim
    ·exact hxy.elim
    ·exact hxy.elim
    ·obtain ⟨rfl,rfl⟩:=hxy;exact ⟨⟨1,rfl,rfl⟩,.inr rfl⟩
  ·have h1:Tri (iter (ig h b.keys b.types b.wrote b.incs b.last_ (k:Int)) ([],0)) (fun y=>p'=true→(idx h.Txns (k:Int)).Ops.length≤16→y = .inr 1) ∨ ¬ ((idx h.Txns (k:Int)).Ops.length≤16) ∨ ¬ p'=true:=by
    by_cases a3:(idx h.Txns (k:Int)).Ops.length≤16
    ·by_cases h3:p'=true
     ·refine .inl (IA a1 (a2 k a1) a3 (fun _ _ _=>rfl) (fun q1 q2=>absurd ⟨hp1'.1 h3,q1,q2⟩ hok))
     ·exact .inr (.inr h3)
    ·exact .inr (.inl a3)
   have hend:Tri (aQ h.Txns (k:Int)) (fun y=>Tri (bif !y then (out (some 1):Option (BS ⊕ Int)) else bif decide ((((idx h.Txns (k:Int)).Ops).length:Int) > 16) then out (some 1) else iter (ig h b.keys b.types b.wrote b.incs b.last_ (k:Int)) ([],0)) (fun y=>y = .inr 1)):=by
    refine ⟨p',hp',?_⟩
    repeat' (first | contradiction | with_reducible refine az (fun hq => ?_) (fun hq => ?_) | with_reducible refine ah (by first | omega | grind [bA]) ?_ | with_reducible refine ax ?_ | with_reducible refine bX ?_ | with_reducible refine dJ ?_ | with_reducible refine dK ?_ | with_reducible refine dL ?_ | with_reducible refine ag ?_)
    ·rfl
    ·rfl
    ·rcases h1 with h1 | h1 | h1
     ·exact fV h1 (fun y hy=>hy (Decidable.of_not_not ‹¬¬p'=true›) (by omega))
     ·omega
     ·contradiction
   have hend2:∀ {Q:BS ⊕ Int→Prop},Q (.inr 1)→Tri ((aQ h.Txns (k:Int)).bind fun y=>bif !y then (out (some 1):Option (BS ⊕ Int)) else bif decide ((((idx h.Txns (k:Int)).Ops).length:Int) > 16) then out (some 1) else iter (ig h b.keys b.types b.wrote b.incs b.last_ (k:Int)) ([],0)) Q:=by
    intro Q hQ;refine dN hend (fun y hy=>fV hy ?_);rintro _ rfl;exact hQ
   repeat' (first | contradiction | with_reducible refine az (fun hq => ?_) (fun hq => ?_) | with_reducible refine ah (by first | omega | grind [bA]) ?_ | with_reducible refine ax ?_ | with_reducible refine bX ?_ | with_reducible refine dJ ?_ | with_reducible refine dK ?_ | with_reducible refine dL ?_ | with_reducible refine ag ?_ | refine bK hp ?_)
   ·refine hend2 ?_;exact ⟨⟨1,rfl,rfl⟩,.inr rfl⟩
   ·refine hend2 ?_;exact ⟨⟨1,rfl,rfl⟩,.inr rfl⟩
   ·exact absurd ⟨a4.1 (by grind),a5.1 (by grind)⟩ hok
 ·repeat' (first | contradiction | with_reducible refine az (fun hq => ?_) (fun hq => ?_) | with_reducible refine ah (by first | omega | grind [bA]) ?_ | with_reducible refine ax ?_ | with_reducible refine bX ?_ | with_reducible refine dJ ?_ | with_reducible refine dK ?_ | with_reducible refine dL ?_ | with_reducible refine ag ?_)
  exact ⟨⟨0,rfl,rfl⟩,.inl rfl⟩
theorem Dj {h:History} (hs:qM h):Tri (aC h) (fun v=>Tri (aF h) (fun v'=>v=v'∧(v=0∨v=1))):=by
 obtain ⟨a4,a2,a5⟩:=hs;obtain ⟨y,hy,hn⟩:=Fg (l:=h.Keys) (by omega);have hT:=fun hN a1=>NV (h:=h) ⟨a4,a2,a5⟩ hN a1;have hfail:¬ (rY h.Keys∧h.Txns.length≤32)→aF h=some 1:=by
  intro hno;refine eQ.1 ?_;unfold aF jd
  simp only [cond_true,cond_false]
  repeat' (first | contradiction | with_reducible refine az (fun hq => ?_) (fun hq => ?_) | with_reducible refine ah (by first | omega | grind [bA]) ?_ | with_reducible refine ax ?_ | with_reducible refine bX ?_ | with_reducible refine dJ ?_ | with_reducible refine dK ?_ | with_reducible refine dL ?_ | with_reducible refine ag ?_ | refine bK hy ?_)
  ·rfl
  ·rfl
  ·exact absurd ⟨hn.1 (Decidable.of_not_not ‹¬¬y=true›),by omega⟩ hno
 have hgood:rY h.Keys→h.Txns.length≤32→Tri (iter (oh h) (JK ⟨[],[],[],[],[]⟩ 0)) (fun x=>Tri (aF h) (fun v'=>x = .inr v'∧(v'=0∨v'=1))):=by
  intro hN a1;refine fV (hT hN a1) (fun x hx => ?_);unfold aF jd
  simp only [cond_true,cond_false]
  have:=hn.2 hN
  repeat' (first | contradiction | with_reducible refine az (fun hq => ?_) (fun hq => ?_) | with_reducible refine ah (by first | omega | grind [bA]) ?_ | with_reducible refine ax ?_ | with_reducible refine bX ?_ | with_reducible refine dJ ?_ | with_reducible refine dK ?_ | with_reducible refine dL ?_ | with_reducible refine ag ?_ | refine bK hy ?_)
  ·omega
  ·refine fV hx (fun v hv => ?_);obtain ⟨⟨v2,rfl,rfl⟩,h2⟩:=hv;exact ⟨rfl,h2⟩
 have hbad:¬ (rY h.Keys∧h.Txns.length≤32)→Tri (aF h) (fun v'=>(1:Int)=v'∧((1:Int)=0∨(1:Int)=1)):=fun hno=>⟨1,hfail hno,rfl,.inr rfl⟩;unfold aC rz
 simp only [cond_true,cond_false]
 repeat' (first | contradiction | with_reducible refine az (fun hq => ?_) (fun hq => ?_) | with_reducible refine ah (by first | omega | grind [bA]) ?_ | with_reducible refine ax ?_ | with_reducible refine bX ?_ | with_reducible refine dJ ?_ | with_reducible refine dK ?_ | with_reducible refine dL ?_ | with_reducible refine ag ?_)
 ·exact hbad (fun hh=>by have:=hh.1.1; omega)
 ·exact hbad (fun hh=>by have:=hh.2; omega)
 ·refine pF h.Keys.length (Br h.Keys) ?_;intro k hk hJ;unfold vL og
  simp only [cond_true,cond_false]
  have hf:k < h.Keys.length→Tri (slices_Contains_string (kg h.Keys 0 (k:Int)) (idx h.Keys (k:Int))) (fun r=>r=true↔∃ j:Nat,j < k∧idx h.Keys (j:Int)=idx h.Keys (k:Int)):=by
   intro hk'
   rw [oN (by omega)]
   refine fV (GA (by simp; omega)) (fun r hr => ?_);have ht:(h.Keys.take k).length=k:=by simp; omega
   have hx:∀ j:Nat,j < k→idx (h.Keys.take k) (j:Int)=idx h.Keys (j:Int):=fun j h=>zY h
   rw [ht] at hr
   grind
  have he:=GY (k:=idx h.Keys (k:Int));have hw:w64 ((k:Int) + 1)=((k + 1:Nat):Int):=aZ (by omega)
  rw [hw]
  have hNk:Br h.Keys k↔(1≤(idx h.Keys (k:Int)).size∧(idx h.Keys (k:Int)).size≤32∧∀ j:Nat,j < k→idx h.Keys (j:Int)≠idx h.Keys (k:Int)):=Iff.rfl;have hno:k < h.Keys.length → ¬ Br h.Keys k → ¬ (rY h.Keys∧h.Txns.length≤32):=fun h1 h2 h3=>h2 (h3.1.2 k h1);refine az (fun a3 => ?_) (fun a3 => ?_)
  ·refine ah (by omega) ?_
   repeat' (first | contradiction | with_reducible refine az (fun hq => ?_) (fun hq => ?_) | with_reducible refine ah (by first | omega | grind [bA]) ?_ | with_reducible refine ax ?_ | with_reducible refine bX ?_ | with_reducible refine dJ ?_ | with_reducible refine dK ?_ | with_reducible refine dL ?_ | with_reducible refine ag ?_ | refine dN (hf (by omega)) (fun r hr => ?_))
   ·exact hbad (hno (by omega) (by grind))
   ·exact hbad (hno (by omega) (by grind))
   ·exact hbad (hno (by omega) (by grind))
   ·exact ⟨rfl,by omega,by grind⟩
  ·have hN:rY h.Keys:=⟨by omega,fun i hi=>hJ i (by omega)⟩
   unfold qp;refine bX ?_;obtain ⟨x,hx,v,hv,hq⟩:=hgood hN (by omega);obtain ⟨rfl,h2⟩:=hq;exact ⟨_,hx,v,hv,rfl,h2⟩
end Go.Proofs.YtfpeabnehpclnaaGreatT
namespace Go.Proofs.YtfpeabnehpclnaaGreatT
open Go Go.Proofs Go.Proofs.YtfpeabnehpclnaaGreatE
set_option linter.unusedVariables false
set_option linter.unusedSimpArgs false
def rZ (l:List Int) (c:Call) (w:Int) (s:ByteArray):List Int:=if c.Kind=4∧c.Key=s∧(l.length=0∨idx l ((l.length - 1:Nat):Int)≠w) then l++[w] else l
def mO (E:List (Call×Int)) (s:ByteArray):List Int:=E.foldl (fun l e=>rZ l e.1 e.2 s) []
theorem Dk {E:List (Call×Int)} {c:Call} {w:Int} {s:ByteArray}:mO (E++[(c,w)]) s=rZ (mO E s) c w s:=by
 unfold mO; rw [List.foldl_append]; rfl
theorem wo {l:List Int} {c:Call} {w:Int} {s:ByteArray} (h:¬ (c.Kind=4∧c.Key=s)):rZ l c w s=l:=by
 unfold rZ; rw [if_neg (fun hh=>h ⟨hh.1,hh.2.1⟩)]
def PL (E:List (Call×Int)) (c:Call) (w:Int):Prop :=
 ((c.Kind=2∨c.Kind=3)→∀ e ∈ E,e.1.Key=c.Key→(e.1.Kind=2∨e.1.Kind=3)→e.1.Arg≠c.Arg)∧(c.Kind=4→(rZ (mO E c.Key) c w c.Key).length≤8)
def MN (E:List (Call×Int)) (c:Call) (w:Int):Prop:=(∀ e ∈ E,e.1.Key=c.Key→typ e.1.Kind=typ c.Kind)∧PL E c w
structure BookInv0 (E:List (Call×Int)) (b:aL):Prop where
 tl:b.types.length=b.keys.length
 wl:b.wrote.length=b.keys.length
 il:b.incs.length=b.keys.length
 ll:b.last_.length=b.keys.length
 nd:∀ i j:Nat,i < b.keys.length→j < b.keys.length→idx b.keys (i:Int)=idx b.keys (j:Int)→i=j
 ks:∀ e ∈ E,∃ j:Nat,j < b.keys.length∧idx b.keys (j:Int)=e.1.Key
 ty:∀ e ∈ E,∀ j:Nat,j < b.keys.length→idx b.keys (j:Int)=e.1.Key→idx b.types (j:Int)=typ e.1.Kind
 wr:∀ j:Nat,j < b.keys.length→∀ a,(∃ m:Nat,m < (idx b.wrote (j:Int)).length∧idx (idx b.wrote (j:Int)) (m:Int)=a)↔∃ e ∈ E,e.1.Key=idx b.keys (j:Int)∧(e.1.Kind=2∨e.1.Kind=3)∧e.1.Arg=a
 wn:∀ j:Nat,j < b.keys.length→(idx b.wrote (j:Int)).length≤E.length
 ic:∀ j:Nat,j < b.keys.length→idx b.incs (j:Int)=((mO E (idx b.keys (j:Int))).length:Int)
 i8:∀ j:Nat,j < b.keys.length→(mO E (idx b.keys (j:Int))).length≤8
 io:∀ s,(∀ j:Nat,j < b.keys.length→idx b.keys (j:Int)≠s)→mO E s=[]
 la:∀ j:Nat,j < b.keys.length→((mO E (idx b.keys (j:Int))).length=0→idx b.last_ (j:Int) = -1) ∧
  (0 < (mO E (idx b.keys (j:Int))).length→idx b.last_ (j:Int)=idx (mO E (idx b.keys (j:Int))) (((mO E (idx b.keys (j:Int))).length - 1:Nat):Int))
theorem BookInv0.start:BookInv0 [] ⟨[],[],[],[],[]⟩:=by
 refine ⟨rfl,rfl,rfl,rfl,?_,?_,?_,?_,?_,?_,?_,?_,?_⟩
 all_goals simp [mO]
theorem BookInv0.new {E:List (Call×Int)} {b:aL} (h:BookInv0 E b) {s:ByteArray} {t:Int} (hn:∀ j:Nat,j < b.keys.length→idx b.keys (j:Int)≠s) :
  BookInv0 E ⟨b.keys++[s],b.types++[t],b.wrote++[[]],b.incs++[0],b.last_++[-1]⟩:=by
 have hl:(b.keys++[s]).length=b.keys.length + 1:=by simp
 have k1:∀ j:Nat,j < b.keys.length→idx (b.keys++[s]) (j:Int)=idx b.keys (j:Int):=fun j hj=>lg hj;have k2:idx (b.keys++[s]) ((b.keys.length:Nat):Int)=s:=jY rfl;have t1:∀ j:Nat,j < b.keys.length→idx (b.types++[t]) (j:Int)=idx b.types (j:Int):=fun j hj=>lg (by rw [h.tl]; exact hj);have w1:∀ j:Nat,j < b.keys.length→idx (b.wrote++[[]]) (j:Int)=idx b.wrote (j:Int):=fun j hj=>lg (by rw [h.wl]; exact hj);have w2:idx (b.wrote++[[]]) ((b.keys.length:Nat):Int)=[]:=jY h.wl.symm;have i1:∀ j:Nat,j < b.keys.length→idx (b.incs++[0]) (j:Int)=idx b.incs (j:Int):=fun j hj=>lg (by rw [h.il]; exact hj);have i2:idx (b.incs++[0]) ((b.keys.length:Nat):Int)=0:=jY h.il.symm;have l1:∀ j:Nat,j < b.keys.length→idx (b.last_++[-1]) (j:Int)=idx b.last_ (j:Int):=fun j hj=>lg (by rw [h.ll]; exact hj);have l2:idx (b.last_++[-1]) ((b.keys.length:Nat):Int) = -1:=jY h.ll.symm;have ho:=h.io s hn;have hne:∀ e ∈ E,e.1.Key≠s:=fun e he hs=>by
  obtain ⟨j,hj,hk⟩:=h.ks e he;exact hn j hj (hk.trans hs)
 have cut:∀ j:Nat,j < b.keys.length + 1→j < b.keys.length∨j=b.keys.length:=by omega
 refine ⟨by simp [h.tl],by simp [h.wl],by simp [h.il],by simp [h.ll],?_,?_,?_,?_,?_,?_,?_,?_,?_⟩
 ·intro i j hi hj he
  dsimp only at hi hj he
  rw [hl] at hi hj
  have:=h.nd i j;rcases cut i hi with hi' | hi' <;> rcases cut j hj with hj' | hj' <;> grind
 ·intro e he;obtain ⟨j,hj,hk⟩:=h.ks e he;exact ⟨j,by simp; omega,(k1 j hj).trans hk⟩
 ·intro e he j hj hk
  dsimp only at hj hk ⊢
  rw [hl] at hj
  rcases cut j hj with hj' | hj'
  ·rw [k1 j hj'] at hk; rw [t1 j hj']; exact h.ty e he j hj' hk
  ·subst hj'; rw [k2] at hk; exact absurd hk.symm (hne e he)
 ·intro j hj a
  dsimp only at hj ⊢
  rw [hl] at hj
  rcases cut j hj with hj' | hj'
  ·rw [k1 j hj',w1 j hj']; exact h.wr j hj' a
  ·subst hj'
   rw [k2,w2]
   constructor
   ·rintro ⟨m,hm,_⟩; simp at hm
   ·rintro ⟨e,he,hk,_⟩; exact absurd hk (hne e he)
 ·intro j hj
  dsimp only at hj ⊢
  rw [hl] at hj
  rcases cut j hj with hj' | hj'
  ·rw [w1 j hj']; exact h.wn j hj'
  ·subst hj'; rw [w2]; simp
 ·intro j hj
  dsimp only at hj ⊢
  rw [hl] at hj
  rcases cut j hj with hj' | hj'
  ·rw [k1 j hj',i1 j hj']; exact h.ic j hj'
  ·subst hj'; rw [k2,i2,ho]; rfl
 ·intro j hj
  dsimp only at hj ⊢
  rw [hl] at hj
  rcases cut j hj with hj' | hj'
  ·rw [k1 j hj']; exact h.i8 j hj'
  ·subst hj'; rw [k2,ho]; simp
 ·intro x hx
  dsimp only at hx ⊢
  rw [hl] at hx
  exact h.io x (fun j hj=>by rw [← k1 j hj]; exact hx j (by omega))
 ·intro j hj
  dsimp only at hj ⊢
  rw [hl] at hj
  rcases cut j hj with hj' | hj'
  ·rw [k1 j hj',l1 j hj']; exact h.la j hj'
  ·subst hj'; rw [k2,l2,ho]; simp
theorem iO {E:List (Call×Int)} {c:Call} {w:Int} {e:Call×Int}:e ∈ E++[(c,w)]↔e ∈ E∨e=(c,w):=by simp
theorem BookInv0.same {E:List (Call×Int)} {b:aL} {c:Call} {w:Int} {k:Nat} (h:BookInv0 E b) (hk:k < b.keys.length) (hs:idx b.keys (k:Int)=c.Key) (ht:idx b.types (k:Int)=typ c.Kind)
  (h2:c.Kind≠2) (h3:c.Kind≠3) (hw:rZ (mO E c.Key) c w c.Key=mO E c.Key):BookInv0 (E++[(c,w)]) b:=by
 have hws:∀ s,mO (E++[(c,w)]) s=mO E s:=fun s=>by
  rw [Dk]
  by_cases e:c.Kind=4∧c.Key=s
  ·rw [← e.2]; exact hw
  ·exact wo e
 refine ⟨h.tl,h.wl,h.il,h.ll,h.nd,?_,?_,?_,?_,?_,?_,?_,?_⟩
 ·intro e he;rcases iO.1 he with he | rfl
  ·exact h.ks e he
  ·exact ⟨k,hk,hs⟩
 ·intro e he j hj hkj;rcases iO.1 he with he | rfl
  ·exact h.ty e he j hj hkj
  ·have:=h.nd j k hj hk (hkj.trans hs.symm);subst this;exact ht
 ·intro j hj a
  rw [h.wr j hj a]
  constructor
  ·rintro ⟨e,he,r⟩; exact ⟨e,iO.2 (.inl he),r⟩
  ·rintro ⟨e,he,r⟩;rcases iO.1 he with he | rfl
   ·exact ⟨e,he,r⟩
   ·rcases r.2.1 with r | r <;> contradiction
 ·intro j hj;have:=h.wn j hj
  simp; omega
 ·intro j hj; rw [hws]; exact h.ic j hj
 ·intro j hj; rw [hws]; exact h.i8 j hj
 ·intro s hs'; rw [hws]; exact h.io s hs'
 ·intro j hj; rw [hws]; exact h.la j hj
theorem BookInv0.write {E:List (Call×Int)} {b:aL} {c:Call} {w:Int} {k:Nat} (h:BookInv0 E b) (hk:k < b.keys.length) (hs:idx b.keys (k:Int)=c.Key) (ht:idx b.types (k:Int)=typ c.Kind)
  (a1:c.Kind=2∨c.Kind=3):BookInv0 (E++[(c,w)]) ⟨b.keys,b.types,b.wrote.set k (idx b.wrote (k:Int)++[c.Arg]),b.incs,b.last_⟩:=by
 have hws:∀ s,mO (E++[(c,w)]) s=mO E s:=fun s=>by
  rw [Dk]
  exact wo (fun e=>by omega)
 have w1:∀ j:Nat,idx (b.wrote.set k (idx b.wrote (k:Int)++[c.Arg])) (j:Int)=if j=k then idx b.wrote (k:Int)++[c.Arg] else idx b.wrote (j:Int):=fun j=>uF (by rw [h.wl]; exact hk);refine ⟨h.tl,by simp [h.wl],h.il,h.ll,h.nd,?_,?_,?_,?_,?_,?_,?_,?_⟩
 ·intro e he;rcases iO.1 he with he | rfl
  ·exact h.ks e he
  ·exact ⟨k,hk,hs⟩
 ·intro e he j hj hkj;rcases iO.1 he with he | rfl
  ·exact h.ty e he j hj hkj
  ·have:=h.nd j k hj hk (hkj.trans hs.symm);subst this;exact ht
 ·intro j hj a
  dsimp only at hj ⊢
  rw [w1 j]
  have hold:=h.wr j hj a
  by_cases e:j=k
  ·subst e
   rw [if_pos rfl]
   constructor
   ·rintro ⟨m,hm,he⟩;rcases Nat.lt_or_ge m (idx b.wrote (j:Int)).length with h1 | h1
    ·rw [lg h1] at he
     obtain ⟨e,he',r⟩:=hold.1 ⟨m,h1,he⟩;exact ⟨e,iO.2 (.inl he'),r⟩
    ·simp at hm
     rw [jY (by omega)] at he
     exact ⟨(c,w),iO.2 (.inr rfl),hs.symm,a1,he⟩
   ·rintro ⟨e,he,r⟩;rcases iO.1 he with he | rfl
    ·obtain ⟨m,hm,hh⟩:=hold.2 ⟨e,he,r⟩;exact ⟨m,by simp; omega,(lg hm).trans hh⟩
    ·exact ⟨_,by simp,(jY rfl).trans r.2.2⟩
  ·rw [if_neg e,hold]
   constructor
   ·rintro ⟨e,he,r⟩; exact ⟨e,iO.2 (.inl he),r⟩
   ·rintro ⟨e',he,r⟩;rcases iO.1 he with he | rfl
    ·exact ⟨e',he,r⟩
    ·exact absurd (h.nd j k hj hk (r.1.symm.trans hs.symm)) e
 ·intro j hj
  dsimp only at hj ⊢
  rw [w1 j]
  have:=h.wn j hj
  split
  ·rename_i e; subst e; simp; omega
  ·simp; omega
 ·intro j hj; rw [hws]; exact h.ic j hj
 ·intro j hj; rw [hws]; exact h.i8 j hj
 ·intro s hs'; rw [hws]; exact h.io s hs'
 ·intro j hj; rw [hws]; exact h.la j hj
theorem BookInv0.inc {E:List (Call×Int)} {b:aL} {c:Call} {w:Int} {k:Nat} (h:BookInv0 E b) (hk:k < b.keys.length) (hs:idx b.keys (k:Int)=c.Key) (ht:idx b.types (k:Int)=typ c.Kind)
  (h4:c.Kind=4) (hw:rZ (mO E c.Key) c w c.Key=mO E c.Key++[w]) (h8:(mO E c.Key).length + 1≤8) :
  BookInv0 (E++[(c,w)]) ⟨b.keys,b.types,b.wrote,b.incs.set k (idx b.incs (k:Int) + 1),b.last_.set k w⟩:=by
 have hws:∀ s,mO (E++[(c,w)]) s=if c.Key=s then mO E s++[w] else mO E s:=fun s=>by
  rw [Dk]
  by_cases e:c.Key=s
  ·rw [if_pos e,← e]; exact hw
  ·rw [if_neg e]; exact wo (fun hh=>e hh.2)
 have i1:∀ j:Nat,idx (b.incs.set k (idx b.incs (k:Int) + 1)) (j:Int)=if j=k then idx b.incs (k:Int) + 1 else idx b.incs (j:Int):=fun j=>uF (by rw [h.il]; exact hk);have l1:∀ j:Nat,idx (b.last_.set k w) (j:Int)=if j=k then w else idx b.last_ (j:Int):=fun j=>uF (by rw [h.ll]; exact hk);have hne:∀ j:Nat,j < b.keys.length→(c.Key=idx b.keys (j:Int)↔j=k):=fun j hj=>⟨fun e=>h.nd j k hj hk (e.symm.trans hs.symm),fun e=>by rw [e,hs]⟩
 refine ⟨h.tl,h.wl,by simp [h.il],by simp [h.ll],h.nd,?_,?_,?_,?_,?_,?_,?_,?_⟩
 ·intro e he;rcases iO.1 he with he | rfl
  ·exact h.ks e he
  ·exact ⟨k,hk,hs⟩
 ·intro e he j hj hkj;rcases iO.1 he with he | rfl
  ·exact h.ty e he j hj hkj
  ·have:=h.nd j k hj hk (hkj.trans hs.symm);subst this;exact ht
 ·intro j hj a
  dsimp only at hj ⊢
  rw [h.wr j hj a]
  constructor
  ·rintro ⟨e,he,r⟩; exact ⟨e,iO.2 (.inl he),r⟩
  ·rintro ⟨e,he,r⟩;rcases iO.1 he with he | rfl
   ·exact ⟨e,he,r⟩
   ·have:=r.2.1; dsimp only at this; omega
 ·intro j hj;have:=h.wn j hj
  simp; omega
 ·intro j hj
  dsimp only at hj ⊢
  have:=h.ic j hj
  rw [hws,i1 j]
  by_cases e:j=k
  ·rw [if_pos e,if_pos ((hne j hj).2 e)]; subst e; simp; omega
  ·rw [if_neg e,if_neg (fun hh=>e ((hne j hj).1 hh))]; exact this
 ·intro j hj
  dsimp only at hj ⊢
  rw [hws]
  by_cases e:j=k
  ·rw [if_pos ((hne j hj).2 e)]; subst e; rw [hs]; simp; omega
  ·rw [if_neg (fun hh=>e ((hne j hj).1 hh))]; exact h.i8 j hj
 ·intro s hs'
  dsimp only at hs'
  rw [hws,if_neg (fun e=>hs' k hk (hs.trans e))]
  exact h.io s hs'
 ·intro j hj
  dsimp only at hj ⊢
  rw [hws,l1 j]
  by_cases e:j=k
  ·rw [if_pos e,if_pos ((hne j hj).2 e)]
   refine ⟨fun h0=>by simp at h0,fun _ => ?_⟩
   rw [jY (by simp)]
  ·rw [if_neg e,if_neg (fun hh=>e ((hne j hj).1 hh))]; exact h.la j hj
theorem MO {E:List (Call×Int)} {b:aL} {c:Call} {w:Int} {k:Nat} (h:BookInv0 E b) (hk:k < b.keys.length) (hs:idx b.keys (k:Int)=c.Key) (ht:idx b.types (k:Int)=typ c.Kind)
  (h1:1≤c.Kind) (h8:c.Kind≤8) (hw:0≤w) (hE:E.length≤4096) :
  Tri (fG c w b.keys b.types b.wrote b.incs b.last_ (k:Int)) (fun r=>(r.1=0↔PL E c w)∧(r.1=0→BookInv0 (E++[(c,w)]) r.2∧r.2.keys=b.keys∧r.2.types=b.types)):=by
 have hin:=h.ic k hk;have a1:=h.i8 k hk;have hla:=h.la k hk;have hwr:=h.wr k hk c.Arg;have hwn:=h.wn k hk
 rw [hs] at hin a1 hla hwr
 refine fV (Iz (who:=w) hk h.tl h.wl h.il h.ll (by omega) (by omega) h1 h8) (fun r hr => ?_);have stay:∀ {l:List Int},rZ (mO E c.Key) c w c.Key=l→l=if c.Kind=4∧((mO E c.Key).length=0∨idx (mO E c.Key) (((mO E c.Key).length - 1:Nat):Int)≠w) then mO E c.Key++[w] else mO E c.Key:=by
  rintro l rfl;unfold rZ
  simp
 have st:=stay rfl;rcases hr with ⟨a,rfl⟩ | ⟨_,b1,b2,rfl⟩ | ⟨_,b1,b2,rfl⟩ | ⟨_,b1,b2,b3,b4⟩ | ⟨_,b1,b2,b3,rfl⟩ | ⟨_,b1,b2,rfl⟩ | ⟨_,b1,b2,b3,rfl⟩
 ·exact absurd ht a
 ·refine ⟨⟨fun h=>by simp at h,fun hh => ?_⟩,fun h=>by simp at h⟩
  obtain ⟨e,he,r1,r2,r3⟩:=hwr.1 b2;exact absurd r3 (hh.1 b1 e he r1 r2)
 ·refine ⟨⟨fun _=>⟨fun _ e he r1 r2 r3=>b2 (hwr.2 ⟨e,he,r1,r2,r3⟩),fun h4=>by omega⟩,fun _=>rfl⟩,fun _=>⟨h.write hk hs ht b1,rfl,rfl⟩⟩
 ·have hne:(mO E c.Key).length=0∨idx (mO E c.Key) (((mO E c.Key).length - 1:Nat):Int)≠w:=by grind
  rw [if_pos ⟨b1,hne⟩] at st
  refine ⟨⟨fun h0=>by omega,fun hh => ?_⟩,fun h0=>by omega⟩
  have:=hh.2 b1
  rw [st] at this
  simp at this
  omega
 ·have hne:(mO E c.Key).length=0∨idx (mO E c.Key) (((mO E c.Key).length - 1:Nat):Int)≠w:=by grind
  rw [if_pos ⟨b1,hne⟩] at st
  refine ⟨⟨fun _=>⟨fun h=>by omega,fun _=>by rw [st]; simp; omega⟩,fun _=>rfl⟩,fun _=>⟨h.inc hk hs ht b1 st (by omega),rfl,rfl⟩⟩
 ·have hne:¬ ((mO E c.Key).length=0∨idx (mO E c.Key) (((mO E c.Key).length - 1:Nat):Int)≠w):=by grind
  rw [if_neg (fun hh=>hne hh.2)] at st
  refine ⟨⟨fun _=>⟨fun h=>by omega,fun _=>by rw [st]; exact a1⟩,fun _=>rfl⟩,fun _=>⟨h.same hk hs ht (by omega) (by omega) st,rfl,rfl⟩⟩
 ·rw [if_neg (fun hh=>b3 hh.1)] at st
  refine ⟨⟨fun _=>⟨fun h=>by omega,fun h=>by omega⟩,fun _=>rfl⟩,fun _=>⟨h.same hk hs ht b1 b2 st,rfl,rfl⟩⟩
structure si (E:List (Call×Int)) (b:aL):Prop extends BookInv0 E b where
 len:b.keys.length≤32
 kex:∀ j:Nat,j < b.keys.length→∃ e ∈ E,e.1.Key=idx b.keys (j:Int)
theorem si.start:si [] ⟨[],[],[],[],[]⟩:=⟨BookInv0.start,by simp,fun j hj=>by simp at hj⟩
theorem NW {E:List (Call×Int)} {b:aL} {c:Call} {w:Int} (h:si E b) (hroom:b.keys.length=32→∃ j:Nat,j < b.keys.length∧idx b.keys (j:Int)=c.Key)
  (h1:1≤c.Kind) (h8:c.Kind≤8) (hw:0≤w) (hE:E.length≤4096) :
  Tri (ak b c w) (fun r=>(r.1=0↔MN E c w)∧(r.1=0→si (E++[(c,w)]) r.2)):=by
 have hl:=h.len;have t1:=h.tl;have t2:=h.wl;have t3:=h.il;have t4:=h.ll;obtain ⟨r0,a5,hf⟩:=Di (l:=b.keys) (s:=c.Key) (by omega);unfold ak
 rw [a5]
 refine bX ?_;rcases hf with ⟨rfl,hno⟩ | ⟨k,rfl,a1,a2,_⟩
 ·refine az (fun _ => ?_) (fun hh=>by omega);refine az (fun a6 => ?_) (fun a6 => ?_)
  ·obtain ⟨j,hj,he⟩:=hroom (by omega);exact absurd he (hno j hj)
  ·have hn:=h.toBookInv0.new (s:=c.Key) (t:=typ c.Kind) hno;have hat:=MO (w:=w) hn (k:=b.keys.length) (by simp) (jY rfl) (jY t1.symm) h1 h8 hw hE;have hne:∀ e ∈ E,e.1.Key≠c.Key:=fun e he hs=>by
    obtain ⟨j,hj,hk⟩:=h.ks e he;exact hno j hj (hk.trans hs)
   unfold ky kw
   simp only [EH h1 h8]
   refine ah (by omega) (bX (ah (by omega) (ah (by omega) (ah (by omega) (ah (by omega) ?_)))));refine fV hat (fun r hr => ?_);refine ⟨hr.1.trans ⟨fun hh=>⟨fun e he hs=>absurd hs (hne e he),hh⟩,fun hh=>hh.2⟩,fun h0 => ?_⟩;obtain ⟨q1,q2,q3⟩:=hr.2 h0;refine ⟨q1,by rw [q2]; simp; omega,fun j hj => ?_⟩
   rw [q2] at hj ⊢
   have hj:j < b.keys.length + 1:=by simpa using hj
   rcases (by omega:j < b.keys.length∨j=b.keys.length) with hj' | hj'
   ·obtain ⟨e,he,hk⟩:=h.kex j hj';exact ⟨e,iO.2 (.inl he),by rw [hk]; exact (lg hj').symm⟩
   ·subst hj';exact ⟨(c,w),iO.2 (.inr rfl),(jY rfl).symm⟩
 ·refine az (fun hh=>by omega) (fun _ => ?_);obtain ⟨e0,a4,a3⟩:=h.kex k a1;have hty:=h.ty e0 a4 k a1 a3.symm
  by_cases ht:idx b.types (k:Int)=typ c.Kind
  ·have hat:=MO (w:=w) h.toBookInv0 a1 a2 ht h1 h8 hw hE;refine fV hat (fun r hr => ?_);refine ⟨hr.1.trans ⟨fun hh=>⟨fun e he hs => ?_,hh⟩,fun hh=>hh.2⟩,fun h0 => ?_⟩
   ·exact (h.ty e he k a1 (a2.trans hs.symm)).symm.trans ht
   ·obtain ⟨q1,q2,q3⟩:=hr.2 h0;refine ⟨q1,by rw [q2]; exact hl,fun j hj => ?_⟩
    rw [q2] at hj ⊢
    obtain ⟨e,he,hk⟩:=h.kex j hj;exact ⟨e,iO.2 (.inl he),hk⟩
  ·have hin:=h.ic k a1;have a7:=h.i8 k a1;have hwn:=h.wn k a1;refine fV (Iz (who:=w) a1 t1 t2 t3 t4 (by omega) (by omega) h1 h8) (fun r hr => ?_);have hno:¬ MN E c w:=fun hh=>ht (hty.trans (hh.1 e0 a4 (a3.trans a2)));rcases hr with ⟨a,rfl⟩ | ⟨a,_⟩ | ⟨a,_⟩ | ⟨a,_⟩ | ⟨a,_⟩ | ⟨a,_⟩ | ⟨a,_⟩
   ·exact ⟨⟨fun h=>by simp at h,fun hh=>absurd hh hno⟩,fun h=>by simp at h⟩
   all_goals exact absurd a ht
def AZ (h:History) (i:Nat):List (Call×Int):=(dR h (idx h.Txns (i:Int))).map (fun c=>(c,(i:Int)))
def uS (h:History) (k:Nat):List (Call×Int):=(List.range k).flatMap (AZ h)
theorem wu {h:History} {k:Nat}:uS h (k + 1)=uS h k++AZ h k:=by
 unfold uS; rw [List.range_succ,List.flatMap_append]; simp
def qN (E L:List (Call×Int)):Prop:=∀ j:Nat,j < L.length→MN (E++L.take j) (idx L (j:Int)).1 (idx L (j:Int)).2
theorem qN.append {E L M:List (Call×Int)}:qN E (L++M)↔qN E L∧qN (E++L) M:=by
 constructor
 ·intro h;refine ⟨fun j hj => ?_,fun j hj => ?_⟩
  ·have:=h j (by simp; omega)
   rwa [lg hj,List.take_append_of_le_length (by omega)] at this
  ·have:=h (L.length + j) (by simp; omega)
   rw [List.take_append,List.take_of_length_le (by omega),show L.length + j - L.length=j by omega,← List.append_assoc] at this
   rwa [show idx (L++M) ((L.length + j:Nat):Int)=idx M (j:Int) from by
    rw [dm rfl (by simp; omega),dm rfl hj,List.getElem_append_right (by omega)]; congr 1; omega] at this
 ·rintro ⟨h1,h2⟩ j hj;rcases Nat.lt_or_ge j L.length with h3 | h3
  ·rw [lg h3,List.take_append_of_le_length (by omega)]; exact h1 j h3
  ·obtain ⟨i,rfl⟩:∃ i,j=L.length + i:=⟨j - L.length,by omega⟩
   have hi:i < M.length:=by simp at hj; omega
   have:=h2 i hi
   rw [List.take_append,List.take_of_length_le (by omega),show L.length + i - L.length=i by omega,← List.append_assoc]
   rwa [show idx (L++M) ((L.length + i:Nat):Int)=idx M (i:Int) from by
    rw [dm rfl (by simp; omega),dm rfl hi,List.getElem_append_right (by omega)]; congr 1; omega]
theorem room {K l:List ByteArray} {s:ByteArray} (hK:K.length≤32) (hl:l.length=32) (nd:∀ i j:Nat,i < l.length→j < l.length→idx l (i:Int)=idx l (j:Int)→i=j)
  (hs:s ∈ K) (hsub:∀ x ∈ l,x ∈ K):∃ j:Nat,j < l.length∧idx l (j:Int)=s:=by
 have hnd:l.Nodup:=by
  rw [List.nodup_iff_pairwise_ne,List.pairwise_iff_getElem]
  intro i j hi hj hij he;have:=nd i j hi hj (by rw [dm rfl hi,dm rfl hj]; exact he)
  omega
 by_cases h:s ∈ l
 ·obtain ⟨j,hj,he⟩:=List.getElem_of_mem h;exact ⟨j,hj,(dm rfl hj).trans he⟩
 ·have h1:(s::l).Nodup:=List.nodup_cons.2 ⟨h,hnd⟩;have h2:=h1.length_le_of_subset (l₂:=K) (fun x hx=>by
   rcases List.mem_cons.1 hx with rfl | hx
   ·exact hs
   ·exact hsub x hx)
  simp at h2
  omega
def InK (K:List ByteArray) (E:List (Call×Int)):Prop:=∀ e ∈ E,e.1.Key ∈ K
theorem si.sub {K:List ByteArray} {E:List (Call×Int)} {b:aL} (h:si E b) (hE:InK K E):∀ x ∈ b.keys,x ∈ K:=by
 intro x hx;obtain ⟨j,hj,rfl⟩:=List.getElem_of_mem hx;obtain ⟨e,he,hk⟩:=h.kex j hj;have:=hE e he
 rw [hk,dm rfl hj] at this
 exact this
theorem Ls {K:List ByteArray} {E:List (Call×Int)} {b:aL} {i:Nat} {l:List Call} (h:si E b) (hK:K.length≤32) (hEK:InK K E) (hlK:∀ c ∈ l,c.Key ∈ K) (hl:l.length≤16) (hi:i < 64) (hn:E.length≤1024)
  (hc:wP l (fun c=>1≤c.Kind∧c.Kind≤8)) :
  Tri (iter (ib (i:Int) l) (Ca b 0)) (fun x=>(qN E (l.map (fun c=>(c,(i:Int))))→∃ b',x = .inr (.inl (Ca b' ((i + 1:Nat):Int)))∧si (E++l.map (fun c=>(c,(i:Int)))) b') ∧
   (¬ qN E (l.map (fun c=>(c,(i:Int))))→x = .inr (.inr 1))):=by
 generalize hm:l.map (fun c=>(c,(i:Int)))=m;have hml:m.length=l.length:=by rw [← hm]; simp
 have hmi:∀ k:Nat,k < l.length→idx m (k:Int)=(idx l (k:Int),(i:Int)):=fun k hk=>by rw [← hm,yM hk]
 refine dH (k0:=0) l.length (fun k s=>∃ b',s=Ca b' (k:Int)∧si (E++m.take k) b'∧∀ j:Nat,j < k→MN (E++m.take j) (idx m (j:Int)).1 (idx m (j:Int)).2) (Nat.zero_le _) ⟨b,rfl,by simpa using h,fun j hj=>absurd hj (Nat.not_lt_zero _)⟩ ?_
 rintro k s hk ⟨b',rfl,hb,hJ⟩;unfold ib Ca
 dsimp only
 refine az (fun a3 => ?_) (fun a3 => ?_)
 ·have a1:k < l.length:=by omega
  have hin:InK K (E++m.take k):=fun e he=>by
   rcases List.mem_append.1 he with he | he
   ·exact hEK e he
   ·have:=List.mem_of_mem_take he
    rw [← hm] at this
    obtain ⟨c,hc,rfl⟩:=List.mem_map.1 this;exact hlK c hc
  have hcK:(idx l (k:Int)).Key ∈ K:=hlK _ (by rw [dm rfl a1]; exact List.getElem_mem a1);have hw:w64 ((k:Int) + 1)=((k + 1:Nat):Int):=aZ (by omega);obtain ⟨r,hr,q1,q2⟩:=NW (c:=idx l (k:Int)) (w:=(i:Int)) hb (fun a2=>room hK a2 hb.nd hcK (hb.sub hin)) (hc k a1).1 (hc k a1).2 (by omega) (by simp; omega);refine ah (by omega) (bK hr ?_);refine az (fun h0 => ?_) (fun h0 => ?_)
  ·refine ax (ax (ax (ag ⟨fun hall => ?_,fun _=>rfl⟩)));have:=hall k (by omega)
   rw [hmi k a1] at this
   exact absurd (q1.2 this) h0
  ·refine ag ⟨a1,r.2,?_,?_,?_⟩
   ·rw [hw]
   ·rw [nu (by omega),hmi k a1,← List.append_assoc]
    exact q2 (by omega)
   ·intro j hj;rcases Nat.lt_or_ge j k with h1 | h1
    ·exact hJ j h1
    ·rw [show j=k by omega,hmi k a1]; exact q1.1 (by omega)
 ·have hw:w64 ((i:Int) + 1)=((i + 1:Nat):Int):=aZ (by omega)
  rw [hw]
  have hfull:m.take k=m:=List.take_of_length_le (by omega)
  rw [hfull] at hb
  refine ax (ax (ag ⟨fun _=>⟨b',rfl,hb⟩,fun hno=>absurd (fun j hj=>hJ j (by omega)) hno⟩))
structure eY (h:History):Prop where
 names:rY h.Keys
 len:h.Txns.length≤32
 txn:∀ i:Nat,i < h.Txns.length→Cb h i
 ents:qN [] (uS h h.Txns.length)
theorem keys_in {h:History} {i:Nat} (hi:yE h (idx h.Txns (i:Int))):∀ c ∈ dR h (idx h.Txns (i:Int)),c.Key ∈ h.Keys:=by
 intro c hc;obtain ⟨o,ho,rfl⟩:=List.mem_map.1 hc;have:=(zX.1 hi) o ho
 show idx h.Keys o.Key ∈ h.Keys
 rw [dm (n:=o.Key.toNat) (by omega) (by omega)]
 exact List.getElem_mem _
theorem NY {h:History} {i:Nat} (hi:Cb h i):(AZ h i).length≤16:=by
 have:=hi.2.2.2.2.1
 simpa [AZ,AU,dR] using this
theorem Ez {h:History} (hs:qM h):Tri (aF h) (fun v=>(v=0↔eY h)∧(v=0∨v=1)):=by
 obtain ⟨a6,a5,a4⟩:=hs;obtain ⟨y,hy,hn⟩:=Fg (l:=h.Keys) (by omega);unfold aF jd
 simp only [cond_true,cond_false]
 repeat' (first | contradiction | with_reducible refine az (fun hq => ?_) (fun hq => ?_) | with_reducible refine ah (by first | omega | grind [bA]) ?_ | with_reducible refine ax ?_ | with_reducible refine bX ?_ | with_reducible refine dJ ?_ | with_reducible refine dK ?_ | with_reducible refine dL ?_ | with_reducible refine ag ?_ | refine bK hy ?_)
 ·exact ⟨⟨fun h=>absurd h (by decide),fun hS=>absurd (hn.2 hS.names) ‹¬y=true›⟩,.inr rfl⟩
 ·exact ⟨⟨fun h=>absurd h (by decide),fun hS=>absurd hS.len (by omega)⟩,.inr rfl⟩
 ·have hN:rY h.Keys:=hn.1 (Decidable.of_not_not ‹¬¬y=true›);have a3:h.Txns.length≤32:=by omega
  refine dH (k0:=0) h.Txns.length (fun k s=>∃ b,s=Ca b (k:Int)∧si (uS h k) b∧InK h.Keys (uS h k)∧(uS h k).length≤16 * k∧qN [] (uS h k)∧∀ j:Nat,j < k→Cb h j) (Nat.zero_le _)
   ⟨⟨[],[],[],[],[]⟩,rfl,si.start,fun e he=>by simp [uS] at he,by simp [uS],fun j hj=>by simp [uS] at hj,fun j hj=>absurd hj (Nat.not_lt_zero _)⟩ ?_
  rintro k s hk ⟨b,rfl,hb,hin,hlen,hents,hJ⟩;unfold kX kW Ca
  simp only [cond_true,cond_false]
  have hbad:(k < h.Txns.length → ¬ Cb h k)→k < h.Txns.length → ¬ eY h:=fun h1 h2 hS=>h1 h2 (hS.txn k h2);refine az (fun a2 => ?_) (fun a2 => ?_)
  ·have a1:k < h.Txns.length:=by omega
   obtain ⟨p',hp',hp1'⟩:=za (l:=h.Txns) a1 (by omega);have hco:Bq (AU h (idx h.Txns (k:Int)))→(idx h.Txns (k:Int)).Ops.length≤16:=fun he=>by
    have:=he.2.2.1
    simpa [AU,dR] using this
   repeat' (first | contradiction | with_reducible refine az (fun hq => ?_) (fun hq => ?_) | with_reducible refine ah (by first | omega | grind [bA]) ?_ | with_reducible refine ax ?_ | with_reducible refine bX ?_ | with_reducible refine dJ ?_ | with_reducible refine dK ?_ | with_reducible refine dL ?_ | with_reducible refine ag ?_ | refine bK hp' ?_)
   ·exact ⟨⟨fun h=>absurd h (by decide),fun hS=>absurd (hp1'.2 (hS.txn k a1).1) ‹¬p'=true›⟩,.inr rfl⟩
   ·exact ⟨⟨fun h=>absurd h (by decide),fun hS=>absurd (hco (hS.txn k a1).2.2) (by omega)⟩,.inr rfl⟩
   ·refine IA (b:=b) a1 (a4 k a1) (by omega) (fun hno => ?_) (fun hKo hEv => ?_)
    ·exact ⟨⟨fun h=>absurd h (by decide),fun hS=>absurd ⟨(hS.txn k a1).2.1,(hS.txn k a1).2.2⟩ hno⟩,.inr rfl⟩
    ·have hok:Cb h k:=⟨hp1'.1 (Decidable.of_not_not ‹¬¬p'=true›),hKo,hEv⟩;have hc:wP (dR h (idx h.Txns (k:Int))) (fun c=>1≤c.Kind∧c.Kind≤8):=fun j hj=>⟨(hEv.2.2.2 j hj).1,(hEv.2.2.2 j hj).2.1⟩;refine fV (Ls (i:=k) hb hN.1 hin (keys_in hKo) hEv.2.2.1 (by omega) (by omega) hc) (fun x hx => ?_)
     by_cases hall:qN (uS h k) (AZ h k)
     ·obtain ⟨b',rfl,hb'⟩:=hx.1 hall;refine ⟨a1,b',rfl,by rw [wu]; exact hb',?_,?_,?_,?_⟩
      ·rw [wu]
       intro e he;rcases List.mem_append.1 he with he | he
       ·exact hin e he
       ·obtain ⟨c,hc,rfl⟩:=List.mem_map.1 he;exact keys_in hKo c hc
      ·have:=NY hok
       rw [wu,List.length_append]; omega
      ·rw [wu]
       exact qN.append.2 ⟨hents,hall⟩
      ·intro j hj;rcases Nat.lt_or_ge j k with h1 | h1
       ·exact hJ j h1
       ·rw [show j=k by omega]; exact hok
     ·rw [hx.2 hall]
      refine ⟨⟨fun h=>absurd h (by decide),fun hS=>absurd ?_ hall⟩,.inr rfl⟩;have hsp:∀ n:Nat,k + 1≤n→qN [] (uS h n)→qN (uS h k) (AZ h k):=by
       intro n
       induction n with
       | zero=>intro h; omega
       | succ n ih =>
        intro hn hE
        rw [wu,qN.append] at hE
        rcases Nat.lt_or_ge k n with h1 | h1
        ·exact ih (by omega) hE.1
        ·rw [show n=k by omega] at hE
         exact hE.2
      exact hsp _ a1 hS.ents
  ·have a1:k=h.Txns.length:=by omega
   repeat' (first | contradiction | with_reducible refine az (fun hq => ?_) (fun hq => ?_) | with_reducible refine ah (by first | omega | grind [bA]) ?_ | with_reducible refine ax ?_ | with_reducible refine bX ?_ | with_reducible refine dJ ?_ | with_reducible refine dK ?_ | with_reducible refine dL ?_ | with_reducible refine ag ?_)
   rw [a1] at hents hJ
   exact ⟨⟨fun _=>⟨hN,a3,hJ,hents⟩,fun _=>rfl⟩,.inl rfl⟩
theorem Lt {h:History} (hs:qM h):∃ v,aC h=some v∧aF h=some v∧(v=0∨v=1)∧(v=0↔eY h):=by
 obtain ⟨v,hv,v',hv',rfl,a1⟩:=Dj hs;obtain ⟨w,hw,h1,h2⟩:=Ez hs;have:v=w:=Option.some.inj (hv'.symm.trans hw);subst this;exact ⟨v,hv,hv',a1,h1⟩
end Go.Proofs.YtfpeabnehpclnaaGreatT
namespace Go.Proofs.YtfpeabnehpclnaaGreatT
open Go Go.Proofs Go.Proofs.YtfpeabnehpclnaaGreatE
set_option linter.unusedVariables false
set_option linter.unusedSimpArgs false
def xG (ops:List Op) (key:Int) (p:Nat):List Int:=((ops.take p).filter (fun o=>decide (o.Key=key∧o.Kind≤4))).map (·.Arg)
theorem Dl {ops:List Op} {key:Int} {p:Nat} (h:p < ops.length):xG ops key (p + 1)=if (idx ops (p:Int)).Key=key∧(idx ops (p:Int)).Kind≤4 then xG ops key p++[(idx ops (p:Int)).Arg] else xG ops key p:=by
 unfold xG
 rw [nu h,List.filter_append,List.map_append]
 by_cases e:(idx ops (p:Int)).Key=key∧(idx ops (p:Int)).Kind≤4
 ·simp [e]
 ·rw [if_neg e]
  simp only [List.filter_cons,List.filter_nil,decide_eq_true_eq,if_neg e]
  simp
theorem Cc {ops:List Op} {key:Int} {p:Nat}:(xG ops key p).length≤ops.length:=by
 unfold xG
 rw [List.length_map]
 exact Nat.le_trans (List.length_filter_le _ _) (by simp; omega)
def DX (ops:List Op) (t:Int) (p:Nat):List Ask :=
 let o:=idx ops (p:Int)
 let mine:=xG ops o.Key p
 if o.Kind≤4 then [] else if mine=[] then [⟨t,p,o.Key,o.Vals⟩] else if (before (o.Kind - 4) o.Vals mine).2=true∧o.Kind≠5 then [⟨t,p,o.Key,(before (o.Kind - 4) o.Vals mine).1⟩] else []
def Fh (ops:List Op) (t:Int) (p:Nat):List Spot :=
 let o:=idx ops (p:Int)
 let mine:=xG ops o.Key p
 if o.Kind≤4 then [] else if mine=[] then [] else if (before (o.Kind - 4) o.Vals mine).2=true then [] else [⟨t,p⟩]
def ww (ops:List Op) (t:Int) (k:Nat):List Ask:=(List.range k).flatMap (DX ops t)
def wW (ops:List Op) (t:Int) (k:Nat):List Spot:=(List.range k).flatMap (Fh ops t)
theorem DY {ops:List Op} {t:Int} {k:Nat}:ww ops t (k + 1)=ww ops t k++DX ops t k:=by
 unfold ww; rw [List.range_succ,List.flatMap_append]; simp
theorem Ce {ops:List Op} {t:Int} {k:Nat}:wW ops t (k + 1)=wW ops t k++Fh ops t k:=by
 unfold wW; rw [List.range_succ,List.flatMap_append]; simp
theorem Fj {ops:List Op} {t:Int} {k:Nat}:(ww ops t k).length≤k:=by
 induction k with
 | zero=>simp [ww]
 | succ k ih =>
  rw [DY,List.length_append]
  have:(DX ops t k).length≤1:=by
   unfold DX
   dsimp only
   split
   ·simp
   ·split
    ·simp
    ·split <;> simp
  omega
theorem DZ {ops:List Op} {t:Int} {k:Nat}:(wW ops t k).length≤k:=by
 induction k with
 | zero=>simp [wW]
 | succ k ih =>
  rw [Ce,List.length_append]
  have:(Fh ops t k).length≤1:=by
   unfold Fh
   dsimp only
   split
   ·simp
   ·split
    ·simp
    ·split <;> simp
  omega
def xH (h:History) (t:Int):List Ask:=if (idx h.Txns t).Status=1 then ww (idx h.Txns t).Ops t (idx h.Txns t).Ops.length else []
def Al (h:History) (t:Int):List Spot:=if (idx h.Txns t).Status=1 then wW (idx h.Txns t).Ops t (idx h.Txns t).Ops.length else []
def PM (ops:List Op):Prop:=ops.length≤16∧wP ops (fun o=>1≤o.Kind∧o.Kind≤8∧o.Vals.length≤64)
theorem Cb.ops {h:History} {i:Nat} (hi:Cb h i):PM (idx h.Txns (i:Int)).Ops:=by
 obtain ⟨_,_,_,_,h1,h2⟩:=hi;refine ⟨by simpa [AU,dR] using h1,fun j hj => ?_⟩
 have:=h2 j (by simpa [AU,dR] using hj)
 dsimp only [AU,dR] at this
 rw [yM hj] at this
 unfold uL xE at this
 dsimp only at this
 grind
theorem NZ {h:History} {t:Nat} {f:fq} (ht:t < h.Txns.length) (ho:PM (idx h.Txns (t:Int)).Ops) (ha:f.asks.length≤1000000) (hb:f.bad.length≤1000000) :
  Tri (bq f h (t:Int)) (fun r=>r=⟨f.asks++xH h (t:Int),f.bad++Al h (t:Int)⟩):=by
 unfold bq xH Al;refine ah (by omega) ?_;refine az (fun h1 => ?_) (fun h1 => ?_)
 ·rw [if_neg h1,if_neg h1]
  exact ag (by simp)
 ·have h1:(idx h.Txns (t:Int)).Status=1:=Decidable.of_not_not h1
  rw [if_pos h1,if_pos h1]
  generalize hx:(idx h.Txns (t:Int)).Ops=ops at ho ⊢;obtain ⟨a4,hall⟩:=ho;refine dH (k0:=0) ops.length (fun k s=>s.1=f.asks++ww ops (t:Int) k∧s.2.1=f.bad++wW ops (t:Int) k∧(∀ key,mat s.2.2.1 key=xG ops key k)∧s.2.2.2=(k:Int)) (Nat.zero_le _)
   ⟨by simp [ww],by simp [wW],fun key=>rfl,rfl⟩ ?_
  rintro k ⟨l1,l2,m,x⟩ hk ⟨e1,e2,hm,e4⟩
  dsimp only at e1 e2 hm e4
  subst e1 e2 e4;unfold pO lK lJ iE
  simp only [cond_true,cond_false,hx,hm]
  have hw:w64 ((k:Int) + 1)=((k + 1:Nat):Int):=aZ (by omega);have l1:=Fj (ops:=ops) (t:=(t:Int)) (k:=k);have l2:=DZ (ops:=ops) (t:=(t:Int)) (k:=k);have l3:=Cc (ops:=ops) (key:=(idx ops (k:Int)).Key) (p:=k);have hn:∀ key,k < ops.length→xG ops key (k + 1)=_:=fun key hk=>Dl hk
  rw [hw]
  refine az (fun a3 => ?_) (fun a3 => ?_)
  ·have a1:k < ops.length:=by omega
   obtain ⟨o1,o2,o3⟩:=hall k a1;have a2:w64 ((idx ops (k:Int)).Kind - 4)=(idx ops (k:Int)).Kind - 4:=bA (by omega) (by omega);have hbf:=BX ((idx ops (k:Int)).Kind - 4) (s:=(idx ops (k:Int)).Vals) (args:=xG ops (idx ops (k:Int)).Key k) (by omega) (by omega);have hcl:gq (idx ops (k:Int)).Vals=some (idx ops (k:Int)).Vals:=iQ _ (by omega)
   rw [a2,hbf,hcl]
   simp only [List.length_append]
   have hA:=DY (ops:=ops) (t:=(t:Int)) (k:=k);have hB:=Ce (ops:=ops) (t:=(t:Int)) (k:=k);have hnil:∀ l:List Int,l=[]↔l.length=0:=fun l=>List.length_eq_zero_iff.symm;unfold DX at hA;unfold Fh at hB
   dsimp only at hA hB
   repeat' (first | contradiction | with_reducible refine az (fun hq => ?_) (fun hq => ?_) | with_reducible refine ah (by first | omega | grind [bA]) ?_ | with_reducible refine ax ?_ | with_reducible refine bX ?_ | with_reducible refine dJ ?_ | with_reducible refine dK ?_ | with_reducible refine dL ?_ | with_reducible refine ag ?_)
   all_goals (refine ⟨a1,?_,?_,fun key => ?_,rfl⟩ <;> dsimp only)
   all_goals grind [qA]
  ·have:k=ops.length:=by omega
   subst this
   repeat' (first | contradiction | with_reducible refine az (fun hq => ?_) (fun hq => ?_) | with_reducible refine ah (by first | omega | grind [bA]) ?_ | with_reducible refine ax ?_ | with_reducible refine bX ?_ | with_reducible refine dJ ?_ | with_reducible refine dK ?_ | with_reducible refine dL ?_ | with_reducible refine ag ?_)
   rfl
end Go.Proofs.YtfpeabnehpclnaaGreatT
namespace Go.Proofs.YtfpeabnehpclnaaGreatT
open Go Go.Proofs Go.Proofs.YtfpeabnehpclnaaGreatE
set_option linter.unusedVariables false
set_option linter.unusedSimpArgs false
theorem GD {a b:List Int} (ha:a.length < 2 ^ 62):eu a b=some (decide (a=b)):=by
 refine Au.1 ?_;unfold eu;refine az (fun h => ?_) (fun h => ?_)
 ·refine ag ?_;have:a≠b:=by rintro rfl; exact h rfl
  simp [this]
 ·have hl:a.length=b.length:=by grind
  refine pF a.length (fun j=>idx a (j:Int)=idx b (j:Int)) ?_;intro k hk hJ;have hw:w64 ((k:Int) + 1)=((k + 1:Nat):Int):=aZ (by omega);have hx:(∀ j:Nat,j < a.length→idx a (j:Int)=idx b (j:Int))→a=b:=fun h=>KD hl h;unfold mf
  dsimp only
  rw [hw]
  repeat' (first | contradiction | with_reducible refine az (fun hq => ?_) (fun hq => ?_) | with_reducible refine ah (by first | omega | grind [bA]) ?_ | with_reducible refine ax ?_ | with_reducible refine bX ?_ | with_reducible refine dJ ?_ | with_reducible refine dK ?_ | with_reducible refine dL ?_ | with_reducible refine ag ?_)
  ·show false=true↔a=b
   grind
  ·exact ⟨rfl,by omega,by grind⟩
  ·show true=true↔a=b
   grind
end Go.Proofs.YtfpeabnehpclnaaGreatT
namespace Go.Proofs.YtfpeabnehpclnaaGreatT
open Go Go.Proofs Go.Proofs.YtfpeabnehpclnaaGreatE
set_option linter.unusedVariables false
set_option linter.unusedSimpArgs false
abbrev OG (y:Op):Prop:=((Lit.int .i64 (y).Kind).wf=true)∧((Lit.int .i64 (y).Key).wf=true)∧((Lit.int .i64 (y).Arg).wf=true)∧(True)∧((∀ z ∈ (y).Vals,(Lit.int .i64 z).wf=true)∧((y).Vals).length * 8≤140737488351232)
abbrev TG (y:Txn):Prop:=((Lit.int .i64 (y).Proc).wf=true)∧((Lit.int .i64 (y).Status).wf=true)∧((Lit.int .i64 (y).From).wf=true)∧((Lit.int .i64 (y).To).wf=true)∧((∀ z ∈ (y).Ops,OG z)∧((y).Ops).length * 56≤140737488351232)
abbrev HG (K:ByteArray→Prop) (x:History):Prop:=((∀ y ∈ (x).Keys,K y)∧((x).Keys).length * 16≤140737488351232)∧((∀ y ∈ (x).Txns,TG y)∧((x).Txns).length * 56≤140737488351232)
theorem HG.small {K:ByteArray→Prop} {h:History} (g:HG K h):qM h :=
 ⟨g.1.2,g.2.2,zX.2 fun t ht=>⟨(g.2.1 t ht).2.2.2.2.2,zX.2 fun o ho=>((g.2.1 t ht).2.2.2.2.1 o ho).2.2.2.2.2⟩⟩
theorem IB {h:History} {t:Nat} (ho:PM (idx h.Txns (t:Int)).Ops):(xH h (t:Int)).length≤16∧(Al h (t:Int)).length≤16∧wP (xH h (t:Int)) (fun x=>x.Base.length < 2 ^ 62):=by
 have h1:=Fj (ops:=(idx h.Txns (t:Int)).Ops) (t:=(t:Int)) (k:=(idx h.Txns (t:Int)).Ops.length);have h2:=DZ (ops:=(idx h.Txns (t:Int)).Ops) (t:=(t:Int)) (k:=(idx h.Txns (t:Int)).Ops.length);have h3:=ho.1;refine ⟨?_,?_,?_⟩
 ·unfold xH; split
  ·omega
  ·simp
 ·unfold Al; split
  ·omega
  ·simp
 ·rw [zX]
  intro x hx;unfold xH at hx
  split at hx
  ·unfold ww at hx
   rw [List.mem_flatMap] at hx
   obtain ⟨p,hp,hx⟩:=hx;have hp:p < _:=List.mem_range.1 hp;have hv:=(ho.2 p hp).2.2;have hb:=Iy ((idx (idx h.Txns (t:Int)).Ops (p:Int)).Kind - 4) (idx (idx h.Txns (t:Int)).Ops (p:Int)).Vals (xG (idx h.Txns (t:Int)).Ops (idx (idx h.Txns (t:Int)).Ops (p:Int)).Key p);unfold DX at hx
   dsimp only at hx
   split at hx
   ·simp at hx
   ·split at hx
    ·simp at hx; subst hx; dsimp only; omega
    ·split at hx
     ·simp at hx; subst hx; dsimp only; omega
     ·simp at hx
  ·simp at hx
end Go.Proofs.YtfpeabnehpclnaaGreatT
namespace Go.Proofs.YtfpeabnehpclnaaGreatT
open Go Go.Proofs Go.Proofs.YtfpeabnehpclnaaGreatE
set_option linter.unusedVariables false
set_option linter.unusedSimpArgs false
def bu (h:History) (k:Nat):List Ask:=(List.range k).flatMap (fun t=>xH h ((t:Nat):Int))
def qg (h:History) (k:Nat):List Spot:=(List.range k).flatMap (fun t=>Al h ((t:Nat):Int))
theorem Cf {h:History} {k:Nat}:bu h (k + 1)=bu h k++xH h (k:Int):=by
 unfold bu; rw [List.range_succ,List.flatMap_append]; simp
theorem Ba {h:History} {k:Nat}:qg h (k + 1)=qg h k++Al h (k:Int):=by
 unfold qg; rw [List.range_succ,List.flatMap_append]; simp
theorem vH {h:History} (hS:eY h):∀ k:Nat,k≤h.Txns.length→(bu h k).length≤16 * k∧(qg h k).length≤16 * k∧wP (bu h k) (fun x=>x.Base.length < 2 ^ 62):=by
 intro k
 induction k with
 | zero=>intro _; simp [bu,qg,wP]
 | succ k ih =>
  intro hk;obtain ⟨i1,i2,i3⟩:=ih (by omega);obtain ⟨b1,b2,b3⟩:=IB (hS.txn k (by omega)).ops
  rw [Cf,Ba,List.length_append,List.length_append]
  refine ⟨by omega,by omega,?_⟩
  rw [zX] at i3 b3 ⊢
  intro x hx;rcases List.mem_append.1 hx with hx | hx
  ·exact i3 x hx
  ·exact b3 x hx
theorem Cg {h:History} (hs:qM h) (hS:eY h) (hc:aC h=some 0):lV h=some (⟨bu h h.Txns.length,qg h h.Txns.length⟩,0):=by
 have a3:=hS.len;refine eQ.1 ?_;unfold lV;refine bK hc ?_
 rw [bne_self_eq_false,cond_false]
 refine dH (k0:=0) h.Txns.length (fun k s=>s=(bu h k,qg h k,(k:Int))) (Nat.zero_le _) rfl ?_;rintro k s hk rfl;have hw:w64 ((k:Int) + 1)=((k + 1:Nat):Int):=aZ (by omega);obtain ⟨i1,i2,i3⟩:=vH hS k hk;unfold ym
 dsimp only
 refine az (fun a2 => ?_) (fun a2 => ?_)
 ·have a1:k < h.Txns.length:=by omega
  refine dN (NZ a1 (hS.txn k a1).ops (by dsimp only; omega) (by dsimp only; omega)) (fun r hr => ?_);subst hr;refine ag ⟨a1,?_⟩
  dsimp only
  rw [hw,Cf,Ba]
 ·have:k=h.Txns.length:=by omega
  subst this;exact ax (ag rfl)
end Go.Proofs.YtfpeabnehpclnaaGreatT
namespace Go.Proofs.YtfpeabnehpclnaaGreatT
open Go Go.Proofs Go.Proofs.YtfpeabnehpclnaaGreatE
set_option linter.unusedVariables false
set_option linter.unusedSimpArgs false
def gJ (h:History) (t:Int) (key:Int):List Int:=xG (idx h.Txns t).Ops key (idx h.Txns t).Ops.length
theorem Ea {h:History} {t key:Int}:(gJ h t key).length≤(idx h.Txns t).Ops.length:=Cc
theorem Fp {x:Txn} {key:Int} (ho:x.Ops.length≤16):eH x key=some (xG x.Ops key x.Ops.length):=by
 refine eQ.1 ?_;unfold eH;refine dH (k0:=0) x.Ops.length (fun k s=>s=(xG x.Ops key k,(k:Int))) (Nat.zero_le _) rfl ?_;rintro k s hk rfl;have hw:w64 ((k:Int) + 1)=((k + 1:Nat):Int):=aZ (by omega);have l3:=Cc (ops:=x.Ops) (key:=key) (p:=k);have hn:k < x.Ops.length→xG x.Ops key (k + 1)=_:=fun hk=>Dl hk;unfold vM rC rA
 dsimp only
 rw [hw]
 refine az (fun a2 => ?_) (fun a2 => ?_)
 ·have a1:k < x.Ops.length:=by omega
  replace hn:=hn a1
  repeat' (first | contradiction | with_reducible refine az (fun hq => ?_) (fun hq => ?_) | with_reducible refine ah (by first | omega | grind [bA]) ?_ | with_reducible refine ax ?_ | with_reducible refine bX ?_ | with_reducible refine dJ ?_ | with_reducible refine dK ?_ | with_reducible refine dL ?_ | with_reducible refine ag ?_)
  all_goals (refine ⟨a1,?_⟩; dsimp only; grind)
 ·have:k=x.Ops.length:=by omega
  subst this
  repeat' (first | contradiction | with_reducible refine az (fun hq => ?_) (fun hq => ?_) | with_reducible refine ah (by first | omega | grind [bA]) ?_ | with_reducible refine ax ?_ | with_reducible refine bX ?_ | with_reducible refine dJ ?_ | with_reducible refine dK ?_ | with_reducible refine dL ?_ | with_reducible refine ag ?_)
  all_goals rfl
theorem yF {h:History} {t key:Int} (ht:0≤t∧t < (h.Txns.length:Int)) (ho:(idx h.Txns t).Ops.length≤16):aS h t key=some (gJ h t key):=by
 refine eQ.1 ?_;unfold aS gJ;generalize hx:(idx h.Txns t).Ops=ops at ho ⊢;refine dH (k0:=0) ops.length (fun k s=>s=(xG ops key k,(k:Int))) (Nat.zero_le _) rfl ?_;rintro k s hk rfl;have hw:w64 ((k:Int) + 1)=((k + 1:Nat):Int):=aZ (by omega);have l3:=Cc (ops:=ops) (key:=key) (p:=k);have hn:k < ops.length→xG ops key (k + 1)=_:=fun hk=>Dl hk;unfold uy oJ oI vU
 simp only [hx,hw,Option.bind_some]
 refine ah ht ?_;refine az (fun a2 => ?_) (fun a2 => ?_)
 ·have a1:k < ops.length:=by omega
  replace hn:=hn a1
  repeat' (first | contradiction | with_reducible refine az (fun hq => ?_) (fun hq => ?_) | with_reducible refine ah (by first | omega | grind [bA]) ?_ | with_reducible refine ax ?_ | with_reducible refine bX ?_ | with_reducible refine dJ ?_ | with_reducible refine dK ?_ | with_reducible refine dL ?_ | with_reducible refine ag ?_)
  all_goals (refine ⟨a1,?_⟩; dsimp only; grind)
 ·have:k=ops.length:=by omega
  subst this
  repeat' (first | contradiction | with_reducible refine az (fun hq => ?_) (fun hq => ?_) | with_reducible refine ah (by first | omega | grind [bA]) ?_ | with_reducible refine ax ?_ | with_reducible refine bX ?_ | with_reducible refine dJ ?_ | with_reducible refine dK ?_ | with_reducible refine dL ?_ | with_reducible refine ag ?_)
  all_goals rfl
def JL (h:History) (key:Int) (t:Nat):Bool:=decide ((idx h.Txns (t:Int)).Status≠2∧0 < (gJ h (t:Int) key).length)
def iq (h:History) (key:Int) (k:Nat):List Int:=((List.range k).filter (JL h key)).map (fun t:Nat=>(t:Int))
def jM (h:History) (a:Ask) (k:Nat):List Int:=(iq h a.Key k).filter (fun t=>decide (t≠a.Txn))
theorem zK {h:History} {key:Int} {k:Nat}:iq h key (k + 1)=if JL h key k then iq h key k++[(k:Int)] else iq h key k:=by
 unfold iq
 rw [List.range_succ,List.filter_append,List.map_append]
 by_cases hw:JL h key k=true <;> simp [hw]
theorem qh {h:History} {key:Int} {k:Nat}:(iq h key k).length≤k:=by
 unfold iq
 rw [List.length_map]
 exact Nat.le_trans (List.length_filter_le _ _) (by simp)
theorem GG {h:History} {a:Ask} {k:Nat}:jM h a (k + 1)=if JL h a.Key k∧(k:Int)≠a.Txn then jM h a k++[(k:Int)] else jM h a k:=by
 unfold jM
 rw [zK]
 by_cases hw:JL h a.Key k=true <;> by_cases hn:(k:Int)=a.Txn <;> simp [hw,hn]
theorem vg {h:History} {a:Ask} {k:Nat}:(jM h a k).length≤k:=Nat.le_trans (List.length_filter_le _ _) qh
theorem wX {h:History} {key:Int} {k:Nat} {t:Int}:t ∈ iq h key k↔0≤t∧t < (k:Int)∧(idx h.Txns t).Status≠2∧0 < (gJ h t key).length:=by
 unfold iq
 simp only [List.mem_map,List.mem_filter,List.mem_range,JL,decide_eq_true_eq]
 constructor
 ·rintro ⟨n,⟨hn,h1,h2⟩,rfl⟩;exact ⟨by omega,by omega,h1,h2⟩
 ·rintro ⟨h0,h1,h2,h3⟩;refine ⟨t.toNat,⟨by omega,?_⟩,by omega⟩
  rw [show ((t.toNat:Nat):Int)=t by omega]
  exact ⟨h2,h3⟩
theorem lC {h:History} {a:Ask} {k:Nat} {t:Int}:t ∈ jM h a k↔(0≤t∧t < (k:Int)∧(idx h.Txns t).Status≠2∧0 < (gJ h t a.Key).length)∧t≠a.Txn:=by
 unfold jM
 rw [List.mem_filter,wX,decide_eq_true_eq]
theorem Ch {h:History} (hS:eY h) (hc:aC h=some 0) {key:Int}:dQ h key=some (iq h key h.Txns.length):=by
 have a3:=hS.len;refine eQ.1 ?_;unfold dQ;refine bK hc ?_
 rw [bne_self_eq_false,cond_false]
 refine dH (k0:=0) h.Txns.length (fun k s=>s=(iq h key k,(k:Int))) (Nat.zero_le _) rfl ?_;rintro k s hk rfl;have hw:w64 ((k:Int) + 1)=((k + 1:Nat):Int):=aZ (by omega);have l3:=qh (h:=h) (key:=key) (k:=k);have hn:=zK (h:=h) (key:=key) (k:=k);unfold JL gJ at hn;unfold sW oV oU
 dsimp only
 rw [hw]
 refine az (fun a2 => ?_) (fun a2 => ?_)
 ·have a1:k < h.Txns.length:=by omega
  have hwt:=Fp (x:=idx h.Txns (k:Int)) (key:=key) (hS.txn k a1).ops.1
  simp only [hwt,Option.bind_some]
  repeat' (first | contradiction | with_reducible refine az (fun hq => ?_) (fun hq => ?_) | with_reducible refine ah (by first | omega | grind [bA]) ?_ | with_reducible refine ax ?_ | with_reducible refine bX ?_ | with_reducible refine dJ ?_ | with_reducible refine dK ?_ | with_reducible refine dL ?_ | with_reducible refine ag ?_)
  all_goals (refine ⟨a1,?_⟩; dsimp only; grind)
 ·have:k=h.Txns.length:=by omega
  subst this
  repeat' (first | contradiction | with_reducible refine az (fun hq => ?_) (fun hq => ?_) | with_reducible refine ah (by first | omega | grind [bA]) ?_ | with_reducible refine ax ?_ | with_reducible refine bX ?_ | with_reducible refine dJ ?_ | with_reducible refine dK ?_ | with_reducible refine dL ?_ | with_reducible refine ag ?_)
  all_goals rfl
theorem zL {h:History} (hS:eY h) {a:Ask}:aW h a=some (jM h a h.Txns.length):=by
 have a3:=hS.len;refine eQ.1 ?_;unfold aW;refine dH (k0:=0) h.Txns.length (fun k s=>s=(jM h a k,(k:Int))) (Nat.zero_le _) rfl ?_;rintro k s hk rfl;have hw:w64 ((k:Int) + 1)=((k + 1:Nat):Int):=aZ (by omega);have l3:=vg (h:=h) (a:=a) (k:=k);have hn:=GG (h:=h) (a:=a) (k:=k);unfold JL at hn;unfold sK jW nD
 dsimp only
 rw [hw]
 refine az (fun a2 => ?_) (fun a2 => ?_)
 ·have a1:k < h.Txns.length:=by omega
  have hwt:=yF (h:=h) (t:=(k:Int)) (key:=a.Key) ⟨by omega,by omega⟩ (hS.txn k a1).ops.1
  simp only [hwt,Option.bind_some]
  repeat' (first | contradiction | with_reducible refine az (fun hq => ?_) (fun hq => ?_) | with_reducible refine ah (by first | omega | grind [bA]) ?_ | with_reducible refine ax ?_ | with_reducible refine bX ?_ | with_reducible refine dJ ?_ | with_reducible refine dK ?_ | with_reducible refine dL ?_ | with_reducible refine ag ?_)
  all_goals (refine ⟨a1,?_⟩; dsimp only; grind)
 ·have:k=h.Txns.length:=by omega
  subst this
  repeat' (first | contradiction | with_reducible refine az (fun hq => ?_) (fun hq => ?_) | with_reducible refine ah (by first | omega | grind [bA]) ?_ | with_reducible refine ax ?_ | with_reducible refine bX ?_ | with_reducible refine dJ ?_ | with_reducible refine dK ?_ | with_reducible refine dL ?_ | with_reducible refine ag ?_)
  all_goals rfl
theorem Lu {h:History} (hS:eY h) (hc:aC h=some 0) {t key:Int}:ja h t key =
  some (if 0≤t∧t < (h.Txns.length:Int) then (gJ h t key,decide (0 < (gJ h t key).length)) else ([],false)):=by
 refine eQ.1 ?_;unfold ja oo
 simp only [hc,Option.bind_some]
 by_cases ht:0≤t∧t < (h.Txns.length:Int)
 ·have h2:t=((t.toNat:Nat):Int):=by omega
  have ho:=(hS.txn t.toNat (by omega)).ops.1
  rw [← h2] at ho
  have hwt:=Fp (x:=idx h.Txns t) (key:=key) ho
  simp only [hwt,Option.bind_some]
  rw [if_pos ht]
  unfold gJ
  repeat' (first | contradiction | with_reducible refine az (fun hq => ?_) (fun hq => ?_) | with_reducible refine ah (by first | omega | grind [bA]) ?_ | with_reducible refine ax ?_ | with_reducible refine bX ?_ | with_reducible refine dJ ?_ | with_reducible refine dK ?_ | with_reducible refine dL ?_ | with_reducible refine ag ?_)
  all_goals (first | omega | simp)
 ·rw [if_neg ht]
  repeat' (first | contradiction | with_reducible refine az (fun hq => ?_) (fun hq => ?_) | with_reducible refine ah (by first | omega | grind [bA]) ?_ | with_reducible refine ax ?_ | with_reducible refine bX ?_ | with_reducible refine dJ ?_ | with_reducible refine dK ?_ | with_reducible refine dL ?_ | with_reducible refine ag ?_)
  all_goals (first | omega | rfl | simp)
def zM (h:History) (a:Ask) (l:List Int):List aN:=l.map (fun t=>⟨t,gJ h t a.Key⟩)
theorem zN {h:History} (hS:eY h) (hc:aC h=some 0) {a:Ask}:cZ h a=some (zM h a (jM h a h.Txns.length)):=by
 have a3:=hS.len;refine eQ.1 ?_;unfold cZ;refine bK (Ch hS hc) ?_;obtain ⟨W,hW⟩:∃ W,W=iq h a.Key h.Txns.length:=⟨_,rfl⟩;have hWl:=qh (h:=h) (key:=a.Key) (k:=h.Txns.length);have hWm:∀ j:Nat,j < W.length→idx W (j:Int) ∈ iq h a.Key h.Txns.length:=by
  intro j hj
  rw [← hW,dm (n:=j) (by omega) (by omega)]
  exact List.getElem_mem _
 unfold jM
 rw [← hW] at hWl ⊢
 refine dH (k0:=0) W.length (fun k s=>s=(zM h a ((W.take k).filter (fun t=>decide (t≠a.Txn))),(k:Int))) (Nat.zero_le _) (by simp [zM]) ?_;rintro k s hk rfl;have hw:w64 ((k:Int) + 1)=((k + 1:Nat):Int):=aZ (by omega);have l3:(zM h a ((W.take k).filter (fun t=>decide (t≠a.Txn)))).length≤32:=by
  unfold zM
  rw [List.length_map]
  exact Nat.le_trans (List.length_filter_le _ _) (by rw [List.length_take]; omega)
 unfold sZ oZ oW
 dsimp only
 rw [hw]
 refine az (fun a2 => ?_) (fun a2 => ?_)
 ·have a1:k < W.length:=by omega
  have hm:=wX.1 (hWm k a1);have hn:zM h a ((W.take (k + 1)).filter (fun t=>decide (t≠a.Txn)))=if idx W (k:Int)≠a.Txn then zM h a ((W.take k).filter (fun t=>decide (t≠a.Txn)))++[⟨idx W (k:Int),gJ h (idx W (k:Int)) a.Key⟩] else zM h a ((W.take k).filter (fun t=>decide (t≠a.Txn))):=by
   rw [List.take_succ_eq_append_getElem a1,List.filter_append]
   have:W[k]=idx W (k:Int):=(dm (n:=k) (by omega) a1).symm
   rw [this]
   unfold zM
   by_cases hq:idx W (k:Int)=a.Txn <;> simp [hq]
  simp only [Lu hS hc,Option.bind_some,if_pos (show 0≤idx W (k:Int)∧idx W (k:Int) < (h.Txns.length:Int) from ⟨hm.1,hm.2.1⟩)]
  repeat' (first | contradiction | with_reducible refine az (fun hq => ?_) (fun hq => ?_) | with_reducible refine ah (by first | omega | grind [bA]) ?_ | with_reducible refine ax ?_ | with_reducible refine bX ?_ | with_reducible refine dJ ?_ | with_reducible refine dK ?_ | with_reducible refine dL ?_ | with_reducible refine ag ?_)
  all_goals (refine ⟨a1,?_⟩; dsimp only; grind)
 ·have:k=W.length:=by omega
  subst this
  repeat' (first | contradiction | with_reducible refine az (fun hq => ?_) (fun hq => ?_) | with_reducible refine ah (by first | omega | grind [bA]) ?_ | with_reducible refine ax ?_ | with_reducible refine bX ?_ | with_reducible refine dJ ?_ | with_reducible refine dK ?_ | with_reducible refine dL ?_ | with_reducible refine ag ?_)
  all_goals exact (by rw [List.take_length]:zM h a ((W.take W.length).filter (fun t=>decide (t≠a.Txn)))=zM h a (W.filter (fun t=>decide (t≠a.Txn))))
end Go.Proofs.YtfpeabnehpclnaaGreatT
namespace Go.Proofs.YtfpeabnehpclnaaGreatT
open Go Go.Proofs Go.Proofs.YtfpeabnehpclnaaGreatE
set_option linter.unusedVariables false
set_option linter.unusedSimpArgs false
def opAt (h:History) (t p:Int):Op:=idx (idx h.Txns t).Ops p
theorem MP {h:History} {n t p:Nat} (ht:t < n) (hp:p < (idx h.Txns (t:Int)).Ops.length):(xE h (opAt h (t:Int) (p:Int)),(t:Int)) ∈ uS h n:=by
 unfold uS AZ dR opAt
 rw [List.mem_flatMap]
 refine ⟨t,List.mem_range.2 ht,?_⟩
 rw [List.map_map,List.mem_map]
 refine ⟨idx (idx h.Txns (t:Int)).Ops (p:Int),?_,rfl⟩
 rw [dm (n:=p) rfl hp]
 exact List.getElem_mem _
theorem PN {L:List (Call×Int)} (h:qN [] L) {e f:Call×Int} (he:e ∈ L) (hf:f ∈ L) (hk:e.1.Key=f.1.Key):typ e.1.Kind=typ f.1.Kind:=by
 obtain ⟨i,hi,rfl⟩:=List.getElem_of_mem he;obtain ⟨j,hj,rfl⟩:=List.getElem_of_mem hf;rcases Nat.lt_trichotomy i j with hij | hij | hij
 ·have:=(h j hj).1 L[i] (by rw [List.nil_append]; exact List.mem_take_iff_getElem.2 ⟨i,by omega,rfl⟩) (by rw [dm (n:=j) rfl hj]; exact hk)
  rwa [dm (n:=j) rfl hj] at this
 ·subst hij; rfl
 ·have:=(h i hi).1 L[j] (by rw [List.nil_append]; exact List.mem_take_iff_getElem.2 ⟨j,by omega,rfl⟩) (by rw [dm (n:=i) rfl hi]; exact hk.symm)
  rw [dm (n:=i) rfl hi] at this
  exact this.symm
theorem JM {h:History} (hS:eY h) {t p t' p':Nat} (ht:t < h.Txns.length) (hp:p < (idx h.Txns (t:Int)).Ops.length) (ht':t' < h.Txns.length) (hp':p' < (idx h.Txns (t':Int)).Ops.length)
  (hk:(opAt h (t:Int) (p:Int)).Key=(opAt h (t':Int) (p':Int)).Key):typ (opAt h (t:Int) (p:Int)).Kind=typ (opAt h (t':Int) (p':Int)).Kind :=
 PN hS.ents (MP ht hp) (MP ht' hp') (by show idx h.Keys _=idx h.Keys _; rw [hk])
theorem Ci {h:History} (hS:eY h) {t p:Nat} (ht:t < h.Txns.length) (hp:p < (idx h.Txns (t:Int)).Ops.length):1≤(opAt h (t:Int) (p:Int)).Kind∧(opAt h (t:Int) (p:Int)).Kind≤8:=by
 obtain ⟨h1,h2⟩:=(hS.txn t ht).ops;have:=h2 p hp;exact ⟨this.1,this.2.1⟩
theorem Ha {h:History} (hS:eY h) {a:Ask} {t p:Nat} (ht:t < h.Txns.length) (hp:p < (idx h.Txns (t:Int)).Ops.length) (e1:a.Txn=(t:Int)) (e2:a.Place=(p:Int)) :
  pz h a=some (typ (opAt h (t:Int) (p:Int)).Kind):=by
 obtain ⟨k1,k2⟩:=Ci hS ht hp;refine eQ.1 ?_;unfold pz
 rw [e1,e2]
 refine ah (by omega) (ah (by omega) ?_);exact bK (EH k1 k2) (ag rfl)
theorem Am {h:History} (hS:eY h) (hc:aC h=some 0) {key:Int} {t0 p0:Nat} (a4:t0 < h.Txns.length) (a6:p0 < (idx h.Txns (t0:Int)).Ops.length) (a5:(opAt h (t0:Int) (p0:Int)).Key=key) :
  fI h key=some (typ (opAt h (t0:Int) (p0:Int)).Kind):=by
 have b1:=hS.len;refine eQ.1 ?_;unfold fI;refine bK hc ?_
 rw [bne_self_eq_false,cond_false]
 refine dH (k0:=0) h.Txns.length (fun k s=>s=(k:Int)∧∀ t p:Nat,t < k→p < (idx h.Txns (t:Int)).Ops.length→(opAt h (t:Int) (p:Int)).Key≠key) (Nat.zero_le _) ⟨rfl,fun t p h=>absurd h (Nat.not_lt_zero _)⟩ ?_;rintro k s hk ⟨rfl,hno⟩;have hw:w64 ((k:Int) + 1)=((k + 1:Nat):Int):=aZ (by omega);unfold xq;refine az (fun a9 => ?_) (fun a9 => ?_)
 ·have a1:k < h.Txns.length:=by omega
  refine ah (by omega) ?_;have b0:=(hS.txn k a1).ops.1;refine dH (k0:=0) (idx h.Txns (k:Int)).Ops.length (fun m s=>s=(m:Int)∧∀ p:Nat,p < m→(opAt h (k:Int) (p:Int)).Key≠key) (Nat.zero_le _) ⟨rfl,fun p h=>absurd h (Nat.not_lt_zero _)⟩ ?_;rintro m s hm ⟨rfl,a3⟩;have a8:w64 ((m:Int) + 1)=((m + 1:Nat):Int):=aZ (by omega);unfold xn
  dsimp only
  rw [hw,a8]
  refine az (fun a7 => ?_) (fun a7 => ?_)
  ·have a2:m < (idx h.Txns (k:Int)).Ops.length:=by omega
   refine ah (by omega) ?_;refine az (fun he => ?_) (fun he => ?_)
   ·obtain ⟨k1,k2⟩:=Ci hS a1 a2;refine bK (zJ k1 k2) (ax (ax (ag ?_)));exact JM hS a1 a2 a4 a6 ((show (opAt h (k:Int) (m:Int)).Key=key from he).trans a5.symm)
   ·refine ag ⟨a2,rfl,fun p hp => ?_⟩;rcases Nat.lt_or_ge p m with h1 | h1
    ·exact a3 p h1
    ·have:p=m:=by omega
     subst this;exact he
  ·have:m=(idx h.Txns (k:Int)).Ops.length:=by omega
   subst this;refine ax (ag ⟨a1,rfl,fun t p ht hp => ?_⟩);rcases Nat.lt_or_ge t k with h1 | h1
   ·exact hno t p h1 hp
   ·have:t=k:=by omega
    subst this;exact a3 p hp
 ·have:k=h.Txns.length:=by omega
  subst this;exact absurd a5 (hno t0 p0 a4 a6)
end Go.Proofs.YtfpeabnehpclnaaGreatT
namespace Go.Proofs.YtfpeabnehpclnaaGreatT
open Go Go.Proofs Go.Proofs.YtfpeabnehpclnaaGreatE
set_option linter.unusedVariables false
set_option linter.unusedSimpArgs false
def JN (h:History) (key ty:Int):Prop:=∀ t p:Nat,t < h.Txns.length→p < (idx h.Txns (t:Int)).Ops.length→(opAt h (t:Int) (p:Int)).Key=key→typ (opAt h (t:Int) (p:Int)).Kind=ty
def Apart (e f:Call×Int):Prop:=e.1.Key=f.1.Key→(e.1.Kind=2∨e.1.Kind=3)→(f.1.Kind=2∨f.1.Kind=3)→e.1.Arg≠f.1.Arg
theorem Fq {L:List (Call×Int)} (h:qN [] L):L.Pairwise Apart:=by
 rw [List.pairwise_iff_getElem]
 intro i j hi hj hij hk h1 h2;have:=(h j hj).2.1
 rw [dm (n:=j) rfl hj] at this
 exact this h2 L[i] (by rw [List.nil_append]; exact List.mem_take_iff_getElem.2 ⟨i,by omega,rfl⟩) hk h1
theorem Hd {h:History} {t key v:Int}:v ∈ gJ h t key↔∃ o ∈ (idx h.Txns t).Ops,o.Key=key∧o.Kind≤4∧o.Arg=v:=by
 unfold gJ xG
 rw [List.take_length]
 simp only [List.mem_map,List.mem_filter,decide_eq_true_eq]
 constructor
 ·rintro ⟨o,⟨h1,h2,h3⟩,h4⟩; exact ⟨o,h1,h2,h3,h4⟩
 ·rintro ⟨o,h1,h2,h3,h4⟩; exact ⟨o,⟨h1,h2,h3⟩,h4⟩
theorem TE {h:History} {t:Nat} {o:Op} (ho:o ∈ (idx h.Txns (t:Int)).Ops):∃ p:Nat,p < (idx h.Txns (t:Int)).Ops.length∧opAt h (t:Int) (p:Int)=o:=by
 obtain ⟨p,hp,rfl⟩:=List.getElem_of_mem ho;exact ⟨p,hp,dm rfl hp⟩
theorem EI {h:History} (hS:eY h) {key ty:Int} (hty:JN h key ty) (a1:ty=2∨ty=3) {t:Nat} (ht:t < h.Txns.length) {o:Op} (ho:o ∈ (idx h.Txns (t:Int)).Ops) (hk:o.Key=key) (h4:o.Kind≤4):o.Kind=2∨o.Kind=3:=by
 obtain ⟨p,hp,rfl⟩:=TE ho;have h1:=hty t p ht hp hk;obtain ⟨k1,k2⟩:=Ci hS ht hp;unfold typ at h1
 omega
theorem JO {h:History} (hS:eY h) {key ty:Int} (hty:JN h key ty) (a1:ty=2∨ty=3) {t:Nat} (ht:t < h.Txns.length):(gJ h (t:Int) key).Nodup:=by
 have hp:=(List.pairwise_flatMap.1 (Fq hS.ents)).1 t (List.mem_range.2 ht);unfold AZ dR at hp
 rw [List.map_map,List.pairwise_map] at hp
 unfold gJ xG
 rw [List.take_length]
 unfold List.Nodup
 rw [List.pairwise_map,List.pairwise_filter]
 refine List.Pairwise.imp_of_mem (fun {x y} hx hy hR => ?_) hp;intro h1 h2
 rw [decide_eq_true_eq] at h1 h2
 refine hR ?_ (EI hS hty a1 ht hx h1.1 h1.2) (EI hS hty a1 ht hy h2.1 h2.2)
 show idx h.Keys _=idx h.Keys _
 rw [h1.1,h2.1]
theorem JP {h:History} (hS:eY h) {key ty:Int} (hty:JN h key ty) (a1:ty=2∨ty=3) {t u:Nat} (ht:t < h.Txns.length) (hu:u < h.Txns.length) (hn:t≠u) {v:Int}
  (h1:v ∈ gJ h (t:Int) key):v ∉ gJ h (u:Int) key:=by
 intro h2;have hp:=(List.pairwise_flatMap.1 (Fq hS.ents)).2;obtain ⟨o,ho,k1,k2,k3⟩:=Hd.1 h1;obtain ⟨o',ho',l1,l2,l3⟩:=Hd.1 h2;have a2:∀ {t u:Nat} (ht:t < h.Txns.length) (hu:u < h.Txns.length),t < u→∀ {o o':Op},o ∈ (idx h.Txns (t:Int)).Ops→o' ∈ (idx h.Txns (u:Int)).Ops→o.Key=key→o'.Key=key→o.Kind≤4→o'.Kind≤4→o.Arg≠o'.Arg:=by
  intro t u ht hu htu o o' ho ho' e1 e2 e3 e4;have:=(List.pairwise_iff_getElem.1 hp) t u (by simpa using ht) (by simpa using hu) htu
  rw [List.getElem_range,List.getElem_range] at this
  refine this (xE h o,(t:Int)) ?_ (xE h o',(u:Int)) ?_ ?_ (EI hS hty a1 ht ho e1 e3) (EI hS hty a1 hu ho' e2 e4)
  ·unfold AZ dR; rw [List.map_map]; exact List.mem_map.2 ⟨o,ho,rfl⟩
  ·unfold AZ dR; rw [List.map_map]; exact List.mem_map.2 ⟨o',ho',rfl⟩
  ·show idx h.Keys _=idx h.Keys _
   rw [e1,e2]
 rcases Nat.lt_or_gt_of_ne hn with hlt | hlt
 ·exact a2 ht hu hlt ho ho' k1 l1 k2 l2 (k3.trans l3.symm)
 ·exact a2 hu ht hlt ho' ho l1 k1 l2 k2 (l3.trans k3.symm)
structure Eb (h:History) (a:Ask) (t p:Nat):Prop where
 tl:t < h.Txns.length
 pl:p < (idx h.Txns (t:Int)).Ops.length
 e1:a.Txn=(t:Int)
 e2:a.Place=(p:Int)
 e3:a.Key=(opAt h (t:Int) (p:Int)).Key
 rd:5≤(opAt h (t:Int) (p:Int)).Kind
 b64:a.Base.length≤64
 b4:typ (opAt h (t:Int) (p:Int)).Kind=4→a.Base.length=1
 b3:typ (opAt h (t:Int) (p:Int)).Kind=3→a.Base.Nodup
theorem He {s:List Int} (h:Asc s):s.Nodup:=by
 exact (Ak.1 h).imp (fun h=>by omega)
theorem Dm {h:History} (hS:eY h) {a:Ask} (ha:a ∈ bu h h.Txns.length):∃ t p,Eb h a t p:=by
 unfold bu at ha;obtain ⟨t,ht,ha⟩:=List.mem_flatMap.1 ha;have ht:=List.mem_range.1 ht;unfold xH at ha
 split at ha
 case isFalse=>cases ha
 case isTrue hst =>
 unfold ww at ha;obtain ⟨p,hp,ha⟩:=List.mem_flatMap.1 ha;have hp:=List.mem_range.1 hp;refine ⟨t,p,?_⟩;obtain ⟨k1,k8⟩:=Ci hS ht hp;obtain ⟨_,_,_,_,_,hcs⟩:=hS.txn t ht;have hc:=hcs p (by simpa [AU,dR] using hp)
 dsimp only [AU,dR] at hc
 rw [yM hp] at hc
 unfold uL xE at hc
 dsimp only at hc
 unfold DX at ha
 dsimp only at ha
 have ho:idx (idx h.Txns (t:Int)).Ops (p:Int)=opAt h (t:Int) (p:Int):=rfl
 rw [ho] at ha hc
 generalize opAt h (t:Int) (p:Int)=o at ha hc k1 k8 ho;obtain ⟨c1,c8,c3,c4,c5,c6⟩:=hc;have hoo:opAt h (t:Int) (p:Int)=o:=ho
 split at ha
 ·cases ha
 ·rename_i h4
  obtain ⟨d1,d2,d3,d4⟩:=c6 (by omega);have hg:o.Got=true:=d2.2 hst;obtain ⟨f1,f2,f3,f4⟩:=d4 hg
  split at ha
  ·rw [List.mem_singleton] at ha
   subst ha;exact ⟨ht,hp,rfl,rfl,by rw [hoo],by rw [hoo]; omega,f4,fun h=>f2 (by rw [hoo] at h; unfold typ at h; omega),fun h=>He (f3 (by rw [hoo] at h; unfold typ at h; omega))⟩
  ·split at ha
   ·rename_i hb
    rw [List.mem_singleton] at ha
    subst ha;obtain ⟨hb,h5⟩:=hb;refine ⟨ht,hp,rfl,rfl,by rw [hoo],by rw [hoo]; omega,?_,fun h => ?_,fun h => ?_⟩
    ·dsimp only
     unfold before;have:=List.length_filter_le (fun x=>decide (x ∉ xG (idx h.Txns (t:Int)).Ops o.Key p)) o.Vals
     split
     ·simp
     ·split
      ·simp
      ·split
       ·split
        ·simp; omega
        ·simp
       ·split
        ·split
         ·dsimp only; omega
         ·simp
        ·simp
    ·have h8:o.Kind=8:=by rw [hoo] at h; unfold typ at h; omega
     dsimp only
     unfold before at hb ⊢
     rw [h8] at hb ⊢
     split at hb
     ·cases hb
     ·rename_i hq
      rw [if_neg hq]
      simp
    ·have h7:o.Kind=7:=by rw [hoo] at h; unfold typ at h; omega
     have hnd:=He (f3 h7)
     dsimp only
     unfold before
     rw [h7]
     split
     ·simp
     ·simp only [show ¬ ((7:Int) - 4=1) by omega,show ¬ ((7:Int) - 4=2) by omega,if_false]
      split
      ·split
       ·exact hnd.filter _
       ·simp
      ·rename_i h0
       exact absurd (show (7:Int) - 4=3 by omega) h0
   ·cases ha
end Go.Proofs.YtfpeabnehpclnaaGreatT
namespace Go.Proofs.YtfpeabnehpclnaaGreatT
open Go Go.Proofs Go.Proofs.YtfpeabnehpclnaaGreatE
set_option linter.unusedVariables false
set_option linter.unusedSimpArgs false
theorem Dn {α:Type} [Inhabited α] {l:List α} {k:Nat}:kg l (k:Int) (l.length:Int)=l.drop k:=by
 unfold kg
 simp
theorem Dp {l:List Int} {v:Int} (hl:l.length < 2 ^ 60):slices_Contains_int l v=some (decide (v ∈ l)):=by
 have h1:Tri (slices_Index_int l v) (fun r=>0≤r↔∃ j:Nat,j < l.length∧idx l (j:Int)=v):=by
  unfold slices_Index_int;refine pF l.length (fun j=>idx l (j:Int)≠v) ?_;intro k hk hJ;unfold pQ
  dsimp only
  repeat' (first | contradiction | with_reducible refine az (fun hq => ?_) (fun hq => ?_) | with_reducible refine ah (by first | omega | grind [bA]) ?_ | with_reducible refine ax ?_ | with_reducible refine bX ?_ | with_reducible refine dJ ?_ | with_reducible refine dK ?_ | with_reducible refine dL ?_ | with_reducible refine ag ?_)
  all_goals grind [Nxt,bA]
 refine eQ.1 ?_;unfold slices_Contains_int;refine dN h1 (fun r hr=>ag ?_);have:(∃ j:Nat,j < l.length∧idx l (j:Int)=v)↔v ∈ l:=by
  rw [List.mem_iff_getElem]
  constructor
  ·rintro ⟨j,hj,e⟩; exact ⟨j,hj,by rw [← e,dm (n:=j) rfl hj]⟩
  ·rintro ⟨j,hj,e⟩; exact ⟨j,hj,by rw [← e,dm (n:=j) rfl hj]⟩
 rw [decide_eq_decide]
 exact hr.trans this
theorem JQ {s p:List Int} (hs:s.length < 2 ^ 60):qF s p=some (decide (p <+: s)):=by
 refine eQ.1 ?_;unfold qF;refine az (fun h => ?_) (fun h => ?_)
 ·refine ag ?_
  rw [eq_comm,decide_eq_false_iff_not]
  intro hp;have:=hp.length_le
  omega
 ·have hl:p.length≤s.length:=by omega
  refine ah (by omega) ?_;have hsv:eu (kg s (0:Int) (p.length:Int)) p=some (decide (kg s (0:Int) (p.length:Int)=p)):=GD (by rw [oN hl,List.length_take]; omega);refine bK hsv (ag ?_)
  rw [decide_eq_decide,oN hl,List.prefix_iff_eq_take,eq_comm]
structure Parts (O:List Int) (W:Int→List Int):Prop where
 ne:∀ t ∈ O,0 < (W t).length
 ap:∀ t ∈ O,∀ u ∈ O,∀ v,v ∈ W t→v ∈ W u→t=u
 nd:∀ t ∈ O,(W t).Nodup
 ol:O.length≤32
 wl:∀ t ∈ O,(W t).length≤16
 pos:∀ t ∈ O,0≤t
theorem Fs {h:History} (hS:eY h) {a:Ask} {t p:Nat} (ha:Eb h a t p) (a1:typ (opAt h (t:Int) (p:Int)).Kind=2∨typ (opAt h (t:Int) (p:Int)).Kind=3) :
  Parts (jM h a h.Txns.length) (fun t=>gJ h t a.Key):=by
 have a2:=hS.len;have hty:JN h a.Key (typ (opAt h (t:Int) (p:Int)).Kind):=fun t' p' ht' hp' hk=>JM hS ht' hp' ha.tl ha.pl (hk.trans ha.e3);have hm:∀ u ∈ jM h a h.Txns.length,∃ n:Nat,u=(n:Int)∧n < h.Txns.length∧0 < (gJ h u a.Key).length:=by
  intro u hu;obtain ⟨⟨h0,h1,_,h3⟩,_⟩:=lC.1 hu;exact ⟨u.toNat,by omega,by omega,h3⟩
 refine ⟨fun u hu => ?_,fun u hu v hv x h1 h2 => ?_,fun u hu => ?_,Nat.le_trans vg a2,fun u hu => ?_,fun u hu=>(lC.1 hu).1.1⟩
 ·obtain ⟨n,_,_,h3⟩:=hm u hu; exact h3
 ·obtain ⟨n,rfl,hn,_⟩:=hm u hu;obtain ⟨m,rfl,hm',_⟩:=hm v hv
  by_cases hne:n=m
  ·rw [hne]
  ·exact absurd h2 (JP hS hty a1 hn hm' hne h1)
 ·obtain ⟨n,rfl,hn,_⟩:=hm u hu;exact JO hS hty a1 hn
 ·obtain ⟨n,rfl,hn,_⟩:=hm u hu;exact Nat.le_trans Ea (hS.txn n hn).ops.1
section
variable {O:List Int} {W:Int→List Int}
def Cj (O:List Int) (W:Int→List Int):List aN:=O.map (fun t=>⟨t,W t⟩)
theorem xS:(Cj O W).length=O.length:=List.length_map _
theorem Ao {j:Nat} (hj:j < O.length):idx (Cj O W) (j:Int)=⟨idx O (j:Int),W (idx O (j:Int))⟩:=yM hj
theorem fA {l:List Int} {j:Nat} (hj:j < l.length):idx l (j:Int) ∈ l:=by rw [dm (n:=j) rfl hj]; exact List.getElem_mem _
theorem wY {l:List Int} {t:Int} (h:t ∈ l):∃ j:Nat,j < l.length∧idx l (j:Int)=t:=by
 obtain ⟨j,hj,e⟩:=List.getElem_of_mem h;exact ⟨j,hj,(dm rfl hj).trans e⟩
theorem qi {p s:List Int} (hp:p <+: s) (h0:0 < p.length):idx p 0=idx s 0:=by
 obtain ⟨r,rfl⟩:=hp;exact (lg (j:=0) h0).symm
theorem Oa (hP:Parts O W) {rest:List Int} (hr:0 < rest.length):Tri (bL (Cj O W) rest)
  (fun y=>(∃ j:Nat,j < O.length∧y=(j:Int)∧idx (W (idx O (j:Int))) 0=idx rest 0)∨(y = -1∧∀ t ∈ O,idx (W t) 0≠idx rest 0)):=by
 have hol:=hP.ol;unfold bL;refine dH (k0:=0) O.length (fun k s=>s=(k:Int)∧∀ j:Nat,j < k→idx (W (idx O (j:Int))) 0≠idx rest 0) (Nat.zero_le _) ⟨rfl,fun j h=>absurd h (Nat.not_lt_zero _)⟩ ?_;rintro k s hk ⟨rfl,hno⟩;have hw:w64 ((k:Int) + 1)=((k + 1:Nat):Int):=aZ (by omega);unfold fZ tY
 dsimp only
 rw [hw,xS]
 refine az (fun a2 => ?_) (fun a2 => ?_)
 ·have a1:k < O.length:=by omega
  have h0:=hP.ne _ (fA a1)
  rw [Ao a1]
  refine ah (by omega) ?_
  simp only [iQ _ (show 0≤(0:Int)∧(0:Int) < ((W (idx O (k:Int))).length:Int) by omega),iQ _ (show 0≤(0:Int)∧(0:Int) < (rest.length:Int) by omega),Option.bind_some]
  refine az (fun he => ?_) (fun he => ?_)
  ·exact ax (ag (.inl ⟨k,a1,rfl,he⟩))
  ·refine ag ⟨a1,rfl,fun j hj => ?_⟩;rcases Nat.lt_or_ge j k with h1 | h1
   ·exact hno j h1
   ·have:j=k:=by omega
    subst this;exact he
 ·have:k=O.length:=by omega
  subst this;refine ax (ag (.inr ⟨rfl,fun t ht => ?_⟩));obtain ⟨j,hj,rfl⟩:=wY ht;exact hno j hj
theorem tL (hP:Parts O W) {rest:List Int} {t u:Int} (ht:t ∈ O) (hu:u ∈ O) (h1:idx (W t) 0=idx rest 0) (h2:idx (W u) 0=idx rest 0):t=u:=by
 have e1:=hP.ne t ht;have e2:=hP.ne u hu;refine hP.ap t ht u hu (idx rest 0) ?_ ?_
 ·rw [← h1]; exact fA (j:=0) e1
 ·rw [← h2]; exact fA (j:=0) e2
end
end Go.Proofs.YtfpeabnehpclnaaGreatT
