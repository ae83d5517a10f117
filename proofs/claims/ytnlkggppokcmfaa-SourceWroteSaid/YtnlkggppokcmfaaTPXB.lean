import Derived.Test.YtnlkggppokcmfaaTD
import Derived.Test.YtnlkggppokcmfaaY
import Derived.Test.YtnlkggppokcmfaaTF
namespace Go.Proofs.YtnlkggppokcmfaaT
open Go Go.Proofs Go.Proofs.YtnlkggppokcmfaaE
set_option linter.unusedVariables false
set_option linter.unusedSimpArgs false
def Upm {S Ω:Type} (n k:Nat) (J:Nat→S→Prop) (Q:Ω→Prop):S ⊕ Ω→Prop
 | .inl s'=>k < n∧J (k + 1) s'
 | .inr o=>Q o
theorem dC {S Ω:Type} {step:S→Option (S ⊕ Ω)} {Q:Ω→Prop} (n:Nat) (J:Nat→S→Prop) {s0:S} {k0:Nat} (a0:k0≤n) (h0:J k0 s0)
  (hs:∀ (k:Nat) (s:S),k≤n→J k s→Tri (step s) (Upm n k J Q)):Tri (iter step s0) Q:=by
 generalize hd:n - k0=d
 induction d using Nat.strongRecOn generalizing k0 s0 with
 | ind d ih =>
  obtain ⟨x,hx,hr⟩:=hs k0 s0 a0 h0
  rw [zk,hx]
  cases x with
  | inl s'=>exact ih (n - (k0 + 1)) (by have:=hr.1; omega) (k0:=k0 + 1) (by have:=hr.1; omega) hr.2 rfl
  | inr o=>exact ⟨o,rfl,hr⟩
def Asc (s:List Int):Prop:=∀ k:Nat,k + 1 < s.length→idx s (k:Int) < idx s ((k + 1:Nat):Int)
instance (s:List Int):Decidable (Asc s):=by
 unfold Asc;exact decidable_of_iff (∀ k,k < s.length→k + 1 < s.length→idx s (k:Int) < idx s ((k + 1:Nat):Int)) ⟨fun h k hk=>h k (by omega) hk,fun h k _ hk=>h k hk⟩
theorem iF {s:List Int} {k:Nat} (h:k < s.length):idx s (k:Int)=s[k]:=dh rfl h
theorem jG {s:List Int}:Asc s↔s.Pairwise (· < ·):=by
 rw [List.pairwise_iff_getElem]
 constructor
 ·intro h i j hi hj hij
  induction j with
  | zero=>omega
  | succ j ih =>
   have h1:=h j hj
   rw [iF (by omega),iF hj] at h1
   rcases Nat.lt_or_ge i j with h2 | h2
   ·exact Int.lt_trans (ih (by omega) h2) h1
   ·have:i=j:=by omega
    subst this;exact h1
 ·intro h k hk
  rw [iF (by omega),iF hk]
  exact h k (k + 1) (by omega) hk (by omega)
theorem Bj:Asc []:=fun k hk=>by simp at hk
def SOk (t:Int) (s:List Int):Bool:=(t == 1 && decide (s.length≤1)) || (t == 2 && decide (s.length≤64)) || (t == 3 && decide (Asc s) && decide (s.length≤64)) || (t == 4 && s.length == 1)
def chk (t:Int) (s:List Int):Int:=if 1≤t∧t≤4 then (if SOk t s then 0 else 80) else 1
theorem jP {k:Nat} (h:k < 2 ^ 62) (h1:1≤k):w64 ((k:Int) - 1)=((k - 1:Nat):Int):=by
 rw [ku (by omega) (by omega)]; omega
theorem zn {s:List Int} (hs:s.length < 2 ^ 62):eU () s=some (decide (Asc s) && decide (s.length≤64)):=by
 unfold eU;refine dV.1 ?_;refine dC (k0:=1) (s.length + 1) (fun k x=>x=(k:Int)∧1≤k∧∀ j:Nat,j + 1 < k→j + 1 < s.length→idx s (j:Int) < idx s ((j + 1:Nat):Int)) (by omega) ⟨rfl,Nat.le_refl _,fun j h=>by omega⟩ ?_
 rintro k x hk ⟨rfl,a0,hJ⟩;unfold lZ;refine lX (fun h => ?_) (fun h => ?_)
 ·have h:(k:Int) < s.length:=of_decide_eq_true h;have e:=jP (k:=k) (by omega) a0;refine ai (by rw [e]; omega) (ai (by omega) (lX (fun h2 => ?_) (fun h2 => ?_)))
  ·have h2:idx s (k:Int)≤idx s (w64 ((k:Int) - 1)):=of_decide_eq_true h2
   rw [e] at h2
   refine ax (ag ?_)
   show false=_
   have hn:¬ Asc s:=by
    intro hA;have:=hA (k - 1) (by omega)
    rw [show k - 1 + 1=k by omega] at this
    omega
   simp [hn]
  ·have h2:¬ idx s (k:Int)≤idx s (w64 ((k:Int) - 1)):=of_decide_eq_false h2
   rw [e] at h2
   refine ⟨_,rfl,by omega,bn (by omega),by omega,fun j hj hl => ?_⟩
   rcases Nat.lt_or_ge (j + 1) k with h3 | h3
   ·exact hJ j h3 hl
   ·have:j=k - 1:=by omega
    subst this
    rw [show k - 1 + 1=k by omega]
    omega
 ·have h:¬ (k:Int) < s.length:=of_decide_eq_false h;refine ax (ag ?_)
  show decide ((s.length:Int)≤64)=_
  have hA:Asc s:=fun j hj=>hJ j (by omega) hj
  simp only [hA,decide_true,Bool.true_and]
  congr 1
  exact propext ⟨fun h=>by omega,fun h=>by omega⟩
theorem Ar {t:Int} {s:List Int} (h:1≤t∧t≤4):chk t s=if SOk t s then 0 else 80:=if_pos h
theorem four {t:Int} (h:1≤t∧t≤4):t=1∨t=2∨t=3∨t=4:=by omega
theorem JX {s:List Int} {n:Nat}:decide ((s.length:Int)≤(n:Int))=decide (s.length≤n):=by
 congr 1
 exact propext ⟨fun h=>by omega,fun h=>by omega⟩
theorem wM {t:Int} (h:¬ (1≤t∧t≤4)):eQ t=some (-1):=by
 have e1:(t == 1)=false:=by rw [beq_eq_false_iff_ne]; omega
 have e2:(t == 2)=false:=by rw [beq_eq_false_iff_ne]; omega
 have e3:(t == 3)=false:=by rw [beq_eq_false_iff_ne]; omega
 have e4:(t == 4)=false:=by rw [beq_eq_false_iff_ne]; omega
 simp [eQ,e1,e2,e3,e4]
theorem rY (t:Int) {s:List Int} (hs:s.length < 2 ^ 62):gY t s=some (chk t s):=by
 by_cases ht:1≤t∧t≤4
 ·rw [Ar ht]
  rcases four ht with rfl | rfl | rfl | rfl
  ·have:=JX (s:=s) (n:=1)
   simp only [Int.cast_ofNat_Int] at this
   simp [gY,eQ,iN,SOk]
   by_cases h:s.length≤1
   ·have h':(s.length:Int)≤1:=by omega
    simp [h,h']
   ·have h':¬ (s.length:Int)≤1:=by omega
    simp [h,h']
  ·simp [gY,eQ,kY,SOk]
   by_cases h:s.length≤64
   ·have h':(s.length:Int)≤64:=by omega
    simp [h,h']
   ·have h':¬ (s.length:Int)≤64:=by omega
    simp [h,h']
  ·simp [gY,eQ,zn hs,SOk]
   by_cases h:Asc s <;> by_cases h':s.length≤64 <;> simp [h,h']
  ·simp [gY,eQ,jc,SOk]
   by_cases h:s.length=1
   ·have h':(s.length:Int)=1:=by omega
    simp [h,h']
   ·have h':((s.length:Int) == 1)=false:=by rw [beq_eq_false_iff_ne]; omega
    simp [h,h']
 ·rw [chk,if_neg ht]
  simp [gY,wM ht]
def lb (s:List Int) (a:Int):Nat:=s.findIdx (fun x=>decide (a≤x))
def hit (s:List Int) (a:Int):Bool:=decide (lb s a < s.length) && (idx s (lb s a:Int) == a)
def ins (s:List Int) (a:Int):List Int:=s.take (lb s a)++((if hit s a then [] else [a])++s.drop (lb s a))
theorem Ci (s:List Int) (a:Int):lb s a≤s.length:=List.findIdx_le_length
theorem Jq {s:List Int} {a:Int} {k:Nat} (h:k < lb s a):idx s (k:Int) < a:=by
 have h1:k < s.length:=Nat.lt_of_lt_of_le h (Ci s a)
 rw [iF h1]
 have:=List.not_of_lt_findIdx (p:=fun x=>decide (a≤x)) (xs:=s) h
 simpa using this
theorem Jr {s:List Int} {a:Int} (h:lb s a < s.length):a≤idx s (lb s a:Int):=by
 rw [iF h]
 have:=List.findIdx_getElem (p:=fun x=>decide (a≤x)) (xs:=s) (w:=h);exact of_decide_eq_true this
theorem Js {s:List Int} {a:Int} {i:Nat} (hi:i≤s.length) (h1:∀ k:Nat,k < i→idx s (k:Int) < a) (h2:i < s.length→a≤idx s (i:Int)):lb s a=i:=by
 rcases Nat.lt_trichotomy (lb s a) i with h | h | h
 ·have:=Jr (s:=s) (a:=a) (by omega);have:=h1 _ h
  omega
 ·exact h
 ·have h3:=Jq h;have:=h2 (by have:=Ci s a; omega)
  omega
theorem Iu {i j:Nat} (hi:i < 2 ^ 62) (hj:j < 2 ^ 62):w64 (tO .u64 (IntKind.wrap .u64 (w64 ((i:Int) + (j:Int)))) (1:Int))=(((i + j) / 2:Nat):Int):=by
 have e1:w64 ((i:Int) + (j:Int))=((i + j:Nat):Int):=by rw [ku (by omega) (by omega)]; omega
 rw [e1,wrap_u64 (by omega),CO (n:=1) (i:=(1:Int)) rfl (by omega),ku (by omega) (by omega)]
 simp [Nat.shiftRight_eq_div_pow]
theorem EO (a b:Int):kJ a b=some (decide (a < b)):=by simp [kJ,jL]
theorem yn {s:List Int} (a:Int) (hA:Asc s) (hs:s.length < 2 ^ 62):aU s a=some ((lb s a:Int),hit s a):=by
 unfold aU;refine dV.1 ?_;have hP:=List.pairwise_iff_getElem.1 (jG.1 hA);have hmono:∀ p q:Nat,p≤q→q < s.length→idx s (p:Int)≤idx s (q:Int):=by
  intro p q hpq hq;rcases Nat.lt_or_ge p q with h | h
  ·rw [iF (by omega),iF hq]
   exact Int.le_of_lt (hP p q (by omega) hq h)
  ·have:p=q:=by omega
   subst this;exact Int.le_refl _
 refine zM (fun x:Int×Int=>∃ i j:Nat,x=((i:Int),(j:Int))∧i≤j∧j≤s.length∧(∀ k:Nat,k < i→idx s (k:Int) < a)∧(j < s.length→a≤idx s (j:Int))) (fun x=>x.2.toNat - x.1.toNat)
  ⟨0,s.length,rfl,by omega,by omega,fun k h=>by omega,fun h=>by omega⟩ ?_
 rintro _ ⟨i,j,rfl,hij,hj,h1,h2⟩;unfold gN;refine lX (fun h => ?_) (fun h => ?_)
 ·have h:(i:Int) < j:=of_decide_eq_true h;have e:=Iu (i:=i) (j:=j) (by omega) (by omega)
  rw [e]
  refine ai (by decide) (ai (by omega) ?_)
  rw [EO]
  show Tri (bif decide _ then _ else _) _
  have hm:(i + j) / 2 < j:=by omega
  have a0:i≤(i + j) / 2:=by omega
  generalize (i + j) / 2=m at hm a0;refine lX (fun h3 => ?_) (fun h3 => ?_)
  ·have h3:idx s (m:Int) < a:=of_decide_eq_true h3;refine ⟨_,rfl,⟨m + 1,j,by rw [bn (by omega)],by omega,hj,fun k hk => ?_,h2⟩,?_⟩
   ·exact Int.lt_of_le_of_lt (hmono k m (by omega) (by omega)) h3
   ·rw [bn (by omega)]; simp only [Int.toNat_natCast]; omega
  ·have h3:¬ idx s (m:Int) < a:=of_decide_eq_false h3;refine ⟨_,rfl,⟨i,m,rfl,a0,by omega,h1,fun _=>by omega⟩,?_⟩
   simp only [Int.toNat_natCast]; omega
 ·have h:¬ (i:Int) < j:=of_decide_eq_false h;have hji:j=i:=by omega
  subst hji;have hl:lb s a=j:=Js hj h1 h2;refine lX (fun h3 => ?_) (fun h3 => ?_)
  ·have h3:(j:Int) < s.length:=of_decide_eq_true h3;have hlt:j < s.length:=by omega
   refine ai (by omega) (lX (fun h4 => ?_) (fun h4 => ?_))
   ·refine ax (ag ?_)
    simp [Rnd,hl,hit,hlt,h4]
   ·simp only [gZ,Option.bind_some,bne_self_eq_false,cond_false]
    refine ax (ag ?_)
    simp [Rnd,hl,hit,hlt,h4]
  ·have h3:¬ (j:Int) < s.length:=of_decide_eq_false h3;have hlt:¬ j < s.length:=by omega
   refine ax (ag ?_)
   simp [Rnd,hl,hit,hlt]
theorem En {s:List Int} {a:Int} (hA:Asc s):hit s a=true↔a ∈ s:=by
 unfold hit
 simp only [Bool.and_eq_true,decide_eq_true_eq,beq_iff_eq]
 constructor
 ·rintro ⟨h1,h2⟩
  rw [iF h1] at h2
  exact h2 ▸ List.getElem_mem h1
 ·intro h;obtain ⟨k,hk,e⟩:=List.getElem_of_mem h;have hP:=List.pairwise_iff_getElem.1 (jG.1 hA);have:lb s a=k:=by
   refine Js (by omega) (fun j hj => ?_) (fun _ => ?_)
   ·rw [iF (by omega),← e]; exact hP j k (by omega) hk hj
   ·rw [iF hk,e]; exact Int.le_refl _
  rw [this]
  exact ⟨hk,by rw [iF hk,e]⟩
theorem Bl {s:List Int} {a:Int} (h:hit s a=true):ins s a=s:=by simp [ins,h]
theorem Bn {s:List Int} {a:Int} (h:hit s a=false):ins s a=s.take (lb s a)++[a]++s.drop (lb s a):=by simp [ins,h]
theorem Af {s:List Int} (a:Int) (hA:Asc s) (hs:s.length < 2 ^ 43):kN () s a=some (ins s a):=by
 unfold kN
 rw [yn a hA (by omega)]
 have hc:cu s=some s:=fT _ (by omega);have hl:=Ci s a;cases hh:hit s a
 ·simp only [Option.bind_some,hc,cond_false]
  have:gT s (lb s a:Int) [a]=some (ins s a):=by
   unfold gT
   rw [fT _ ⟨by omega,by omega,by simp,by simp; omega⟩,Bn hh,Int.toNat_natCast]
  rw [this]
  rfl
 ·simp only [Option.bind_some,hc,cond_true,Bl hh]
def next (t:Int) (s:List Int) (a:Int):List Int:=if t=1 then [a] else if t=2 then s++[a] else if t=3 then ins s a else [w64 (idx s 0 + a)]
def app (t:Int) (s:List Int) (a:Int):List Int×Int :=
 if chk t s≠0 then ([],chk t s) else if (next t s a).length > 64 then ([],2) else (next t s a,0)
theorem FW {t:Int} {s:List Int} (h:chk t s=0):1≤t∧t≤4∧SOk t s=true:=by
 unfold chk at h
 split at h
 ·rename_i h1
  split at h
  ·exact ⟨h1.1,h1.2,by assumption⟩
  ·cases h
 ·cases h
theorem FX {t:Int} {s:List Int} (h:SOk t s=true):s.length≤64:=by
 simp only [SOk,Bool.or_eq_true,Bool.and_eq_true,decide_eq_true_eq,beq_iff_eq] at h
 omega
theorem FY {s:List Int} (h:SOk 3 s=true):Asc s:=by
 simp [SOk] at h
 exact h.1
theorem ok_one {s:List Int} (h:SOk 4 s=true):s.length=1:=by
 simp [SOk] at h
 exact h
theorem zb {l:List Int}:ik l=some (if l.length > 64 then ([],2) else (l,0)):=by
 unfold ik
 by_cases h:l.length > 64
 ·have h':(l.length:Int) > 64:=by omega
  simp [h,h']
 ·have h':¬ (l.length:Int) > 64:=by omega
  simp [h,h']
theorem xG (t:Int) {s:List Int} (a:Int) (hs:s.length < 2 ^ 62):eZ t s a=some (app t s a):=by
 unfold eZ app
 rw [rY t hs]
 by_cases hc:chk t s=0
 ·obtain ⟨h1,h2,h3⟩:=FW hc;have hl:=FX h3
  simp only [hc,Option.bind_some,bne_self_eq_false,cond_false,ne_eq,not_true,if_false]
  rcases four ⟨h1,h2⟩ with rfl | rfl | rfl | rfl
  ·simp [eQ,jg,zb,next]
  ·have hcl:cu s=some s:=fT _ (by omega)
   simp only [eQ,lW,hcl]
   simp
   rw [fT _ ⟨by omega,by omega⟩]
   simp [zb,next]
  ·simp [eQ,Af a (FY h3) (by omega),zb,next]
  ·have:=ok_one h3
   simp [eQ,jB]
   rw [fT _ (by omega)]
   simp [zb,next]
 ·have:(chk t s != 0)=true:=by simpa using hc
  simp [hc,this]
def start (t:Int):List Int×Int:=if 1≤t∧t≤4 then (if t=4 then [0] else [],0) else ([],1)
theorem xH (t:Int):mr t=some (start t):=by
 by_cases ht:1≤t∧t≤4
 ·rw [start,if_pos ht]
  rcases four ht with rfl | rfl | rfl | rfl <;> simp [mr,eQ,iR,lq,lV,jf]
 ·rw [start,if_neg ht]
  simp [mr,wM ht]
def step (t:Int) (x:List Int×Int) (a:Int):List Int×Int:=if x.2=0 then app t x.1 a else x
def fold (t:Int) (args:List Int):List Int×Int:=args.foldl (step t) (start t)
theorem EP (t:Int) (s:List Int) (a:Int):(app t s a).1.length≤64:=by
 unfold app
 split
 ·simp
 ·split
  ·simp
  ·show (next t s a).length≤64
   omega
theorem Iw (t:Int) (s:List Int) (a:Int):(app t s a).2≠0→(app t s a).1=[]:=by
 unfold app
 split
 ·intro _; rfl
 ·split
  ·intro _; rfl
  ·intro h; exact absurd rfl h
theorem Cj (t:Int):(start t).1.length≤64:=by unfold start; split <;> (try split) <;> simp
theorem EQ (t:Int):(start t).2≠0→(start t).1=[]:=by
 unfold start
 split
 ·intro h; exact absurd rfl h
 ·intro _; rfl
theorem Au (t:Int) (args:List Int) {k:Nat} (h:k < args.length):(args.take (k + 1)).foldl (step t) (start t)=step t ((args.take k).foldl (step t) (start t)) (idx args (k:Int)):=by
 rw [List.take_add_one,List.getElem?_eq_getElem h,List.foldl_append,iF h]
 rfl
theorem Jt (t:Int) (args:List Int):∀ (k:Nat),k≤args.length→((args.take k).foldl (step t) (start t)).1.length≤64∧(((args.take k).foldl (step t) (start t)).2≠0→((args.take k).foldl (step t) (start t)).1=[])
 | 0,_=>⟨Cj t,EQ t⟩
 | k + 1,h=>by
  have ih:=Jt t args k (by omega)
  rw [Au t args (by omega)]
  unfold step
  split
  ·exact ⟨EP _ _ _,Iw _ _ _⟩
  ·exact ih
theorem ER (t:Int) (args:List Int) {k:Nat} (hk:k≤args.length) (h:((args.take k).foldl (step t) (start t)).2≠0):fold t args=(args.take k).foldl (step t) (start t):=by
 have:∀ (l:List Int) (x:List Int×Int),x.2≠0→l.foldl (step t) x=x:=by
  intro l
  induction l with
  | nil=>intro x _; rfl
  | cons a l ih =>
   intro x hx
   rw [List.foldl_cons,show step t x a=x from if_neg hx]
   exact ih x hx
 unfold fold
 conv=>lhs; rw [← List.take_append_drop k args]
 rw [List.foldl_append]
 exact this _ _ h
theorem yL (t:Int) {args:List Int} (hs:args.length < 2 ^ 62):fU t args=some (fold t args):=by
 unfold fU
 rw [xH]
 refine dV.1 ?_
 show Tri (iter _ ((start t).1,(start t).2,0)) _
 refine dC (k0:=0) args.length (fun k x=>x.2.2=(k:Int)∧(x.1,x.2.1)=(args.take k).foldl (step t) (start t)) (by omega) ⟨rfl,rfl⟩ ?_;rintro k ⟨l,e,x⟩ hk ⟨hx,hl⟩;replace hx:x=(k:Int):=hx;replace hl:(l,e)=(args.take k).foldl (step t) (start t):=hl;subst hx;have hf:=Jt t args k hk;unfold rJ;refine lX (fun h => ?_) (fun h => ?_)
 ·have h:(k:Int) < args.length:=of_decide_eq_true h;refine ai (by omega) (lX (fun h2 => ?_) (fun h2 => ?_))
  ·have h2:e≠0:=by simpa using h2
   refine ax (ag ?_)
   show (l,e)=_
   rw [ER t args hk (by rw [← hl]; exact h2),hl]
  ·have h2:e=0:=by simpa using h2
   rw [← hl] at hf
   rw [xG t _ (by have h9:l.length≤64:=hf.1; omega)]
   refine ⟨_,rfl,by omega,bn (by omega),?_⟩
   show app t l (idx args (k:Int))=_
   rw [Au t args (by omega),← hl,step,if_pos h2]
 ·have h:¬ (k:Int) < args.length:=of_decide_eq_false h;refine ax (ag ?_)
  show (l,e)=_
  rw [hl,fold,List.take_of_length_le (by omega)]
theorem Av {a b:List Int} (ha:a.length < 2 ^ 62):bG a b=some (decide (a=b)):=by
 unfold bG
 by_cases hl:a.length=b.length
 ·have:((a.length:Int) != (b.length:Int))=false:=by simp; omega
  rw [this,cond_false]
  refine dV.1 ?_;refine Gy a.length (fun k=>∀ j:Nat,j < k→idx a (j:Int)=idx b (j:Int)) (fun j h=>by omega) (fun k hk hJ => ?_);unfold gH;refine lX (fun h => ?_) (fun h => ?_)
  ·have h:(k:Int) < a.length:=of_decide_eq_true h;refine ai (by omega) (ai (by omega) (lX (fun h2 => ?_) (fun h2 => ?_)))
   ·have h2:idx a (k:Int)≠idx b (k:Int):=by simpa using h2
    refine ax (ag ?_)
    show false=_
    have:a≠b:=fun e=>h2 (by rw [e])
    simp [this]
   ·have h2:idx a (k:Int)=idx b (k:Int):=by simpa using h2
    refine ⟨_,rfl,bn (by omega),by omega,fun j hj => ?_⟩
    rcases Nat.lt_or_ge j k with h3 | h3
    ·exact hJ j h3
    ·have:j=k:=by omega
     subst this;exact h2
  ·have h:¬ (k:Int) < a.length:=of_decide_eq_false h;refine ax (ag ?_)
   show true=_
   have:a=b:=CK hl (fun j hj=>hJ j (by omega))
   simp [this]
 ·have:((a.length:Int) != (b.length:Int))=true:=by simp; omega
  rw [this,cond_true]
  have:a≠b:=fun e=>hl (by rw [e])
  simp [this]
end Go.Proofs.YtnlkggppokcmfaaT
namespace Go.Proofs.YtnlkggppokcmfaaT
open Go Go.Proofs Go.Proofs.YtnlkggppokcmfaaE
set_option linter.unusedVariables false
set_option linter.unusedSimpArgs false
theorem vY {a b:List Int} (ha:a.length < 2 ^ 62):dR a b=some (decide (a=b)):=by
 rw [← Av ha]
 rfl
def Fit (s args:List Int):Prop:=∀ k:Nat,k < args.length→idx args (k:Int) ∈ s∧idx args (k:Int) ∉ args.take k
instance (s args:List Int):Decidable (Fit s args):=by unfold Fit; infer_instance
def before (t:Int) (s args:List Int):List Int×Bool :=
 if chk t s≠0∨args=[] then ([],false)
 else if t=1 then ([],decide (s.length=1∧idx s 0=idx args ((args.length - 1:Nat):Int)))
 else if t=2 then (if args.length≤s.length∧s.drop (s.length - args.length)=args then (s.take (s.length - args.length),true) else ([],false))
 else if t=3 then (if Fit s args then (s.filter (fun x=>decide (x ∉ args)),true) else ([],false))
 else ([args.foldl (fun v a=>w64 (v - a)) (idx s 0)],true)
theorem Bo {s args:List Int} (hs:args.length < 2 ^ 62) (v:Int):iter (gm args) (v,0)=some ([args.foldl (fun v a=>w64 (v - a)) v],true):=by
 refine dV.1 ?_;refine zg args.length (fun k x=>x=(args.take k).foldl (fun v a=>w64 (v - a)) v) rfl (fun k x hk hJ => ?_);subst hJ;unfold gm;refine lX (fun h => ?_) (fun h => ?_)
 ·have h:(k:Int) < args.length:=of_decide_eq_true h;have hks:k < args.length:=by omega
  refine ai (by omega) ⟨_,rfl,bn (by omega),hks,?_⟩
  show _=List.foldl _ _ _
  rw [List.take_add_one,List.getElem?_eq_getElem hks,List.foldl_append,iF hks]
  rfl
 ·have h:¬ (k:Int) < args.length:=of_decide_eq_false h;refine ax (ag ?_)
  show ([_],true)=_
  rw [List.take_of_length_le (by omega)]
theorem wN {s args:List Int} (hs:s.length < 2 ^ 43) (ha:args.length < 2 ^ 62):dn () s args=some (if args.length≤s.length∧s.drop (s.length - args.length)=args then (s.take (s.length - args.length),true) else ([],false)):=by
 unfold dn
 by_cases hm:args.length≤s.length
 ·have e1:w64 ((s.length:Int) - (args.length:Int))=((s.length - args.length:Nat):Int):=by rw [ku (by omega) (by omega)]; omega
  have hlt:decide (w64 ((s.length:Int) - (args.length:Int)) < 0)=false:=decide_eq_false (by rw [e1]; omega)
  rw [hlt,cond_false,fT _ (by rw [e1]; omega),e1]
  have hsl:gP s ((s.length - args.length:Nat):Int) (s.length:Int)=s.drop (s.length - args.length):=by simp [gP]
  have a0:gP s (0:Int) ((s.length - args.length:Nat):Int)=s.take (s.length - args.length):=by simp [gP]
  rw [hsl,vY (by simp; omega)]
  simp only [Option.bind_some]
  unfold fO
  rw [e1,a0,fT _ (by omega)]
  have hc:cu (s.take (s.length - args.length))=some (s.take (s.length - args.length)):=fT _ (by simp; omega)
  rw [hc]
  by_cases he:s.drop (s.length - args.length)=args
  ·simp [he,hm]
  ·simp [he]
 ·have hlt:decide (w64 ((s.length:Int) - (args.length:Int)) < 0)=true:=decide_eq_true (by rw [ku (by omega) (by omega)]; omega)
  rw [hlt,cond_true,fO,cond_true,if_neg (fun h=>hm h.1)]
theorem Dm {s:List Int} (p:Int→Bool) (h:Asc s):Asc (s.filter p):=jG.2 ((jG.1 h).filter p)
theorem ES {args:List Int} {k:Nat} (h:k < args.length):args.take (k + 1)=args.take k++[idx args (k:Int)]:=by
 rw [List.take_add_one,List.getElem?_eq_getElem h,iF h]; rfl
theorem Ck {s args:List Int} {k:Nat} (h:k < args.length):s.filter (fun x=>decide (x ∉ args.take (k + 1)))=(s.filter (fun x=>decide (x ∉ args.take k))).filter (fun x=>decide (x≠idx args (k:Int))):=by
 rw [List.filter_filter]
 apply List.filter_congr
 intro x _
 rw [ES h]
 simp only [List.mem_append,List.mem_singleton,not_or]
 rw [Bool.eq_iff_iff]
 simp only [decide_eq_true_eq,Bool.and_eq_true]
 exact ⟨fun h=>⟨h.2,h.1⟩,fun h=>⟨h.2,h.1⟩⟩
theorem Dn {l:List Int} {a:Int} (hA:Asc l) (h:hit l a=true):l.take (lb l a)++l.drop (lb l a + 1)=l.filter (fun x=>decide (x≠a)):=by
 have hP:=List.pairwise_iff_getElem.1 (jG.1 hA)
 simp only [hit,Bool.and_eq_true,decide_eq_true_eq,beq_iff_eq] at h
 obtain ⟨h1,h2⟩:=h
 rw [iF h1] at h2
 generalize lb l a=i at h1 h2
 conv=>rhs; rw [← List.take_append_drop i l,List.drop_eq_getElem_cons h1,List.filter_append,List.filter_cons,h2]
 rw [if_neg (by simp)]
 congr 1
 ·symm
  rw [List.filter_eq_self]
  intro x hx;obtain ⟨j,hj,rfl⟩:=List.getElem_of_mem hx;have hj':j < i:=by simp at hj; omega
  have:=hP j i (by omega) h1 hj'
  rw [List.getElem_take,decide_eq_true_eq]
  omega
 ·symm
  rw [List.filter_eq_self]
  intro x hx;obtain ⟨j,hj,rfl⟩:=List.getElem_of_mem hx;have hj':i + 1 + j < l.length:=by simp at hj; omega
  have:=hP i (i + 1 + j) h1 hj' (by omega)
  rw [List.getElem_drop,decide_eq_true_eq]
  omega
theorem xI {s args:List Int} (hA:Asc s) (hs:s.length < 2 ^ 43) (ha:args.length < 2 ^ 62):dM () s args=some (if Fit s args then (s.filter (fun x=>decide (x ∉ args)),true) else ([],false)):=by
 unfold dM;have hc:cu s=some s:=fT _ (by omega)
 rw [hc]
 refine dV.1 ?_
 show Tri (iter (iO args) (s,0)) _
 refine zg args.length (fun k l=>l=s.filter (fun x=>decide (x ∉ args.take k))∧∀ j:Nat,j < k→idx args (j:Int) ∈ s∧idx args (j:Int) ∉ args.take j) ⟨by simp; exact (List.filter_eq_self.2 (fun _ _=>rfl)).symm,fun j h=>by omega⟩ (fun k l hk hJ => ?_)
 obtain ⟨hl,hJ⟩:=hJ;have hAl:Asc l:=by rw [hl]; exact Dm _ hA
 have hll:l.length≤s.length:=by rw [hl]; exact List.length_filter_le _ _
 unfold iO;refine lX (fun h => ?_) (fun h => ?_)
 ·have h:(k:Int) < args.length:=of_decide_eq_true h;have hks:k < args.length:=by omega
  refine ai (by omega) ?_
  rw [yn _ hAl (by omega)]
  have hm:=En (s:=l) (a:=idx args (k:Int)) hAl
  show Tri (bif !hit l (idx args (k:Int)) then _ else _) _
  cases hh:hit l (idx args (k:Int))
  ·simp only [Bool.not_false,cond_true]
   refine ax (ag ?_)
   show ([],false)=_
   have hn:¬ Fit s args:=by
    intro hF;have h1:=hF k hks;have:idx args (k:Int) ∈ l:=by rw [hl,List.mem_filter]; exact ⟨h1.1,by simpa using h1.2⟩
    rw [hm.2 this] at hh
    cases hh
   rw [if_neg hn]
  ·simp only [Bool.not_true,cond_false]
   have hi:=Ci l (idx args (k:Int));have hlt:lb l (idx args (k:Int)) < l.length:=by
    simp only [hit,Bool.and_eq_true,decide_eq_true_eq] at hh
    exact hh.1
   have hd:gQ l (lb l (idx args (k:Int)):Int) (w64 ((lb l (idx args (k:Int)):Int) + 1))=some (l.filter (fun x=>decide (x≠idx args (k:Int)))):=by
    unfold gQ
    rw [bn (by omega),fT _ ⟨by omega,by omega,by omega⟩,Int.toNat_natCast,Int.toNat_natCast,Dn hAl hh]
   rw [hd]
   refine ⟨_,rfl,bn (by omega),hks,?_,fun j hj => ?_⟩
   ·rw [Ck hks,← hl]
   ·rcases Nat.lt_or_ge j k with h3 | h3
    ·exact hJ j h3
    ·have:j=k:=by omega
     subst this;have hmem:=hm.1 hh
     rw [hl,List.mem_filter] at hmem
     exact ⟨hmem.1,by simpa using hmem.2⟩
 ·have h:¬ (k:Int) < args.length:=of_decide_eq_false h;have hF:Fit s args:=fun j hj=>hJ j (by omega);refine ax (ag ?_)
  show (l,true)=_
  rw [if_pos hF,hl,List.take_of_length_le (by omega)]
theorem FZ {s args:List Int} (ha:args.length < 2 ^ 62) (h0:args≠[]):fw () s args=some ([],decide (s.length=1∧idx s 0=idx args ((args.length - 1:Nat):Int))):=by
 unfold fw;have hp:0 < args.length:=List.length_pos_iff.2 h0;have e1:w64 ((args.length:Int) - 1)=((args.length - 1:Nat):Int):=jP ha hp
 rw [e1]
 by_cases h1:s.length=1
 ·have h2:((s.length:Int) == 1)=true:=by rw [beq_iff_eq]; omega
  rw [h2,cond_true,fT _ (by omega),fT _ (by omega)]
  simp [h1]
  rw [Bool.eq_iff_iff]; simp
 ·have h2:((s.length:Int) == 1)=false:=by rw [beq_eq_false_iff_ne]; omega
  rw [h2,cond_false]
  simp [h1]
theorem wO (t:Int) {s args:List Int} (hs:s.length < 2 ^ 62) (ha:args.length < 2 ^ 62):eX t s args=some (before t s args):=by
 unfold eX before
 rw [rY t hs]
 by_cases hc:chk t s=0
 ·obtain ⟨h1,h2,h3⟩:=FW hc;have hl:=FX h3
  simp only [hc,Option.bind_some,bne_self_eq_false,cond_false,ne_eq,not_true,false_or]
  by_cases h0:args=[]
  ·subst h0
   simp [iL]
  ·have hp:((args.length:Int) == 0)=false:=by
    have:0 < args.length:=List.length_pos_iff.2 h0
    rw [beq_eq_false_iff_ne]; omega
   rw [hp,if_neg h0]
   unfold iL;rcases four ⟨h1,h2⟩ with rfl | rfl | rfl | rfl
   ·simp [eQ,FZ ha h0]
   ·simp [eQ,wN (s:=s) (by omega) ha]
   ·simp [eQ,xI (FY h3) (by omega) ha]
   ·have:=ok_one h3
    simp [eQ,dA]
    rw [fT _ (by omega),Bo (s:=s) ha]
    simp
 ·have:(chk t s != 0)=true:=by simpa using hc
  simp [hc,this,iL]
theorem Bp (t:Int) (s args:List Int):(before t s args).1.length≤s.length + 1:=by
 unfold before
 split
 ·simp
 ·split
  ·simp
  ·split
   ·split <;> simp <;> omega
   ·split
    ·split
     ·exact Nat.le_trans (List.length_filter_le _ _) (by omega)
     ·simp
    ·simp
end Go.Proofs.YtnlkggppokcmfaaT
namespace Go.Proofs.YtnlkggppokcmfaaT
open Go Go.Proofs Go.Proofs.YtnlkggppokcmfaaE
set_option linter.unusedVariables false
set_option linter.unusedSimpArgs false
end Go.Proofs.YtnlkggppokcmfaaT
namespace Go.Proofs.YtnlkggppokcmfaaT
open Go Go.Proofs Go.Proofs.YtnlkggppokcmfaaE
set_option linter.unusedVariables false
set_option linter.unusedSimpArgs false
theorem Eo:∀ {s t:List Int},s.Pairwise (· < ·)→t.Pairwise (· < ·)→(∀ x,x ∈ s↔x ∈ t)→s=t
 | [],[],_,_,_=>rfl
 | [],y::t,_,_,h=>by have:=(h y).2 (by simp); cases this
 | x::s,[],_,_,h=>by have:=(h x).1 (by simp); cases this
 | x::s,y::t,hs,ht,h=>by
  rw [List.pairwise_cons] at hs ht
  have hxy:x=y:=by
   have h1:=(h x).1 (by simp);have h2:=(h y).2 (by simp);rcases List.mem_cons.1 h1 with e | h1
   ·exact e
   ·rcases List.mem_cons.1 h2 with e | h2
    ·exact e.symm
    ·have:=ht.1 _ h1;have:=hs.1 _ h2
     omega
  subst hxy
  rw [Eo hs.2 ht.2 (fun z => ?_)]
  constructor
  ·intro hz;rcases List.mem_cons.1 ((h z).1 (List.mem_cons_of_mem _ hz)) with e | h1
   ·have:=hs.1 _ hz; omega
   ·exact h1
  ·intro hz;rcases List.mem_cons.1 ((h z).2 (List.mem_cons_of_mem _ hz)) with e | h1
   ·have:=ht.1 _ hz; omega
   ·exact h1
theorem Bq:∀ {t s:List Int},s.Pairwise (· < ·)→t.Pairwise (· < ·)→(∀ x,x ∈ s→x ∈ t)→s.length≤t.length
 | [],[],_,_,_=>Nat.le_refl _
 | [],x::s,_,_,h=>by have:=h x (by simp); cases this
 | y::t,[],_,_,_=>by simp
 | y::t,x::s,hs,ht,h=>by
  have hs':=List.pairwise_cons.1 hs;have ht':=List.pairwise_cons.1 ht;rcases List.mem_cons.1 (h x (by simp)) with e | h1
  ·subst e;have:=Bq hs'.2 ht'.2 (fun z hz=>by
    rcases List.mem_cons.1 (h z (List.mem_cons_of_mem _ hz)) with e | h1
    ·have:=hs'.1 _ hz; omega
    ·exact h1)
   simp only [List.length_cons]
   omega
  ·have:=Bq hs ht'.2 (fun z hz=>by
    rcases List.mem_cons.1 (h z hz) with e | h2
    ·have h3:=ht'.1 _ h1;rcases List.mem_cons.1 hz with e2 | h4
     ·omega
     ·have:=hs'.1 _ h4; omega
    ·exact h2)
   simp only [List.length_cons] at this ⊢
   omega
theorem Iy {s:List Int} (a:Int) (h:Asc s):Asc (ins s a):=by
 cases hh:hit s a
 ·rw [Bn hh]
  have hP:=jG.1 h;have hG:=List.pairwise_iff_getElem.1 hP;have hgt:∀ x ∈ s.drop (lb s a),a < x:=by
   intro x hx;obtain ⟨j,hj,rfl⟩:=List.getElem_of_mem hx;have hj':lb s a + j < s.length:=by simp at hj; omega
   rw [List.getElem_drop]
   have h1:=Jr (s:=s) (a:=a) (by omega);have h2:idx s (lb s a:Int)≠a:=by
    intro e
    simp only [hit,e,beq_self_eq_true,Bool.and_true,decide_eq_false_iff_not] at hh
    omega
   rw [iF (by omega)] at h1 h2
   rcases Nat.eq_zero_or_pos j with h0 | h0
   ·subst h0; simp only [Nat.add_zero]; omega
   ·have:=hG (lb s a) (lb s a + j) (by omega) hj' (by omega)
    omega
  have hlt:∀ x ∈ s.take (lb s a),x < a:=by
   intro x hx;obtain ⟨j,hj,rfl⟩:=List.getElem_of_mem hx;have hj':j < lb s a:=by simp at hj; omega
   have:=Jq (s:=s) (a:=a) hj';have hl:=Ci s a
   rw [iF (by omega)] at this
   rw [List.getElem_take]
   exact this
  refine jG.2 (List.pairwise_append.2 ⟨List.pairwise_append.2 ⟨hP.sublist (List.take_sublist _ _),by simp,?_⟩,hP.sublist (List.drop_sublist _ _),?_⟩)
  ·intro x hx y hy
   rw [List.mem_singleton] at hy
   subst hy;exact hlt x hx
  ·intro x hx y hy;have hy:=hgt y hy;rcases List.mem_append.1 hx with hx | hx
   ·have:=hlt x hx; omega
   ·rw [List.mem_singleton] at hx; omega
 ·rw [Bl hh]; exact h
theorem Iz {s:List Int} {a x:Int} (h:Asc s):x ∈ ins s a↔x ∈ s∨x=a:=by
 cases hh:hit s a
 ·rw [Bn hh]
  have:x ∈ s↔x ∈ s.take (lb s a)∨x ∈ s.drop (lb s a):=by
   rw [← List.mem_append,List.take_append_drop]
  simp only [List.mem_append,List.mem_singleton,this]
  constructor
  ·rintro ((h | h) | h)
   ·exact .inl (.inl h)
   ·exact .inr h
   ·exact .inl (.inr h)
  ·rintro ((h | h) | h)
   ·exact .inl (.inl h)
   ·exact .inr h
   ·exact .inl (.inr h)
 ·rw [Bl hh]
  have:=(En h).1 hh
  constructor
  ·exact .inl
  ·rintro (h | rfl)
   ·exact h
   ·exact this
theorem Ga {t:Int} {s:List Int} (h:1≤t∧t≤4) (hs:SOk t s=true):chk t s=0:=by rw [Ar h,if_pos hs]
end Go.Proofs.YtnlkggppokcmfaaT
namespace Go.Proofs.YtnlkggppokcmfaaT
open Go Go.Proofs Go.Proofs.YtnlkggppokcmfaaE
set_option linter.unusedVariables false
set_option linter.unusedSimpArgs false
theorem Aw (t:Int) (args:List Int) (a:Int):fold t (args++[a])=step t (fold t args) a:=by simp [fold]
theorem zo {P:List Int→Prop} (h0:P []) (h1:∀ l a,P l→P (l++[a])):∀ l,P l:=by
 intro l;have:∀ n (l:List Int),l.length=n→P l:=by
  intro n
  induction n with
  | zero=>intro l hl; rw [List.eq_nil_of_length_eq_zero hl]; exact h0
  | succ n ih =>
   intro l hl;have hne:l≠[]:=by intro e; rw [e] at hl; cases hl
   rw [← List.dropLast_concat_getLast hne]
   exact h1 _ _ (ih _ (by simp; omega))
 exact this _ l rfl
theorem Gb:∀ args:List Int,fold 2 args=if args.length≤64 then (args,0) else ([],2):=by
 refine zo rfl (fun l a ih => ?_)
 rw [Aw,step,ih]
 by_cases h:l.length≤64
 ·have hc:chk 2 l=0:=Ga (by decide) (by simp [SOk,h])
  simp only [h,if_true,app,hc,next]
  by_cases h2:l.length + 1≤64
  ·simp [h2,show ¬ l.length + 1 > 64 by omega]
  ·simp [h2,show l.length + 1 > 64 by omega]
 ·simp [h,show ¬ l.length + 1≤64 by omega]
def sets (args:List Int):List Int:=args.foldl ins []
theorem rZ:∀ args:List Int,Asc (sets args)∧∀ x,x ∈ sets args↔x ∈ args:=by
 refine zo ⟨Bj,fun x=>Iff.rfl⟩ (fun l a ih => ?_);have e:sets (l++[a])=ins (sets l) a:=by simp [sets]
 rw [e]
 refine ⟨Iy a ih.1,fun x => ?_⟩
 rw [Iz ih.1,ih.2 x,List.mem_append,List.mem_singleton]
theorem ET (args:List Int) (a:Int):(sets args).length≤(sets (args++[a])).length :=
 Bq (jG.1 (rZ _).1) (jG.1 (rZ _).1) (fun x hx=>by rw [(rZ _).2] at hx ⊢; exact List.mem_append_left _ hx)
theorem Dp:∀ args:List Int,fold 3 args=if (sets args).length≤64 then (sets args,0) else ([],2):=by
 refine zo rfl (fun l a ih => ?_);have hm:=ET l a;have e:sets (l++[a])=ins (sets l) a:=by simp [sets]
 rw [Aw,step,ih]
 by_cases h:(sets l).length≤64
 ·have hc:chk 3 (sets l)=0:=Ga (by decide) (by simp [SOk,h,(rZ l).1])
  simp only [h,if_true,app,hc,next,← e]
  by_cases h2:(sets (l++[a])).length≤64
  ·simp [h2,show ¬ (sets (l++[a])).length > 64 by omega]
  ·simp [h2,show (sets (l++[a])).length > 64 by omega]
 ·simp [h,show ¬ (sets (l++[a])).length≤64 by omega]
end Go.Proofs.YtnlkggppokcmfaaT
namespace Go.Proofs.YtnlkggppokcmfaaT
open Go Go.Proofs Go.Proofs.YtnlkggppokcmfaaE
set_option linter.unusedVariables false
set_option linter.unusedSimpArgs false
def nT (c:Call) (k:Int):Prop :=
 1≤c.Kind∧c.Kind≤8∧1≤c.Key.size∧c.Key.size≤32 ∧
  (c.Kind≤4→c.Got=false∧c.Vals.length=0∧(c.Kind=4 → -1048576≤c.Arg∧c.Arg≤1048576)) ∧
  (5≤c.Kind→c.Arg=0∧(c.Got=true↔k=1)∧(c.Got=false→c.Vals.length=0) ∧
   (c.Got=true→(c.Kind=5→c.Vals.length≤1)∧(c.Kind=8→c.Vals.length=1)∧(c.Kind=7→Asc c.Vals)∧c.Vals.length≤64))
theorem Ay {k:ByteArray}:k=(⟨#[]⟩:ByteArray)↔k.size=0:=by
 constructor
 ·rintro rfl; rfl
 ·intro h;obtain ⟨a⟩:=k;have:a = #[]:=Array.eq_empty_of_size_eq_zero h
  rw [this]
theorem Gc {c:Call} (hs:c.Vals.length < 2 ^ 61):Tri (iter (oh c) 1) (fun r=>r=true↔(c.Kind=7→Asc c.Vals)):=by
 refine dC (k0:=1) (c.Vals.length + 1) (fun k x=>x=(k:Int)∧1≤k∧∀ j:Nat,j + 1 < k→j + 1 < c.Vals.length→idx c.Vals (j:Int) < idx c.Vals ((j + 1:Nat):Int)) (by omega) ⟨rfl,Nat.le_refl _,fun j h=>by omega⟩ ?_
 rintro k x hk ⟨rfl,a0,hJ⟩;unfold oh og
 dsimp only
 have e:=jP (k:=k) (by omega) a0;have e2:=bn (k:=k) (by omega)
 rw [e,e2]
 repeat' (first | contradiction | with_reducible refine au (fun hq => ?_) (fun hq => ?_) | with_reducible refine ai (by first | omega | grind [bv]) ?_ | with_reducible refine ax ?_ | with_reducible refine bJ ?_ | with_reducible refine bQ ?_ | with_reducible refine bR ?_ | with_reducible refine bS ?_ | with_reducible refine ag ?_)
 ·show false=true↔_
  have hl:¬ Asc c.Vals:=by
   intro hA;have:=hA (k - 1) (by omega)
   rw [show k - 1 + 1=k by omega] at this
   omega
  grind
 ·refine ⟨by omega,rfl,by omega,fun j hj hl => ?_⟩
  rcases Nat.lt_or_ge (j + 1) k with h3 | h3
  ·exact hJ j h3 hl
  ·have:j=k - 1:=by omega
   subst this
   rw [show k - 1 + 1=k by omega]
   omega
 ·show true=true↔_
  have hl:Asc c.Vals:=fun j hj=>hJ j (by omega) hj
  grind
 ·show true=true↔_
  grind
theorem yM (c:Call) (k:Int) (hs:c.Vals.length < 2 ^ 61):Tri (bI c k) (fun r=>r=true↔nT c k):=by
 unfold bI jQ oo om sG nT
 simp only [cond_true,cond_false]
 have he:=Ay (k:=c.Key)
 repeat' (first | contradiction | with_reducible refine au (fun hq => ?_) (fun hq => ?_) | with_reducible refine ai (by first | omega | grind [bv]) ?_ | with_reducible refine ax ?_ | with_reducible refine bJ ?_ | with_reducible refine bQ ?_ | with_reducible refine bR ?_ | with_reducible refine bS ?_ | with_reducible refine ag ?_ | refine dU (Gc hs) (fun r hr => ?_))
 all_goals grind
theorem IA {c:Call} (hs:c.Vals.length < 2 ^ 61) (hc:c.Kind=7):Tri (iter (lI c) 1) (fun r=>r=true↔(Asc c.Vals∧c.Vals.length≤64)):=by
 refine dC (k0:=1) (c.Vals.length + 1) (fun k x=>x=(k:Int)∧1≤k∧∀ j:Nat,j + 1 < k→j + 1 < c.Vals.length→idx c.Vals (j:Int) < idx c.Vals ((j + 1:Nat):Int)) (by omega) ⟨rfl,Nat.le_refl _,fun j h=>by omega⟩ ?_
 rintro k x hk ⟨rfl,a0,hJ⟩;unfold lI jh
 dsimp only
 have e:=jP (k:=k) (by omega) a0;have e2:=bn (k:=k) (by omega)
 rw [e,e2]
 repeat' (first | contradiction | with_reducible refine au (fun hq => ?_) (fun hq => ?_) | with_reducible refine ai (by first | omega | grind [bv]) ?_ | with_reducible refine ax ?_ | with_reducible refine bJ ?_ | with_reducible refine bQ ?_ | with_reducible refine bR ?_ | with_reducible refine bS ?_ | with_reducible refine ag ?_)
 ·show false=true↔_
  have hl:¬ Asc c.Vals:=by
   intro hA;have:=hA (k - 1) (by omega)
   rw [show k - 1 + 1=k by omega] at this
   omega
  grind
 ·refine ⟨by omega,rfl,by omega,fun j hj hl => ?_⟩
  rcases Nat.lt_or_ge j (k - 1) with h3 | h3
  ·exact hJ j (by omega) hl
  ·have:j=k - 1:=by omega
   subst this
   rw [show k - 1 + 1=k by omega]
   omega
 ·show decide _=true↔_
  have hl:Asc c.Vals:=fun j hj=>hJ j (by omega) hj
  grind
theorem Ag (c:Call) (k:Int) (hs:c.Vals.length < 2 ^ 61):Tri (aT c k) (fun r=>r=true↔nT c k):=by
 unfold aT gV gU jh nT
 simp only [cond_true,cond_false]
 have ha:c.Vals.length=0→Asc c.Vals:=fun h j hj=>by omega
 repeat' (first | contradiction | with_reducible refine au (fun hq => ?_) (fun hq => ?_) | with_reducible refine ai (by first | omega | grind [bv]) ?_ | with_reducible refine ax ?_ | with_reducible refine bJ ?_ | with_reducible refine bQ ?_ | with_reducible refine bR ?_ | with_reducible refine bS ?_ | with_reducible refine ag ?_ | refine dU (IA hs (by assumption)) (fun r hr => ?_))
 all_goals grind
def Small (l:List Call):Prop:=l.length < 2 ^ 61∧qM l (fun c=>c.Vals.length < 2 ^ 61)
theorem Gd {l:List Call} {e:Event} (hs:Small l):Tri (cZ l e) (fun r=>r=true ↔ ¬ qM l (fun c=>nT c e.Kind)):=by
 have h1:Tri (aZ l e) (fun r=>0≤r ↔ ¬ qM l (fun c=>nT c e.Kind)):=by
  have hl:=hs.1;unfold aZ;refine lv l.length (fun j=>nT (idx l (j:Int)) e.Kind) ?_;intro k hk hJ;unfold eD pJ
  dsimp only
  repeat' (first | contradiction | with_reducible refine au (fun hq => ?_) (fun hq => ?_) | with_reducible refine ai (by first | omega | grind [bv]) ?_ | with_reducible refine ax ?_ | with_reducible refine bJ ?_ | with_reducible refine bQ ?_ | with_reducible refine bR ?_ | with_reducible refine bS ?_ | with_reducible refine ag ?_ | refine dP (yM _ _ (hs.2 k (by omega))) (fun r hr => ?_))
  all_goals grind [Nxt,qM,bv]
 unfold cZ;refine dP h1 (fun r hr => ?_)
 repeat' (first | contradiction | with_reducible refine au (fun hq => ?_) (fun hq => ?_) | with_reducible refine ai (by first | omega | grind [bv]) ?_ | with_reducible refine ax ?_ | with_reducible refine bJ ?_ | with_reducible refine bQ ?_ | with_reducible refine bR ?_ | with_reducible refine bS ?_ | with_reducible refine ag ?_)
 grind
def vZ (e:Event):Prop:=0≤e.Kind∧e.Kind≤3∧e.Calls.length≤16∧qM e.Calls (fun c=>nT c e.Kind)
theorem yN {e:Event} (hs:Small e.Calls):Tri (eY [e]) (fun r=>(r=0↔vZ e)∧(r=0∨r=1)):=by
 unfold eY;refine au (fun h => ?_) (fun h => ?_)
 ·simp at h
 ·refine lv 1 (fun j=>vZ e) ?_;intro k hk hJ;unfold rA lL
  dsimp only
  have hi:k=0→idx [e] (k:Int)=e:=by rintro rfl; rfl
  simp only [cond_true,cond_false]
  have hc:=fun h:k=0=>Gd (l:=e.Calls) (e:=e) hs
  by_cases h0:k=0
  ·rw [hi h0]
   repeat' (first | contradiction | with_reducible refine au (fun hq => ?_) (fun hq => ?_) | with_reducible refine ai (by first | omega | grind [bv]) ?_ | with_reducible refine ax ?_ | with_reducible refine bJ ?_ | with_reducible refine bQ ?_ | with_reducible refine bR ?_ | with_reducible refine bS ?_ | with_reducible refine ag ?_ | refine dP (hc h0) (fun r hr => ?_))
   all_goals grind [Nxt,vZ,bv]
  ·repeat' (first | contradiction | with_reducible refine au (fun hq => ?_) (fun hq => ?_) | with_reducible refine ai (by first | omega | grind [bv]) ?_ | with_reducible refine ax ?_ | with_reducible refine bJ ?_ | with_reducible refine bQ ?_ | with_reducible refine bR ?_ | with_reducible refine bS ?_ | with_reducible refine ag ?_ | refine dP (hc (by grind)) (fun r hr => ?_))
   all_goals grind [Nxt,vZ,bv]
theorem zq {e:Event} (hs:Small e.Calls):Tri (df e) (fun r=>r=true↔vZ e):=by
 unfold df iU
 simp only [cond_true,cond_false]
 have hl:=hs.1;have h1:Tri (iter (kP e) 0) (fun r=>r=true↔qM e.Calls (fun c=>nT c e.Kind)):=by
  refine lv e.Calls.length (fun j=>nT (idx e.Calls (j:Int)) e.Kind) ?_;intro k hk hJ;unfold kP
  dsimp only
  repeat' (first | contradiction | with_reducible refine au (fun hq => ?_) (fun hq => ?_) | with_reducible refine ai (by first | omega | grind [bv]) ?_ | with_reducible refine ax ?_ | with_reducible refine bJ ?_ | with_reducible refine bQ ?_ | with_reducible refine bR ?_ | with_reducible refine bS ?_ | with_reducible refine ag ?_ | refine dP (Ag _ _ (hs.2 k (by omega))) (fun r hr => ?_))
  all_goals grind [Nxt,qM,bv]
 repeat' (first | contradiction | with_reducible refine au (fun hq => ?_) (fun hq => ?_) | with_reducible refine ai (by first | omega | grind [bv]) ?_ | with_reducible refine ax ?_ | with_reducible refine bJ ?_ | with_reducible refine bQ ?_ | with_reducible refine bR ?_ | with_reducible refine bS ?_ | with_reducible refine ag ?_ | refine dU h1 (fun r hr => ?_))
 all_goals grind [vZ]
theorem yO {e:Event} (hs:Small e.Calls):Tri (gI [e]) (fun r=>(r=0↔vZ e)∧(r=0∨r=1)):=by
 unfold gI;refine au (fun h => ?_) (fun h => ?_)
 ·simp at h
 ·refine lv 1 (fun j=>vZ e) ?_;intro k hk hJ;unfold oH
  dsimp only
  have hi:k=0→idx [e] (k:Int)=e:=by rintro rfl; rfl
  have hc:k=0→Tri (df (idx [e] (k:Int))) (fun r=>r=true↔vZ e):=fun h0=>by rw [hi h0]; exact zq hs
  repeat' (first | contradiction | with_reducible refine au (fun hq => ?_) (fun hq => ?_) | with_reducible refine ai (by first | omega | grind [bv]) ?_ | with_reducible refine ax ?_ | with_reducible refine bJ ?_ | with_reducible refine bQ ?_ | with_reducible refine bR ?_ | with_reducible refine bS ?_ | with_reducible refine ag ?_ | refine dP (hc (by grind)) (fun r hr => ?_))
  all_goals grind [Nxt,bv]
def ql (h:History) (o:Op):Call:=⟨o.Kind,idx h.Keys o.Key,o.Arg,o.Got,o.Vals⟩
def bT (h:History) (t:Txn):List Call:=t.Ops.map (ql h)
def uy (h:History) (t:Txn):Event:=⟨0,t.Status,bT h t⟩
def sS (h:History) (t:Txn):Prop:=qM t.Ops (fun o=>0≤o.Key∧o.Key < (h.Keys.length:Int))
def zt (t:Txn):Prop:=t.Ops.length * 56≤140737488351232∧qM t.Ops (fun o=>o.Vals.length * 8≤140737488351232)
theorem zt.small {h:History} {t:Txn} (hs:zt t) (k:Nat):Small ((bT h t).take k):=by
 have h1:=hs.1;refine ⟨by simp [bT]; omega,fun j hj => ?_⟩
 have hj':j < k∧j < t.Ops.length:=by simp [bT] at hj; omega
 rw [uQ hj'.1,bT,rq hj'.2]
 have:=hs.2 j hj'.2
 show (idx t.Ops (j:Int)).Vals.length < _
 omega
theorem xJ {h:History} {t:Txn} (hs:zt t):Tri (dH h t) (fun r=>(r.2=true↔sS h t∧vZ (uy h t))∧(r.2=true→r.1=uy h t)):=by
 unfold dH;have hl:=hs.1;refine zg t.Ops.length (fun k l=>l=(bT h t).take k∧∀ j:Nat,j < k→0≤(idx t.Ops (j:Int)).Key∧(idx t.Ops (j:Int)).Key < (h.Keys.length:Int)) ⟨rfl,by omega⟩ ?_
 rintro k l hk ⟨rfl,hJ⟩;have hlen:((bT h t).take k).length=k:=by simp [bT]; omega
 unfold pY mG pX
 simp only [cond_true,cond_false,hlen]
 have hsm:=yN (e:=⟨0,t.Status,(bT h t).take k⟩) (hs.small k);have hfull:k=t.Ops.length→(bT h t).take k=bT h t:=fun e=>List.take_of_length_le (by simp [bT]; omega);have hnext:k < t.Ops.length→(bT h t).take (k + 1)=(bT h t).take k++[ql h (idx t.Ops (k:Int))]:=fun hk=>by
  rw [pV (by simpa [bT] using hk),bT,rq hk]
 repeat' (first | contradiction | with_reducible refine au (fun hq => ?_) (fun hq => ?_) | with_reducible refine ai (by first | omega | grind [bv]) ?_ | with_reducible refine ax ?_ | with_reducible refine bJ ?_ | with_reducible refine bQ ?_ | with_reducible refine bR ?_ | with_reducible refine bS ?_ | with_reducible refine ag ?_ | refine dP hsm (fun r hr => ?_))
 all_goals grind [Up2,sS,qM,bv,ql,uy]
def Az (l:List Txn) (i:Nat):Prop:=∀ j:Nat,j < i → ¬ ((idx l (j:Int)).Proc=(idx l (i:Int)).Proc∧((idx l (j:Int)).To = -1∨(idx l (j:Int)).To ≥ (idx l (i:Int)).From))
def uK (l:List Txn) (i:Nat):Prop :=
 1≤(idx l (i:Int)).Status∧(idx l (i:Int)).Status≤3∧0≤(idx l (i:Int)).From∧((idx l (i:Int)).To = -1→(idx l (i:Int)).Status=3) ∧
  ((idx l (i:Int)).To ≠ -1→(idx l (i:Int)).From < (idx l (i:Int)).To)∧(0 < i→(idx l ((i - 1:Nat):Int)).From < (idx l (i:Int)).From)∧Az l i
theorem EU {l:List Txn} {i:Nat} (hi:i < l.length) (hl:l.length < 2 ^ 61):Tri (cB (gP l 0 (i:Int)) (idx l (i:Int))) (fun r=>r=true ↔ ¬ Az l i):=by
 have h1:Tri (aX (gP l 0 (i:Int)) (idx l (i:Int))) (fun r=>0≤r ↔ ¬ Az l i):=by
  rw [kV (by omega)]
  unfold aX;have ht:(l.take i).length=i:=by simp; omega
  refine lv i (fun j => ¬ ((idx l (j:Int)).Proc=(idx l (i:Int)).Proc∧((idx l (j:Int)).To = -1∨(idx l (j:Int)).To ≥ (idx l (i:Int)).From))) ?_;intro k hk hJ;unfold eu mH
  dsimp only
  rw [ht]
  have hx:k < i→idx (l.take i) (k:Int)=idx l (k:Int):=fun h=>uQ h
  repeat' (first | contradiction | with_reducible refine au (fun hq => ?_) (fun hq => ?_) | with_reducible refine ai (by first | omega | grind [bv]) ?_ | with_reducible refine ax ?_ | with_reducible refine bJ ?_ | with_reducible refine bQ ?_ | with_reducible refine bR ?_ | with_reducible refine bS ?_ | with_reducible refine ag ?_)
  all_goals grind [Nxt,Az,bv]
 unfold cB;refine dP h1 (fun r hr => ?_)
 repeat' (first | contradiction | with_reducible refine au (fun hq => ?_) (fun hq => ?_) | with_reducible refine ai (by first | omega | grind [bv]) ?_ | with_reducible refine ax ?_ | with_reducible refine bJ ?_ | with_reducible refine bQ ?_ | with_reducible refine bR ?_ | with_reducible refine bS ?_ | with_reducible refine ag ?_)
 grind
theorem wP {l:List Txn} {i:Nat} (hi:i < l.length) (hl:l.length < 2 ^ 61):Tri (bF (gP l 0 (i:Int)) (idx l (i:Int))) (fun r=>r=true↔uK l i):=by
 have hf:=EU hi hl;have hlen:(gP l 0 (i:Int)).length=i:=by rw [kV (by omega)]; simp; omega
 have hx:0 < i→idx (gP l 0 (i:Int)) (w64 ((i:Int) - 1))=idx l ((i - 1:Nat):Int):=fun h=>by
  rw [jP (by omega) (by omega),kV (by omega),uQ (by omega)]
 have hw:0 < i→w64 ((i:Int) - 1)=((i - 1:Nat):Int):=fun h=>jP (by omega) (by omega);unfold bF lU lT lS jK uK
 simp only [cond_true,cond_false,hlen]
 repeat' (first | contradiction | with_reducible refine au (fun hq => ?_) (fun hq => ?_) | with_reducible refine ai (by first | omega | grind [bv]) ?_ | with_reducible refine ax ?_ | with_reducible refine bJ ?_ | with_reducible refine bQ ?_ | with_reducible refine bR ?_ | with_reducible refine bS ?_ | with_reducible refine ag ?_ | refine dP hf (fun r hr => ?_))
 all_goals grind
theorem tY {l:List Txn} {i:Nat} (hi:i < l.length) (hl:l.length < 2 ^ 61):Tri (aJ l (i:Int)) (fun r=>r=true↔uK l i):=by
 have h1:Tri (iter (jV l (i:Int)) 0) (fun r=>r=true↔Az l i):=by
  refine lv i (fun j => ¬ ((idx l (j:Int)).Proc=(idx l (i:Int)).Proc∧((idx l (j:Int)).To = -1∨(idx l (j:Int)).To ≥ (idx l (i:Int)).From))) ?_;intro k hk hJ;unfold jV iD
  simp only [cond_true,cond_false]
  repeat' (first | contradiction | with_reducible refine au (fun hq => ?_) (fun hq => ?_) | with_reducible refine ai (by first | omega | grind [bv]) ?_ | with_reducible refine ax ?_ | with_reducible refine bJ ?_ | with_reducible refine bQ ?_ | with_reducible refine bR ?_ | with_reducible refine bS ?_ | with_reducible refine ag ?_)
  all_goals grind [Nxt,Az,bv]
 have hw:0 < i→w64 ((i:Int) - 1)=((i - 1:Nat):Int):=fun h=>jP (by omega) (by omega);unfold aJ dB jW uK
 simp only [cond_true,cond_false]
 repeat' (first | contradiction | with_reducible refine au (fun hq => ?_) (fun hq => ?_) | with_reducible refine ai (by first | omega | grind [bv]) ?_ | with_reducible refine ax ?_ | with_reducible refine bJ ?_ | with_reducible refine bQ ?_ | with_reducible refine bR ?_ | with_reducible refine bS ?_ | with_reducible refine ag ?_ | refine dU h1 (fun r hr => ?_))
 all_goals grind
def Ep (l:List ByteArray) (s:ByteArray) (r:Int):Prop :=
 (r = -1∧∀ j:Nat,j < l.length→idx l (j:Int)≠s)∨(∃ k:Nat,r=(k:Int)∧k < l.length∧idx l (k:Int)=s∧∀ j:Nat,j < k→idx l (j:Int)≠s)
theorem xK {l:List ByteArray} {s:ByteArray} (hl:l.length < 2 ^ 61):Tri (fe l s) (Ep l s):=by
 unfold fe;refine lv l.length (fun j=>idx l (j:Int)≠s) ?_;intro k hk hJ;unfold pz
 dsimp only
 repeat' (first | contradiction | with_reducible refine au (fun hq => ?_) (fun hq => ?_) | with_reducible refine ai (by first | omega | grind [bv]) ?_ | with_reducible refine ax ?_ | with_reducible refine bJ ?_ | with_reducible refine bQ ?_ | with_reducible refine bR ?_ | with_reducible refine bS ?_ | with_reducible refine ag ?_)
 ·exact .inr ⟨k,rfl,by omega,by assumption,hJ⟩
 ·grind [Nxt,bv]
 ·exact .inl ⟨rfl,fun j hj=>hJ j (by omega)⟩
def wh (l:List ByteArray) (i:Nat):Prop:=1≤(idx l (i:Int)).size∧(idx l (i:Int)).size≤32∧∀ j:Nat,j < i→idx l (j:Int)≠idx l (i:Int)
def ng (l:List ByteArray):Prop:=l.length≤32∧∀ i:Nat,i < l.length→wh l i
theorem Ah {l:List ByteArray} {s:ByteArray} (hl:l.length < 2 ^ 61):Tri (slices_Contains_string l s) (fun r=>r=true↔∃ j:Nat,j < l.length∧idx l (j:Int)=s):=by
 have h1:Tri (slices_Index_string l s) (fun r=>0≤r↔∃ j:Nat,j < l.length∧idx l (j:Int)=s):=by
  unfold slices_Index_string;refine lv l.length (fun j=>idx l (j:Int)≠s) ?_;intro k hk hJ;unfold jA
  dsimp only
  repeat' (first | contradiction | with_reducible refine au (fun hq => ?_) (fun hq => ?_) | with_reducible refine ai (by first | omega | grind [bv]) ?_ | with_reducible refine ax ?_ | with_reducible refine bJ ?_ | with_reducible refine bQ ?_ | with_reducible refine bR ?_ | with_reducible refine bS ?_ | with_reducible refine ag ?_)
  all_goals grind [Nxt,bv]
 unfold slices_Contains_string;refine dP h1 (fun r hr => ?_)
 repeat' (first | contradiction | with_reducible refine au (fun hq => ?_) (fun hq => ?_) | with_reducible refine ai (by first | omega | grind [bv]) ?_ | with_reducible refine ax ?_ | with_reducible refine bJ ?_ | with_reducible refine bQ ?_ | with_reducible refine bR ?_ | with_reducible refine bS ?_ | with_reducible refine ag ?_)
 grind
theorem zu {l:List ByteArray} (hl:l.length < 2 ^ 61):Tri (dG l) (fun r=>r=true↔ng l):=by
 unfold dG;refine lv l.length (wh l) ?_;intro k hk hJ;unfold oG iT
 simp only [cond_true,cond_false]
 have hf:Tri (fe (gP l 0 (k:Int)) (idx l (k:Int))) (fun r=>0≤r↔∃ j:Nat,j < k∧idx l (j:Int)=idx l (k:Int)):=by
  rw [kV (by omega)]
  refine dU (xK (by simp; omega)) (fun r hr => ?_);have ht:(l.take k).length=k:=by simp; omega
  have hx:∀ j:Nat,j < k→idx (l.take k) (j:Int)=idx l (j:Int):=fun j h=>uQ h;unfold Ep at hr
  rw [ht] at hr
  grind
 have hN:ng l→k < l.length→wh l k:=fun h hk=>h.2 k hk
 repeat' (first | contradiction | with_reducible refine au (fun hq => ?_) (fun hq => ?_) | with_reducible refine ai (by first | omega | grind [bv]) ?_ | with_reducible refine ax ?_ | with_reducible refine bJ ?_ | with_reducible refine bQ ?_ | with_reducible refine bR ?_ | with_reducible refine bS ?_ | with_reducible refine ag ?_ | refine dP hf (fun r hr => ?_))
 all_goals (have hNk:wh l k↔(1≤(idx l (k:Int)).size∧(idx l (k:Int)).size≤32∧∀ j:Nat,j < k→idx l (j:Int)≠idx l (k:Int)):=Iff.rfl)
 all_goals grind [Nxt,ng,bv]
end Go.Proofs.YtnlkggppokcmfaaT
namespace Go.Proofs.YtnlkggppokcmfaaT
open Go Go.Proofs Go.Proofs.YtnlkggppokcmfaaE
set_option linter.unusedVariables false
set_option linter.unusedSimpArgs false
def typ (k:Int):Int:=(k - 1) % 4 + 1
theorem uL {k:Int} (h1:1≤k) (h2:k≤8):kX k=some (typ k):=by
 have:k=1∨k=2∨k=3∨k=4∨k=5∨k=6∨k=7∨k=8:=by omega
 rcases this with h | h | h | h | h | h | h | h <;> subst h <;> decide
theorem ze {k:Int} (h1:1≤k) (h2:k≤8):kQ k=some (typ k):=by
 have:k=1∨k=2∨k=3∨k=4∨k=5∨k=6∨k=7∨k=8:=by omega
 rcases this with h | h | h | h | h | h | h | h <;> subst h <;> decide
structure Sim (g:aQ) (b:aA) (n:Nat):Prop where
 keys:g.keys=b.keys
 types:g.types=b.types
 len:b.keys.length≤32
 tl:b.types.length=b.keys.length
 wl:b.wrote.length=b.keys.length
 il:b.incs.length=b.keys.length
 ll:b.last_.length=b.keys.length
 nd:∀ i j:Nat,i < b.keys.length→j < b.keys.length→idx b.keys (i:Int)=idx b.keys (j:Int)→i=j
 has:∀ s,nY g.at_ s=true↔∃ j:Nat,j < b.keys.length∧idx b.keys (j:Int)=s
 at_:∀ j:Nat,j < b.keys.length→mat g.at_ (idx b.keys (j:Int))=(j:Int)
 facts:∀ j:Nat,j < b.keys.length→∀ a,nY g.facts ⟨idx b.keys (j:Int),a⟩=true↔∃ m:Nat,m < (idx b.wrote (j:Int)).length∧idx (idx b.wrote (j:Int)) (m:Int)=a
 fout:∀ s a,nY g.facts ⟨s,a⟩=true→∃ j:Nat,j < b.keys.length∧idx b.keys (j:Int)=s
 wn:∀ j:Nat,j < b.keys.length→(idx b.wrote (j:Int)).length≤n
 incs:∀ j:Nat,j < b.keys.length→((mat g.incs (idx b.keys (j:Int))).length:Int)=idx b.incs (j:Int)
 i8:∀ j:Nat,j < b.keys.length→(mat g.incs (idx b.keys (j:Int))).length≤8
 iout:∀ s,(∀ j:Nat,j < b.keys.length→idx b.keys (j:Int)≠s)→mat g.incs s=[]
 last:∀ j:Nat,j < b.keys.length→((mat g.incs (idx b.keys (j:Int))).length=0→idx b.last_ (j:Int) = -1) ∧
  (0 < (mat g.incs (idx b.keys (j:Int))).length→idx b.last_ (j:Int)=idx (mat g.incs (idx b.keys (j:Int))) (((mat g.incs (idx b.keys (j:Int))).length - 1:Nat):Int))
theorem Sim.start:Sim ⟨[],[],[],[],[]⟩ ⟨[],[],[],[],[]⟩ 0:=by
 refine ⟨rfl,rfl,by simp,rfl,rfl,rfl,rfl,?_,?_,?_,?_,?_,?_,?_,?_,?_,?_⟩
 all_goals simp [Gw,IX]
 rfl
theorem Sim.mono {g:aQ} {b:aA} {n m:Nat} (h:Sim g b n) (hm:n≤m):Sim g b m :=
 { h with wn:=fun j hj=>Nat.le_trans (h.wn j hj) hm }
theorem Sim.new {g:aQ} {b:aA} {n:Nat} (h:Sim g b n) {s:ByteArray} {t:Int} (hn:∀ j:Nat,j < b.keys.length→idx b.keys (j:Int)≠s) (a1:b.keys.length < 32) :
  Sim ⟨g.keys++[s],gW g.at_ s (g.keys.length:Int),g.types++[t],g.facts,g.incs⟩ ⟨b.keys++[s],b.types++[t],b.wrote++[[]],b.incs++[0],b.last_++[-1]⟩ n:=by
 have hk:=h.keys;have hl:(b.keys++[s]).length=b.keys.length + 1:=by simp
 have k1:∀ j:Nat,j < b.keys.length→idx (b.keys++[s]) (j:Int)=idx b.keys (j:Int):=fun j hj=>iZ hj;have k2:idx (b.keys++[s]) ((b.keys.length:Nat):Int)=s:=iG rfl;have w1:∀ j:Nat,j < b.keys.length→idx (b.wrote++[[]]) (j:Int)=idx b.wrote (j:Int):=fun j hj=>iZ (by rw [h.wl]; exact hj);have w2:idx (b.wrote++[[]]) ((b.keys.length:Nat):Int)=[]:=iG h.wl.symm;have i1:∀ j:Nat,j < b.keys.length→idx (b.incs++[0]) (j:Int)=idx b.incs (j:Int):=fun j hj=>iZ (by rw [h.il]; exact hj);have i2:idx (b.incs++[0]) ((b.keys.length:Nat):Int)=0:=iG h.il.symm;have l1:∀ j:Nat,j < b.keys.length→idx (b.last_++[-1]) (j:Int)=idx b.last_ (j:Int):=fun j hj=>iZ (by rw [h.ll]; exact hj);have l2:idx (b.last_++[-1]) ((b.keys.length:Nat):Int) = -1:=iG h.ll.symm;have a0:=h.iout s hn;have cut:∀ j:Nat,j < b.keys.length + 1→j < b.keys.length∨j=b.keys.length:=by omega
 refine ⟨by simp [hk],by simp [h.types],by simp; omega,by simp [h.tl],by simp [h.wl],by simp [h.il],by simp [h.ll],?_,?_,?_,?_,?_,?_,?_,?_,?_,?_⟩
 ·intro i j hi hj he
  dsimp only at hi hj he
  rw [hl] at hi hj
  have:=h.nd i j;rcases cut i hi with hi' | hi' <;> rcases cut j hj with hj' | hj' <;> grind
 ·intro x
  dsimp only
  rw [zL,hl,h.has]
  constructor
  ·rintro (rfl | ⟨j,hj,he⟩)
   ·exact ⟨_,Nat.lt_succ_self _,k2⟩
   ·exact ⟨j,by omega,(k1 j hj).trans he⟩
  ·rintro ⟨j,hj,he⟩;rcases cut j hj with hj' | hj'
   ·exact .inr ⟨j,hj',(k1 j hj') ▸ he⟩
   ·subst hj'; exact .inl (k2.symm.trans he).symm
 ·intro j hj
  dsimp only at hj ⊢
  rw [hl] at hj
  rw [tq,hk]
  rcases cut j hj with hj' | hj'
  ·rw [k1 j hj',if_neg (hn j hj')]; exact h.at_ j hj'
  ·subst hj'; rw [k2,if_pos rfl]
 ·intro j hj a
  dsimp only at hj ⊢
  rw [hl] at hj
  rcases cut j hj with hj' | hj'
  ·rw [k1 j hj',w1 j hj']; exact h.facts j hj' a
  ·subst hj'
   rw [k2,w2]
   constructor
   ·intro hh;obtain ⟨i,hi,he⟩:=h.fout s a hh;exact absurd he (hn i hi)
   ·rintro ⟨m,hm,_⟩; simp at hm
 ·intro x a hh;obtain ⟨i,hi,he⟩:=h.fout x a hh;exact ⟨i,by simp; omega,(k1 i hi).trans he⟩
 ·intro j hj
  dsimp only at hj ⊢
  rw [hl] at hj
  rcases cut j hj with hj' | hj'
  ·rw [w1 j hj']; exact h.wn j hj'
  ·subst hj'; rw [w2]; simp
 ·intro j hj
  dsimp only at hj ⊢
  rw [hl] at hj
  rcases cut j hj with hj' | hj'
  ·rw [k1 j hj',i1 j hj']; exact h.incs j hj'
  ·subst hj'; rw [k2,i2,a0]; rfl
 ·intro j hj
  dsimp only at hj ⊢
  rw [hl] at hj
  rcases cut j hj with hj' | hj'
  ·rw [k1 j hj']; exact h.i8 j hj'
  ·subst hj'; rw [k2,a0]; simp
 ·intro x hx
  dsimp only at hx ⊢
  rw [hl] at hx
  exact h.iout x (fun j hj=>by rw [← k1 j hj]; exact hx j (by omega))
 ·intro j hj
  dsimp only at hj ⊢
  rw [hl] at hj
  rcases cut j hj with hj' | hj'
  ·rw [k1 j hj',l1 j hj']; exact h.last j hj'
  ·subst hj'; rw [k2,l2,a0]; simp
theorem Sim.write {g:aQ} {b:aA} {n k:Nat} (h:Sim g b n) {s:ByteArray} {a:Int} (hk:k < b.keys.length) (hs:idx b.keys (k:Int)=s) :
  Sim ⟨g.keys,g.at_,g.types,gW g.facts ⟨s,a⟩ (),g.incs⟩ ⟨b.keys,b.types,b.wrote.set k (idx b.wrote (k:Int)++[a]),b.incs,b.last_⟩ (n + 1):=by
 have w1:∀ j:Nat,idx (b.wrote.set k (idx b.wrote (k:Int)++[a])) (j:Int)=if j=k then idx b.wrote (k:Int)++[a] else idx b.wrote (j:Int):=fun j=>oV (by rw [h.wl]; exact hk);refine ⟨h.keys,h.types,h.len,h.tl,by simp [h.wl],h.il,h.ll,h.nd,h.has,h.at_,?_,?_,?_,h.incs,h.i8,h.iout,h.last⟩
 ·intro j hj x
  dsimp only at hj ⊢
  rw [zL,w1 j,h.facts j hj]
  by_cases e:j=k
  ·subst e
   rw [if_pos rfl,hs]
   constructor
   ·rintro (he | ⟨m,hm,he⟩)
    ·have:x=a:=by injection he
     subst this;exact ⟨_,by simp,iG rfl⟩
    ·exact ⟨m,by simp; omega,(iZ hm).trans he⟩
   ·rintro ⟨m,hm,he⟩;rcases Nat.lt_or_ge m (idx b.wrote (j:Int)).length with h1 | h1
    ·exact .inr ⟨m,h1,(iZ h1).symm.trans he⟩
    ·simp at hm
     rw [iG (by omega)] at he
     rw [he]; exact .inl rfl
  ·rw [if_neg e]
   constructor
   ·rintro (he | hh)
    ·injection he with h1 h2
     exact absurd (h.nd j k hj hk (h1.trans hs.symm)) e
    ·exact hh
   ·exact .inr
 ·intro x y hh
  dsimp only at hh ⊢
  rcases zL.1 hh with he | hh
  ·injection he with h1 h2
   exact ⟨k,hk,hs.trans h1.symm⟩
  ·exact h.fout x y hh
 ·intro j hj
  dsimp only at hj ⊢
  rw [w1 j]
  have:=h.wn j hj
  split
  ·rename_i e; subst e; simp; omega
  ·omega
theorem Sim.inc {g:aQ} {b:aA} {n k:Nat} (h:Sim g b n) {s:ByteArray} {a:Int} (hk:k < b.keys.length) (hs:idx b.keys (k:Int)=s) (h8:(mat g.incs s).length < 8) :
  Sim ⟨g.keys,g.at_,g.types,g.facts,gW g.incs s (mat g.incs s++[a])⟩ ⟨b.keys,b.types,b.wrote,b.incs.set k (idx b.incs (k:Int) + 1),b.last_.set k a⟩ n:=by
 have i1:∀ j:Nat,idx (b.incs.set k (idx b.incs (k:Int) + 1)) (j:Int)=if j=k then idx b.incs (k:Int) + 1 else idx b.incs (j:Int):=fun j=>oV (by rw [h.il]; exact hk);have l1:∀ j:Nat,idx (b.last_.set k a) (j:Int)=if j=k then a else idx b.last_ (j:Int):=fun j=>oV (by rw [h.ll]; exact hk);have hne:∀ j:Nat,j < b.keys.length→j≠k→idx b.keys (j:Int)≠s:=fun j hj e he=>e (h.nd j k hj hk (he.trans hs.symm));refine ⟨h.keys,h.types,h.len,h.tl,h.wl,by simp [h.il],by simp [h.ll],h.nd,h.has,h.at_,h.facts,h.fout,h.wn,?_,?_,?_,?_⟩
 ·intro j hj
  dsimp only at hj ⊢
  rw [tq,i1 j]
  by_cases e:j=k
  ·subst e
   rw [if_pos hs,if_pos rfl,← h.incs j hj,hs]; simp
  ·rw [if_neg (hne j hj e),if_neg e]; exact h.incs j hj
 ·intro j hj
  dsimp only at hj ⊢
  rw [tq]
  by_cases e:j=k
  ·subst e
   rw [if_pos hs]; simp; omega
  ·rw [if_neg (hne j hj e)]; exact h.i8 j hj
 ·intro x hx
  dsimp only at hx ⊢
  rw [tq,if_neg (fun e=>hx k hk (hs.trans e.symm))]
  exact h.iout x hx
 ·intro j hj
  dsimp only at hj ⊢
  rw [tq,l1 j]
  by_cases e:j=k
  ·subst e
   rw [if_pos hs,if_pos rfl]
   refine ⟨fun h0=>by simp at h0,fun _ => ?_⟩
   rw [iG (by simp)]
  ·rw [if_neg (hne j hj e),if_neg e]; exact h.last j hj
theorem Dq {c:Call} {who:Int} {a1:List ByteArray} {a2:List Int} {a0:List (List Int)} {a4 a3:List Int} {k:Nat} {Q:Int×aA→Prop} (hk:k < a0.length) (hb:(idx a0 (k:Int)).length≤4096)
  (h1:(∃ m:Nat,m < (idx a0 (k:Int)).length∧idx (idx a0 (k:Int)) (m:Int)=c.Arg)→Q (3,⟨a1,a2,a0,a4,a3⟩))
  (h2:(¬ ∃ m:Nat,m < (idx a0 (k:Int)).length∧idx (idx a0 (k:Int)) (m:Int)=c.Arg)→Tri (eG c who a1 a2 a4 a3 (k:Int) (a0.set k (idx a0 (k:Int)++[c.Arg]))) Q) :
  Tri (iter (iH c who a1 a2 a0 a4 a3 (k:Int)) 0) Q:=by
 refine lv (idx a0 (k:Int)).length (fun m=>idx (idx a0 (k:Int)) (m:Int)≠c.Arg) ?_;intro m hm hJ;unfold iH
 dsimp only
 rw [Int.toNat_natCast]
 repeat' (first | contradiction | with_reducible refine au (fun hq => ?_) (fun hq => ?_) | with_reducible refine ai (by first | omega | grind [bv]) ?_ | with_reducible refine ax ?_ | with_reducible refine bJ ?_ | with_reducible refine bQ ?_ | with_reducible refine bR ?_ | with_reducible refine bS ?_ | with_reducible refine ag ?_)
 ·exact h1 ⟨m,by omega,by assumption⟩
 ·grind [Nxt,bv]
 ·exact h2 (by grind)
def Both (r:Int×aQ) (n:Nat) (r':Int×aA):Prop:=r.1=r'.1∧(r.1=0→Sim r.2 r'.2 n)
def Dr (b:aA) (c:Call) (who:Int) (k:Nat) (r:Int×aA):Prop :=
 (idx b.types (k:Int)≠typ c.Kind∧r=(50,b)) ∨
 (idx b.types (k:Int)=typ c.Kind∧(c.Kind=2∨c.Kind=3)∧(∃ m:Nat,m < (idx b.wrote (k:Int)).length∧idx (idx b.wrote (k:Int)) (m:Int)=c.Arg)∧r=(3,b)) ∨
 (idx b.types (k:Int)=typ c.Kind∧(c.Kind=2∨c.Kind=3)∧(¬ ∃ m:Nat,m < (idx b.wrote (k:Int)).length∧idx (idx b.wrote (k:Int)) (m:Int)=c.Arg) ∧
  r=(0,⟨b.keys,b.types,b.wrote.set k (idx b.wrote (k:Int)++[c.Arg]),b.incs,b.last_⟩)) ∨
 (idx b.types (k:Int)=typ c.Kind∧c.Kind=4∧idx b.last_ (k:Int)≠who∧idx b.incs (k:Int) + 1 > 8∧r.1=51) ∨
 (idx b.types (k:Int)=typ c.Kind∧c.Kind=4∧idx b.last_ (k:Int)≠who∧idx b.incs (k:Int) + 1≤8 ∧
  r=(0,⟨b.keys,b.types,b.wrote,b.incs.set k (idx b.incs (k:Int) + 1),b.last_.set k who⟩)) ∨
 (idx b.types (k:Int)=typ c.Kind∧c.Kind=4∧idx b.last_ (k:Int)=who∧r=(0,b)) ∨
 (idx b.types (k:Int)=typ c.Kind∧c.Kind≠2∧c.Kind≠3∧c.Kind≠4∧r=(0,b))
theorem Br {b:aA} {k:Nat} {c:Call} {who:Int} (hk:k < b.keys.length) (t1:b.types.length=b.keys.length) (t2:b.wrote.length=b.keys.length) (t3:b.incs.length=b.keys.length)
  (t4:b.last_.length=b.keys.length) (hwr:(idx b.wrote (k:Int)).length≤4096) (hin:0≤idx b.incs (k:Int)∧idx b.incs (k:Int)≤8)
  (h1:1≤c.Kind) (h8:c.Kind≤8):Tri (dQ c who b.keys b.types b.wrote b.incs b.last_ (k:Int)) (Dr b c who k):=by
 have e1:w64 (idx b.incs (k:Int) + 1)=idx b.incs (k:Int) + 1:=bv (by omega) (by omega);have e2:idx (b.incs.set k (idx b.incs (k:Int) + 1)) (k:Int)=idx b.incs (k:Int) + 1:=by rw [oV (by omega),if_pos rfl]
 unfold dQ iI eG fH fG
 simp only [cond_true,cond_false,ze h1 h8,Int.toNat_natCast,e1,e2]
 repeat' (first | contradiction | with_reducible refine au (fun hq => ?_) (fun hq => ?_) | with_reducible refine ai (by first | omega | grind [bv]) ?_ | with_reducible refine ax ?_ | with_reducible refine bJ ?_ | with_reducible refine bQ ?_ | with_reducible refine bR ?_ | with_reducible refine bS ?_ | with_reducible refine ag ?_ | refine Dq (by omega) hwr (fun h => ?_) (fun h => ?_))
 all_goals try unfold eG fH fG
 all_goals try simp only [cond_true,cond_false,Int.toNat_natCast,e1,e2]
 repeat' (first | contradiction | with_reducible refine au (fun hq => ?_) (fun hq => ?_) | with_reducible refine ai (by first | omega | grind [bv]) ?_ | with_reducible refine ax ?_ | with_reducible refine bJ ?_ | with_reducible refine bQ ?_ | with_reducible refine bR ?_ | with_reducible refine bS ?_ | with_reducible refine ag ?_)
 all_goals grind [Dr]
theorem enter_at {g:aQ} {b:aA} {n k:Nat} {a0:aQ} {c:Call} {who:Int} (h:Sim g b n) (hf:a0.facts=g.facts) (hi:a0.incs=g.incs) (hk:k < b.keys.length) (hs:idx b.keys (k:Int)=c.Key)
  (h1:1≤c.Kind) (h8:c.Kind≤8) (hw:0≤who) (hn:n≤2048) :
  Tri (fM a0 c who g.keys g.at_ g.types (k:Int)) (fun r=>Tri (dQ c who b.keys b.types b.wrote b.incs b.last_ (k:Int)) (Both r (n + 1))):=by
 obtain ⟨gk,ga,gt,gf,gi⟩:=g
 dsimp only at hf hi
 have htl:=h.types;have hkk:=h.keys
 dsimp only at htl hkk ⊢
 subst htl hkk;have t1:=h.tl;have t2:=h.wl;have t3:=h.il;have t4:=h.ll;have hfa:=h.facts k hk c.Arg;have hin:=h.incs k hk;have a1:=h.i8 k hk;have hla:=h.last k hk;have hwr:=h.wn k hk
 rw [hs] at hfa hin a1 hla
 dsimp only at hfa hin a1 hla
 obtain ⟨r',hr',spec⟩:=Br (who:=who) hk t1 t2 t3 t4 (by omega) (by omega) h1 h8;have s0:=h.mono (Nat.le_succ n);have s1:=h.write (a:=c.Arg) hk hs;have s2:(mat gi c.Key).length < 8→_:=fun hl=>(h.inc (a:=who) hk hs hl).mono (Nat.le_succ n)
 dsimp only at s1 s2
 have e3:0 < (mat gi c.Key).length→w64 (((mat gi c.Key).length:Int) - 1)=(((mat gi c.Key).length - 1:Nat):Int):=fun h=>jP (by omega) (by omega);have m1:mat (gW gi c.Key (mat gi c.Key++[who])) c.Key=mat gi c.Key++[who]:=by rw [tq,if_pos rfl]
 unfold fM iB jT iA iy fK
 simp only [cond_true,cond_false,uL h1 h8,hf,hi,m1]
 repeat' (first | contradiction | with_reducible refine au (fun hq => ?_) (fun hq => ?_) | with_reducible refine ai (by first | omega | grind [bv]) ?_ | with_reducible refine ax ?_ | with_reducible refine bJ ?_ | with_reducible refine bQ ?_ | with_reducible refine bR ?_ | with_reducible refine bS ?_ | with_reducible refine ag ?_)
 all_goals refine ⟨r',hr',?_⟩
 all_goals unfold Dr at spec
 all_goals simp only [Both]
 all_goals grind
theorem Dt {g:aQ} {b:aA} {n:Nat} {c:Call} {who:Int} (h:Sim g b n) (h1:1≤c.Kind) (h8:c.Kind≤8) (hw:0≤who) (hn:n≤2048) :
  Tri (av g c who) (fun r=>Tri (ah b c who) (Both r (n + 1))):=by
 have hl:=h.len;have t1:=h.tl;have t2:=h.wl;have t3:=h.il;have t4:=h.ll;have hk:=h.keys;have ht:=h.types;obtain ⟨r0,a3,hf⟩:=xK (l:=b.keys) (s:=c.Key) (by omega);rcases hf with ⟨rfl,hno⟩ | ⟨k,rfl,a1,a2,_⟩
 ·have hm:¬ nY g.at_ c.Key=true:=fun hh=>by
   obtain ⟨j,hj,he⟩:=(h.has c.Key).1 hh;exact hno j hj he
  unfold av ah jU
  simp only [a3,uL h1 h8,hk,ht]
  refine au (fun _ => ?_) (fun hh=>absurd hm hh);refine au (fun a4 => ?_) (fun a4 => ?_)
  ·refine ag (bJ ?_)
   repeat' (first | contradiction | with_reducible refine au (fun hq => ?_) (fun hq => ?_) | with_reducible refine ai (by first | omega | grind [bv]) ?_ | with_reducible refine ax ?_ | with_reducible refine bJ ?_ | with_reducible refine bQ ?_ | with_reducible refine bR ?_ | with_reducible refine bS ?_ | with_reducible refine ag ?_)
   ·exact ⟨rfl,fun h=>by cases h⟩
   ·omega
  ·have hS:=h.new (s:=c.Key) (t:=typ c.Kind) hno (by omega)
   rw [hk,ht] at hS
   have he:=enter_at (a0:=g) (who:=who) hS rfl rfl (k:=b.keys.length) (by simp) (iG rfl) h1 h8 hw hn
   dsimp only at he
   refine ai (by omega) (bJ (ai (by omega) ?_));refine dU he (fun r hr => ?_);unfold iK iJ
   simp only [ze h1 h8]
   repeat' (first | contradiction | with_reducible refine au (fun hq => ?_) (fun hq => ?_) | with_reducible refine ai (by first | omega | grind [bv]) ?_ | with_reducible refine ax ?_ | with_reducible refine bJ ?_ | with_reducible refine bQ ?_ | with_reducible refine bR ?_ | with_reducible refine bS ?_ | with_reducible refine ag ?_ | exact hr)
   omega
 ·have hm:nY g.at_ c.Key=true:=(h.has c.Key).2 ⟨k,a1,a2⟩;have hat:mat g.at_ c.Key=(k:Int):=by rw [← a2]; exact h.at_ k a1
  have he:=enter_at (a0:=g) (who:=who) h rfl rfl a1 a2 h1 h8 hw hn;unfold av ah
  simp only [a3,hat]
  refine au (fun hh=>absurd hm hh) (fun _ => ?_);refine dU he (fun r hr=>bJ ?_)
  repeat' (first | contradiction | with_reducible refine au (fun hq => ?_) (fun hq => ?_) | with_reducible refine ai (by first | omega | grind [bv]) ?_ | with_reducible refine ax ?_ | with_reducible refine bJ ?_ | with_reducible refine bQ ?_ | with_reducible refine bR ?_ | with_reducible refine bS ?_ | with_reducible refine ag ?_ | exact hr)
abbrev GS:=List ByteArray×(List (ByteArray×Int))×List Int×(List (bU×Unit))×(List (ByteArray×(List Int)))×Int
abbrev BS:=List ByteArray×List Int×(List (List Int))×List Int×List Int×Int
def Cm (g:aQ) (x:Int):GS:=(g.keys,g.at_,g.types,g.facts,g.incs,x)
def wQ (b:aA) (x:Int):BS:=(b.keys,b.types,b.wrote,b.incs,b.last_,x)
def Go1 (i n:Nat):GS ⊕ (Int ⊕ Int)→(List Call×Int) ⊕ (BS ⊕ Int)→Prop
 | .inl s,.inr (.inl t)=>∃ g b,s=Cm g ((i + 1:Nat):Int)∧t=wQ b ((i + 1:Nat):Int)∧Sim g b n
 | .inr (.inr a),.inr (.inr b)=>a=1∧b=1
 | _,_=>False
theorem enters {g:aQ} {b:aA} {n i:Nat} {l:List Call} {y:Event×Bool} (h:Sim g b n) (hy:y.1.Calls=l) (hl:l.length≤16) (hi:i < 64) (hn:n≤1024) (hc:qM l (fun c=>1≤c.Kind∧c.Kind≤8)) :
  Tri (iter (mI (i:Int) y) (Cm g 0)) (fun x=>Tri (iter (fq (i:Int) l) (wQ b 0)) (Go1 i (n + 16) x)):=by
 refine xY l.length (fun k s t=>∃ g b,s=Cm g (k:Int)∧t=wQ b (k:Int)∧Sim g b (n + k)) (Nat.zero_le _) ⟨g,b,rfl,rfl,h⟩ ?_;rintro k s t hk ⟨g,b,rfl,rfl,hS⟩;unfold mI fq Cm wQ
 dsimp only
 rw [hy]
 refine au (fun h => ?_) (fun h => ?_)
 ·refine ai (by omega) ?_;obtain ⟨r,hr,r',hr',hb⟩:=Dt (who:=(i:Int)) hS (hc k (by omega)).1 (hc k (by omega)).2 (by omega) (by omega);refine bY hr ?_;have hw:w64 ((k:Int) + 1)=((k + 1:Nat):Int):=bn (by omega)
  rw [hw]
  repeat' (first | contradiction | with_reducible refine au (fun hq => ?_) (fun hq => ?_) | with_reducible refine ai (by first | omega | grind [bv]) ?_ | with_reducible refine ax ?_ | with_reducible refine bJ ?_ | with_reducible refine bQ ?_ | with_reducible refine bR ?_ | with_reducible refine bS ?_ | with_reducible refine ag ?_ | refine bY hr' ?_)
  ·exact ⟨rfl,rfl⟩
  ·exact absurd (by rw [hb.1]; omega) ‹r.1≠0›
  ·exact absurd (by rw [← hb.1]; omega) ‹r'.1≠0›
  ·exact ⟨by omega,r.2,r'.2,rfl,rfl,hb.2 (by omega)⟩
 ·have hw:w64 ((i:Int) + 1)=((i + 1:Nat):Int):=bn (by omega)
  rw [hw]
  repeat' (first | contradiction | with_reducible refine au (fun hq => ?_) (fun hq => ?_) | with_reducible refine ai (by first | omega | grind [bv]) ?_ | with_reducible refine ax ?_ | with_reducible refine bJ ?_ | with_reducible refine bQ ?_ | with_reducible refine bR ?_ | with_reducible refine bS ?_ | with_reducible refine ag ?_)
  exact ⟨g,b,rfl,rfl,hS.mono (by omega)⟩
theorem Bt {h:History} {i:Nat} {b:aA} {Q:BS ⊕ Int→Prop} (hi:i < h.Txns.length) (hs:zt (idx h.Txns (i:Int))) (a1:(idx h.Txns (i:Int)).Ops.length≤16)
  (h1:¬ (sS h (idx h.Txns (i:Int))∧vZ (uy h (idx h.Txns (i:Int))))→Q (.inr 1))
  (h2:sS h (idx h.Txns (i:Int))→vZ (uy h (idx h.Txns (i:Int)))→Tri (iter (fq (i:Int) (bT h (idx h.Txns (i:Int)))) (wQ b 0)) (fun x=>match x with | .inl _=>False | .inr y=>Q y)) :
  Tri (iter (fu h b.keys b.types b.wrote b.incs b.last_ (i:Int)) ([],0)) Q:=by
 generalize ht:idx h.Txns (i:Int)=t at hs a1 h1 h2;refine zg t.Ops.length (fun k l=>l=(bT h t).take k∧∀ j:Nat,j < k→0≤(idx t.Ops (j:Int)).Key∧(idx t.Ops (j:Int)).Key < (h.Keys.length:Int)) ⟨rfl,by omega⟩ ?_
 rintro k l hk ⟨rfl,hJ⟩;have hlen:((bT h t).take k).length=k:=by simp [bT]; omega
 unfold fu kR oI
 simp only [cond_true,cond_false,hlen,ht]
 have hsm:=yO (e:=⟨0,t.Status,(bT h t).take k⟩) (hs.small k);have hfull:k=t.Ops.length→(bT h t).take k=bT h t:=fun e=>List.take_of_length_le (by simp [bT]; omega);have hnext:k < t.Ops.length→(bT h t).take (k + 1)=(bT h t).take k++[ql h (idx t.Ops (k:Int))]:=fun hk=>by
  rw [pV (by simpa [bT] using hk),bT,rq hk]
 have hw:w64 ((k:Int) + 1)=((k + 1:Nat):Int):=bn (by omega)
 rw [hw]
 repeat' (first | contradiction | with_reducible refine au (fun hq => ?_) (fun hq => ?_) | with_reducible refine ai (by first | omega | grind [bv]) ?_ | with_reducible refine ax ?_ | with_reducible refine bJ ?_ | with_reducible refine bQ ?_ | with_reducible refine bR ?_ | with_reducible refine bS ?_ | with_reducible refine ag ?_ | refine dP hsm (fun r hr => ?_))
 ·grind [Up2,sS,qM]
 ·grind [Up2,sS,qM]
 ·grind [Up2,ql]
 ·have a0:k=t.Ops.length:=by omega
  rw [hfull a0] at hr
  refine h1 (fun hh => ?_);have:=hr.1.2 hh.2
  contradiction
 ·have a0:k=t.Ops.length:=by omega
  rw [hfull a0] at hr ⊢
  have hK:sS _ t:=fun j hj=>hJ j (by omega);refine dU (h2 hK (hr.1.1 (by omega))) ?_;rintro (x | y) hxy
  ·exact hxy.elim
  ·exact hxy
def wR (h:History) (i:Nat):Prop:=uK h.Txns i∧sS h (idx h.Txns (i:Int))∧vZ (uy h (idx h.Txns (i:Int)))
def sU (h:History):Prop:=h.Keys.length * 16≤140737488351232∧h.Txns.length * 56≤140737488351232∧qM h.Txns zt
theorem EW {h:History} (hs:sU h) (hN:ng h.Keys) (a8:h.Txns.length≤32) :
  Tri (iter (kI h) (Cm ⟨[],[],[],[],[]⟩ 0)) (fun x=>Tri (iter (iW h) (wQ ⟨[],[],[],[],[]⟩ 0)) (fun y=>(∃ v,x = .inr v∧v=y)∧(y=0∨y=1))):=by
 obtain ⟨a7,a9,a1⟩:=hs;refine xY h.Txns.length (fun k s t=>∃ g b,s=Cm g (k:Int)∧t=wQ b (k:Int)∧Sim g b (k * 16)∧∀ j:Nat,j < k→wR h j) (Nat.zero_le _) ⟨_,_,rfl,rfl,Sim.start,fun j hj=>absurd hj (Nat.not_lt_zero _)⟩ ?_;rintro k s t hk ⟨g,b,rfl,rfl,hS,hJ⟩;unfold kI mJ iW iV Cm wQ
 simp only [cond_true,cond_false]
 refine au (fun a5 => ?_) (fun a5 => ?_)
 ·have a0:k < h.Txns.length:=by omega
  obtain ⟨r,hr,a4,a6⟩:=xJ (h:=h) (a1 k a0);obtain ⟨p,hp,a2⟩:=wP (l:=h.Txns) a0 (by omega);obtain ⟨p',hp',hp1'⟩:=tY (l:=h.Txns) a0 (by omega);have hco:vZ (uy h (idx h.Txns (k:Int)))→(idx h.Txns (k:Int)).Ops.length≤16:=fun he=>by
   have:=he.2.2.1
   simpa [uy,bT] using this
  refine ai (by omega) (bY hr ?_)
  by_cases hok:wR h k
  ·have e1:r.2=true:=a4.2 ⟨hok.2.1,hok.2.2⟩;have e2:p=true:=a2.2 hok.1;have e3:p'=true:=hp1'.2 hok.1;have hc:qM (bT h (idx h.Txns (k:Int))) (fun c=>1≤c.Kind∧c.Kind≤8):=fun j hj=>⟨(hok.2.2.2.2.2 j hj).1,(hok.2.2.2.2.2 j hj).2.1⟩;obtain ⟨x,hx,y,hy,hxy⟩:=enters (y:=r) (i:=k) hS (congrArg Event.Calls (a6 e1)) hok.2.2.2.2.1 (by omega) (by omega) hc;refine au (fun h=>absurd e1 h) (fun _ => ?_);refine ai (by omega) (bY hp ?_);refine au (fun h=>absurd e2 h) (fun _ => ?_);refine ⟨x,hx,?_⟩
   repeat' (first | contradiction | with_reducible refine au (fun hq => ?_) (fun hq => ?_) | with_reducible refine ai (by first | omega | grind [bv]) ?_ | with_reducible refine ax ?_ | with_reducible refine bJ ?_ | with_reducible refine bQ ?_ | with_reducible refine bR ?_ | with_reducible refine bS ?_ | with_reducible refine ag ?_ | refine bY hp' ?_)
   ·exact absurd (hco hok.2.2) (by omega)
   ·refine Bt a0 (a1 k a0) (hco hok.2.2) (fun hn=>absurd ⟨hok.2.1,hok.2.2⟩ hn) (fun _ _=>⟨y,hy,?_⟩);rcases x with s | a | a <;> rcases y with t | t | t
    ·exact hxy.elim
    ·obtain ⟨g',b',rfl,rfl,hS'⟩:=hxy;refine ⟨by omega,g',b',rfl,rfl,(show k * 16 + 16=(k + 1) * 16 by omega) ▸ hS',fun j hj => ?_⟩
     rcases Nat.lt_or_ge j k with h1 | h1
     ·exact hJ j h1
     ·rw [show j=k by omega]; exact hok
    ·exact hxy.elim
    ·exact hxy.elim
    ·exact hxy.elim
    ·exact hxy.elim
    ·exact hxy.elim
    ·exact hxy.elim
    ·obtain ⟨rfl,rfl⟩:=hxy;exact ⟨⟨1,rfl,rfl⟩,.inr rfl⟩
  ·have h1:Tri (iter (fu h b.keys b.types b.wrote b.incs b.last_ (k:Int)) ([],0)) (fun y=>p'=true→(idx h.Txns (k:Int)).Ops.length≤16→y = .inr 1) ∨ ¬ ((idx h.Txns (k:Int)).Ops.length≤16) ∨ ¬ p'=true:=by
    by_cases a3:(idx h.Txns (k:Int)).Ops.length≤16
    ·by_cases h3:p'=true
     ·refine .inl (Bt a0 (a1 k a0) a3 (fun _ _ _=>rfl) (fun q1 q2=>absurd ⟨hp1'.1 h3,q1,q2⟩ hok))
     ·exact .inr (.inr h3)
    ·exact .inr (.inl a3)
   have hend:Tri (aJ h.Txns (k:Int)) (fun y=>Tri (bif !y then (out (some 1):Option (BS ⊕ Int)) else bif decide ((((idx h.Txns (k:Int)).Ops).length:Int) > 16) then out (some 1) else iter (fu h b.keys b.types b.wrote b.incs b.last_ (k:Int)) ([],0)) (fun y=>y = .inr 1)):=by
    refine ⟨p',hp',?_⟩
    repeat' (first | contradiction | with_reducible refine au (fun hq => ?_) (fun hq => ?_) | with_reducible refine ai (by first | omega | grind [bv]) ?_ | with_reducible refine ax ?_ | with_reducible refine bJ ?_ | with_reducible refine bQ ?_ | with_reducible refine bR ?_ | with_reducible refine bS ?_ | with_reducible refine ag ?_)
    ·rfl
    ·rfl
    ·rcases h1 with h1 | h1 | h1
     ·exact dU h1 (fun y hy=>hy (Decidable.of_not_not ‹¬¬p'=true›) (by omega))
     ·omega
     ·contradiction
   have hend2:∀ {Q:BS ⊕ Int→Prop},Q (.inr 1)→Tri ((aJ h.Txns (k:Int)).bind fun y=>bif !y then (out (some 1):Option (BS ⊕ Int)) else bif decide ((((idx h.Txns (k:Int)).Ops).length:Int) > 16) then out (some 1) else iter (fu h b.keys b.types b.wrote b.incs b.last_ (k:Int)) ([],0)) Q:=by
    intro Q hQ;refine dP hend (fun y hy=>dU hy ?_);rintro _ rfl;exact hQ
   repeat' (first | contradiction | with_reducible refine au (fun hq => ?_) (fun hq => ?_) | with_reducible refine ai (by first | omega | grind [bv]) ?_ | with_reducible refine ax ?_ | with_reducible refine bJ ?_ | with_reducible refine bQ ?_ | with_reducible refine bR ?_ | with_reducible refine bS ?_ | with_reducible refine ag ?_ | refine bY hp ?_)
   ·refine hend2 ?_;exact ⟨⟨1,rfl,rfl⟩,.inr rfl⟩
   ·refine hend2 ?_;exact ⟨⟨1,rfl,rfl⟩,.inr rfl⟩
   ·exact absurd ⟨a2.1 (by grind),a4.1 (by grind)⟩ hok
 ·repeat' (first | contradiction | with_reducible refine au (fun hq => ?_) (fun hq => ?_) | with_reducible refine ai (by first | omega | grind [bv]) ?_ | with_reducible refine ax ?_ | with_reducible refine bJ ?_ | with_reducible refine bQ ?_ | with_reducible refine bR ?_ | with_reducible refine bS ?_ | with_reducible refine ag ?_)
  exact ⟨⟨0,rfl,rfl⟩,.inl rfl⟩
theorem xL {h:History} (hs:sU h):Tri (aG h) (fun v=>Tri (aj h) (fun v'=>v=v'∧(v=0∨v=1))):=by
 obtain ⟨a2,a4,a3⟩:=hs;obtain ⟨y,hy,hn⟩:=zu (l:=h.Keys) (by omega);have hT:=fun hN a0=>EW (h:=h) ⟨a2,a4,a3⟩ hN a0;have hfail:¬ (ng h.Keys∧h.Txns.length≤32)→aj h=some 1:=by
  intro hno;refine dV.1 ?_;unfold aj gz
  simp only [cond_true,cond_false]
  repeat' (first | contradiction | with_reducible refine au (fun hq => ?_) (fun hq => ?_) | with_reducible refine ai (by first | omega | grind [bv]) ?_ | with_reducible refine ax ?_ | with_reducible refine bJ ?_ | with_reducible refine bQ ?_ | with_reducible refine bR ?_ | with_reducible refine bS ?_ | with_reducible refine ag ?_ | refine bY hy ?_)
  ·rfl
  ·rfl
  ·exact absurd ⟨hn.1 (Decidable.of_not_not ‹¬¬y=true›),by omega⟩ hno
 have hgood:ng h.Keys→h.Txns.length≤32→Tri (iter (kI h) (Cm ⟨[],[],[],[],[]⟩ 0)) (fun x=>Tri (aj h) (fun v'=>x = .inr v'∧(v'=0∨v'=1))):=by
  intro hN a0;refine dU (hT hN a0) (fun x hx => ?_);unfold aj gz
  simp only [cond_true,cond_false]
  have:=hn.2 hN
  repeat' (first | contradiction | with_reducible refine au (fun hq => ?_) (fun hq => ?_) | with_reducible refine ai (by first | omega | grind [bv]) ?_ | with_reducible refine ax ?_ | with_reducible refine bJ ?_ | with_reducible refine bQ ?_ | with_reducible refine bR ?_ | with_reducible refine bS ?_ | with_reducible refine ag ?_ | refine bY hy ?_)
  ·omega
  ·refine dU hx (fun v hv => ?_);obtain ⟨⟨v2,rfl,rfl⟩,h2⟩:=hv;exact ⟨rfl,h2⟩
 have hbad:¬ (ng h.Keys∧h.Txns.length≤32)→Tri (aj h) (fun v'=>(1:Int)=v'∧((1:Int)=0∨(1:Int)=1)):=fun hno=>⟨1,hfail hno,rfl,.inr rfl⟩;unfold aG mK
 simp only [cond_true,cond_false]
 repeat' (first | contradiction | with_reducible refine au (fun hq => ?_) (fun hq => ?_) | with_reducible refine ai (by first | omega | grind [bv]) ?_ | with_reducible refine ax ?_ | with_reducible refine bJ ?_ | with_reducible refine bQ ?_ | with_reducible refine bR ?_ | with_reducible refine bS ?_ | with_reducible refine ag ?_)
 ·exact hbad (fun hh=>by have:=hh.1.1; omega)
 ·exact hbad (fun hh=>by have:=hh.2; omega)
 ·refine lv h.Keys.length (wh h.Keys) ?_;intro k hk hJ;unfold qa kH
  simp only [cond_true,cond_false]
  have hf:k < h.Keys.length→Tri (slices_Contains_string (gP h.Keys 0 (k:Int)) (idx h.Keys (k:Int))) (fun r=>r=true↔∃ j:Nat,j < k∧idx h.Keys (j:Int)=idx h.Keys (k:Int)):=by
   intro hk'
   rw [kV (by omega)]
   refine dU (Ah (by simp; omega)) (fun r hr => ?_);have ht:(h.Keys.take k).length=k:=by simp; omega
   have hx:∀ j:Nat,j < k→idx (h.Keys.take k) (j:Int)=idx h.Keys (j:Int):=fun j h=>uQ h
   rw [ht] at hr
   grind
  have he:=Ay (k:=idx h.Keys (k:Int));have hw:w64 ((k:Int) + 1)=((k + 1:Nat):Int):=bn (by omega)
  rw [hw]
  have hNk:wh h.Keys k↔(1≤(idx h.Keys (k:Int)).size∧(idx h.Keys (k:Int)).size≤32∧∀ j:Nat,j < k→idx h.Keys (j:Int)≠idx h.Keys (k:Int)):=Iff.rfl;have hno:k < h.Keys.length → ¬ wh h.Keys k → ¬ (ng h.Keys∧h.Txns.length≤32):=fun h1 h2 h3=>h2 (h3.1.2 k h1);refine au (fun a1 => ?_) (fun a1 => ?_)
  ·refine ai (by omega) ?_
   repeat' (first | contradiction | with_reducible refine au (fun hq => ?_) (fun hq => ?_) | with_reducible refine ai (by first | omega | grind [bv]) ?_ | with_reducible refine ax ?_ | with_reducible refine bJ ?_ | with_reducible refine bQ ?_ | with_reducible refine bR ?_ | with_reducible refine bS ?_ | with_reducible refine ag ?_ | refine dP (hf (by omega)) (fun r hr => ?_))
   ·exact hbad (hno (by omega) (by grind))
   ·exact hbad (hno (by omega) (by grind))
   ·exact hbad (hno (by omega) (by grind))
   ·exact ⟨rfl,by omega,by grind⟩
  ·have hN:ng h.Keys:=⟨by omega,fun i hi=>hJ i (by omega)⟩
   unfold lQ;refine bJ ?_;obtain ⟨x,hx,v,hv,hq⟩:=hgood hN (by omega);obtain ⟨rfl,h2⟩:=hq;exact ⟨_,hx,v,hv,rfl,h2⟩
end Go.Proofs.YtnlkggppokcmfaaT
namespace Go.Proofs.YtnlkggppokcmfaaT
open Go Go.Proofs Go.Proofs.YtnlkggppokcmfaaE
set_option linter.unusedVariables false
set_option linter.unusedSimpArgs false
def ni (l:List Int) (c:Call) (w:Int) (s:ByteArray):List Int:=if c.Kind=4∧c.Key=s∧(l.length=0∨idx l ((l.length - 1:Nat):Int)≠w) then l++[w] else l
def jH (E:List (Call×Int)) (s:ByteArray):List Int:=E.foldl (fun l e=>ni l e.1 e.2 s) []
theorem xM {E:List (Call×Int)} {c:Call} {w:Int} {s:ByteArray}:jH (E++[(c,w)]) s=ni (jH E s) c w s:=by
 unfold jH; rw [List.foldl_append]; rfl
theorem qm {l:List Int} {c:Call} {w:Int} {s:ByteArray} (h:¬ (c.Kind=4∧c.Key=s)):ni l c w s=l:=by
 unfold ni; rw [if_neg (fun hh=>h ⟨hh.1,hh.2.1⟩)]
def Gf (E:List (Call×Int)) (c:Call) (w:Int):Prop :=
 ((c.Kind=2∨c.Kind=3)→∀ e ∈ E,e.1.Key=c.Key→(e.1.Kind=2∨e.1.Kind=3)→e.1.Arg≠c.Arg)∧(c.Kind=4→(ni (jH E c.Key) c w c.Key).length≤8)
def Er (E:List (Call×Int)) (c:Call) (w:Int):Prop:=(∀ e ∈ E,e.1.Key=c.Key→typ e.1.Kind=typ c.Kind)∧Gf E c w
structure BookInv0 (E:List (Call×Int)) (b:aA):Prop where
 tl:b.types.length=b.keys.length
 wl:b.wrote.length=b.keys.length
 il:b.incs.length=b.keys.length
 ll:b.last_.length=b.keys.length
 nd:∀ i j:Nat,i < b.keys.length→j < b.keys.length→idx b.keys (i:Int)=idx b.keys (j:Int)→i=j
 ks:∀ e ∈ E,∃ j:Nat,j < b.keys.length∧idx b.keys (j:Int)=e.1.Key
 ty:∀ e ∈ E,∀ j:Nat,j < b.keys.length→idx b.keys (j:Int)=e.1.Key→idx b.types (j:Int)=typ e.1.Kind
 wr:∀ j:Nat,j < b.keys.length→∀ a,(∃ m:Nat,m < (idx b.wrote (j:Int)).length∧idx (idx b.wrote (j:Int)) (m:Int)=a)↔∃ e ∈ E,e.1.Key=idx b.keys (j:Int)∧(e.1.Kind=2∨e.1.Kind=3)∧e.1.Arg=a
 wn:∀ j:Nat,j < b.keys.length→(idx b.wrote (j:Int)).length≤E.length
 ic:∀ j:Nat,j < b.keys.length→idx b.incs (j:Int)=((jH E (idx b.keys (j:Int))).length:Int)
 i8:∀ j:Nat,j < b.keys.length→(jH E (idx b.keys (j:Int))).length≤8
 io:∀ s,(∀ j:Nat,j < b.keys.length→idx b.keys (j:Int)≠s)→jH E s=[]
 la:∀ j:Nat,j < b.keys.length→((jH E (idx b.keys (j:Int))).length=0→idx b.last_ (j:Int) = -1) ∧
  (0 < (jH E (idx b.keys (j:Int))).length→idx b.last_ (j:Int)=idx (jH E (idx b.keys (j:Int))) (((jH E (idx b.keys (j:Int))).length - 1:Nat):Int))
theorem BookInv0.start:BookInv0 [] ⟨[],[],[],[],[]⟩:=by
 refine ⟨rfl,rfl,rfl,rfl,?_,?_,?_,?_,?_,?_,?_,?_,?_⟩
 all_goals simp [jH]
theorem BookInv0.new {E:List (Call×Int)} {b:aA} (h:BookInv0 E b) {s:ByteArray} {t:Int} (hn:∀ j:Nat,j < b.keys.length→idx b.keys (j:Int)≠s) :
  BookInv0 E ⟨b.keys++[s],b.types++[t],b.wrote++[[]],b.incs++[0],b.last_++[-1]⟩:=by
 have hl:(b.keys++[s]).length=b.keys.length + 1:=by simp
 have k1:∀ j:Nat,j < b.keys.length→idx (b.keys++[s]) (j:Int)=idx b.keys (j:Int):=fun j hj=>iZ hj;have k2:idx (b.keys++[s]) ((b.keys.length:Nat):Int)=s:=iG rfl;have t1:∀ j:Nat,j < b.keys.length→idx (b.types++[t]) (j:Int)=idx b.types (j:Int):=fun j hj=>iZ (by rw [h.tl]; exact hj);have w1:∀ j:Nat,j < b.keys.length→idx (b.wrote++[[]]) (j:Int)=idx b.wrote (j:Int):=fun j hj=>iZ (by rw [h.wl]; exact hj);have w2:idx (b.wrote++[[]]) ((b.keys.length:Nat):Int)=[]:=iG h.wl.symm;have i1:∀ j:Nat,j < b.keys.length→idx (b.incs++[0]) (j:Int)=idx b.incs (j:Int):=fun j hj=>iZ (by rw [h.il]; exact hj);have i2:idx (b.incs++[0]) ((b.keys.length:Nat):Int)=0:=iG h.il.symm;have l1:∀ j:Nat,j < b.keys.length→idx (b.last_++[-1]) (j:Int)=idx b.last_ (j:Int):=fun j hj=>iZ (by rw [h.ll]; exact hj);have l2:idx (b.last_++[-1]) ((b.keys.length:Nat):Int) = -1:=iG h.ll.symm;have ho:=h.io s hn;have hne:∀ e ∈ E,e.1.Key≠s:=fun e he hs=>by
  obtain ⟨j,hj,hk⟩:=h.ks e he;exact hn j hj (hk.trans hs)
 have cut:∀ j:Nat,j < b.keys.length + 1→j < b.keys.length∨j=b.keys.length:=by omega
 refine ⟨by simp [h.tl],by simp [h.wl],by simp [h.il],by simp [h.ll],?_,?_,?_,?_,?_,?_,?_,?_,?_⟩
 ·intro i j hi hj he
  dsimp only at hi hj he
  rw [hl] at hi hj
  have:=h.nd i j;rcases cut i hi with hi' | hi' <;> rcases cut j hj with hj' | hj' <;> grind
 ·intro e he;obtain ⟨j,hj,hk⟩:=h.ks e he;exact ⟨j,by simp; omega,(k1 j hj).trans hk⟩
 ·intro e he j hj hk
  dsimp only at hj hk ⊢
  rw [hl] at hj
  rcases cut j hj with hj' | hj'
  ·rw [k1 j hj'] at hk; rw [t1 j hj']; exact h.ty e he j hj' hk
  ·subst hj'; rw [k2] at hk; exact absurd hk.symm (hne e he)
 ·intro j hj a
  dsimp only at hj ⊢
  rw [hl] at hj
  rcases cut j hj with hj' | hj'
  ·rw [k1 j hj',w1 j hj']; exact h.wr j hj' a
  ·subst hj'
   rw [k2,w2]
   constructor
   ·rintro ⟨m,hm,_⟩; simp at hm
   ·rintro ⟨e,he,hk,_⟩; exact absurd hk (hne e he)
 ·intro j hj
  dsimp only at hj ⊢
  rw [hl] at hj
  rcases cut j hj with hj' | hj'
  ·rw [w1 j hj']; exact h.wn j hj'
  ·subst hj'; rw [w2]; simp
 ·intro j hj
  dsimp only at hj ⊢
  rw [hl] at hj
  rcases cut j hj with hj' | hj'
  ·rw [k1 j hj',i1 j hj']; exact h.ic j hj'
  ·subst hj'; rw [k2,i2,ho]; rfl
 ·intro j hj
  dsimp only at hj ⊢
  rw [hl] at hj
  rcases cut j hj with hj' | hj'
  ·rw [k1 j hj']; exact h.i8 j hj'
  ·subst hj'; rw [k2,ho]; simp
 ·intro x hx
  dsimp only at hx ⊢
  rw [hl] at hx
  exact h.io x (fun j hj=>by rw [← k1 j hj]; exact hx j (by omega))
 ·intro j hj
  dsimp only at hj ⊢
  rw [hl] at hj
  rcases cut j hj with hj' | hj'
  ·rw [k1 j hj',l1 j hj']; exact h.la j hj'
  ·subst hj'; rw [k2,l2,ho]; simp
theorem fP {E:List (Call×Int)} {c:Call} {w:Int} {e:Call×Int}:e ∈ E++[(c,w)]↔e ∈ E∨e=(c,w):=by simp
theorem BookInv0.same {E:List (Call×Int)} {b:aA} {c:Call} {w:Int} {k:Nat} (h:BookInv0 E b) (hk:k < b.keys.length) (hs:idx b.keys (k:Int)=c.Key) (ht:idx b.types (k:Int)=typ c.Kind)
  (h2:c.Kind≠2) (h3:c.Kind≠3) (hw:ni (jH E c.Key) c w c.Key=jH E c.Key):BookInv0 (E++[(c,w)]) b:=by
 have hws:∀ s,jH (E++[(c,w)]) s=jH E s:=fun s=>by
  rw [xM]
  by_cases e:c.Kind=4∧c.Key=s
  ·rw [← e.2]; exact hw
  ·exact qm e
 refine ⟨h.tl,h.wl,h.il,h.ll,h.nd,?_,?_,?_,?_,?_,?_,?_,?_⟩
 ·intro e he;rcases fP.1 he with he | rfl
  ·exact h.ks e he
  ·exact ⟨k,hk,hs⟩
 ·intro e he j hj hkj;rcases fP.1 he with he | rfl
  ·exact h.ty e he j hj hkj
  ·have:=h.nd j k hj hk (hkj.trans hs.symm);subst this;exact ht
 ·intro j hj a
  rw [h.wr j hj a]
  constructor
  ·rintro ⟨e,he,r⟩; exact ⟨e,fP.2 (.inl he),r⟩
  ·rintro ⟨e,he,r⟩;rcases fP.1 he with he | rfl
   ·exact ⟨e,he,r⟩
   ·rcases r.2.1 with r | r <;> contradiction
 ·intro j hj;have:=h.wn j hj
  simp; omega
 ·intro j hj; rw [hws]; exact h.ic j hj
 ·intro j hj; rw [hws]; exact h.i8 j hj
 ·intro s hs'; rw [hws]; exact h.io s hs'
 ·intro j hj; rw [hws]; exact h.la j hj
theorem BookInv0.write {E:List (Call×Int)} {b:aA} {c:Call} {w:Int} {k:Nat} (h:BookInv0 E b) (hk:k < b.keys.length) (hs:idx b.keys (k:Int)=c.Key) (ht:idx b.types (k:Int)=typ c.Kind)
  (a0:c.Kind=2∨c.Kind=3):BookInv0 (E++[(c,w)]) ⟨b.keys,b.types,b.wrote.set k (idx b.wrote (k:Int)++[c.Arg]),b.incs,b.last_⟩:=by
 have hws:∀ s,jH (E++[(c,w)]) s=jH E s:=fun s=>by
  rw [xM]
  exact qm (fun e=>by omega)
 have w1:∀ j:Nat,idx (b.wrote.set k (idx b.wrote (k:Int)++[c.Arg])) (j:Int)=if j=k then idx b.wrote (k:Int)++[c.Arg] else idx b.wrote (j:Int):=fun j=>oV (by rw [h.wl]; exact hk);refine ⟨h.tl,by simp [h.wl],h.il,h.ll,h.nd,?_,?_,?_,?_,?_,?_,?_,?_⟩
 ·intro e he;rcases fP.1 he with he | rfl
  ·exact h.ks e he
  ·exact ⟨k,hk,hs⟩
 ·intro e he j hj hkj;rcases fP.1 he with he | rfl
  ·exact h.ty e he j hj hkj
  ·have:=h.nd j k hj hk (hkj.trans hs.symm);subst this;exact ht
 ·intro j hj a
  dsimp only at hj ⊢
  rw [w1 j]
  have hold:=h.wr j hj a
  by_cases e:j=k
  ·subst e
   rw [if_pos rfl]
   constructor
   ·rintro ⟨m,hm,he⟩;rcases Nat.lt_or_ge m (idx b.wrote (j:Int)).length with h1 | h1
    ·rw [iZ h1] at he
     obtain ⟨e,he',r⟩:=hold.1 ⟨m,h1,he⟩;exact ⟨e,fP.2 (.inl he'),r⟩
    ·simp at hm
     rw [iG (by omega)] at he
     exact ⟨(c,w),fP.2 (.inr rfl),hs.symm,a0,he⟩
   ·rintro ⟨e,he,r⟩;rcases fP.1 he with he | rfl
    ·obtain ⟨m,hm,hh⟩:=hold.2 ⟨e,he,r⟩;exact ⟨m,by simp; omega,(iZ hm).trans hh⟩
    ·exact ⟨_,by simp,(iG rfl).trans r.2.2⟩
  ·rw [if_neg e,hold]
   constructor
   ·rintro ⟨e,he,r⟩; exact ⟨e,fP.2 (.inl he),r⟩
   ·rintro ⟨e',he,r⟩;rcases fP.1 he with he | rfl
    ·exact ⟨e',he,r⟩
    ·exact absurd (h.nd j k hj hk (r.1.symm.trans hs.symm)) e
 ·intro j hj
  dsimp only at hj ⊢
  rw [w1 j]
  have:=h.wn j hj
  split
  ·rename_i e; subst e; simp; omega
  ·simp; omega
 ·intro j hj; rw [hws]; exact h.ic j hj
 ·intro j hj; rw [hws]; exact h.i8 j hj
 ·intro s hs'; rw [hws]; exact h.io s hs'
 ·intro j hj; rw [hws]; exact h.la j hj
theorem BookInv0.inc {E:List (Call×Int)} {b:aA} {c:Call} {w:Int} {k:Nat} (h:BookInv0 E b) (hk:k < b.keys.length) (hs:idx b.keys (k:Int)=c.Key) (ht:idx b.types (k:Int)=typ c.Kind)
  (h4:c.Kind=4) (hw:ni (jH E c.Key) c w c.Key=jH E c.Key++[w]) (h8:(jH E c.Key).length + 1≤8) :
  BookInv0 (E++[(c,w)]) ⟨b.keys,b.types,b.wrote,b.incs.set k (idx b.incs (k:Int) + 1),b.last_.set k w⟩:=by
 have hws:∀ s,jH (E++[(c,w)]) s=if c.Key=s then jH E s++[w] else jH E s:=fun s=>by
  rw [xM]
  by_cases e:c.Key=s
  ·rw [if_pos e,← e]; exact hw
  ·rw [if_neg e]; exact qm (fun hh=>e hh.2)
 have i1:∀ j:Nat,idx (b.incs.set k (idx b.incs (k:Int) + 1)) (j:Int)=if j=k then idx b.incs (k:Int) + 1 else idx b.incs (j:Int):=fun j=>oV (by rw [h.il]; exact hk);have l1:∀ j:Nat,idx (b.last_.set k w) (j:Int)=if j=k then w else idx b.last_ (j:Int):=fun j=>oV (by rw [h.ll]; exact hk);have hne:∀ j:Nat,j < b.keys.length→(c.Key=idx b.keys (j:Int)↔j=k):=fun j hj=>⟨fun e=>h.nd j k hj hk (e.symm.trans hs.symm),fun e=>by rw [e,hs]⟩
 refine ⟨h.tl,h.wl,by simp [h.il],by simp [h.ll],h.nd,?_,?_,?_,?_,?_,?_,?_,?_⟩
 ·intro e he;rcases fP.1 he with he | rfl
  ·exact h.ks e he
  ·exact ⟨k,hk,hs⟩
 ·intro e he j hj hkj;rcases fP.1 he with he | rfl
  ·exact h.ty e he j hj hkj
  ·have:=h.nd j k hj hk (hkj.trans hs.symm);subst this;exact ht
 ·intro j hj a
  dsimp only at hj ⊢
  rw [h.wr j hj a]
  constructor
  ·rintro ⟨e,he,r⟩; exact ⟨e,fP.2 (.inl he),r⟩
  ·rintro ⟨e,he,r⟩;rcases fP.1 he with he | rfl
   ·exact ⟨e,he,r⟩
   ·have:=r.2.1; dsimp only at this; omega
 ·intro j hj;have:=h.wn j hj
  simp; omega
 ·intro j hj
  dsimp only at hj ⊢
  have:=h.ic j hj
  rw [hws,i1 j]
  by_cases e:j=k
  ·rw [if_pos e,if_pos ((hne j hj).2 e)]; subst e; simp; omega
  ·rw [if_neg e,if_neg (fun hh=>e ((hne j hj).1 hh))]; exact this
 ·intro j hj
  dsimp only at hj ⊢
  rw [hws]
  by_cases e:j=k
  ·rw [if_pos ((hne j hj).2 e)]; subst e; rw [hs]; simp; omega
  ·rw [if_neg (fun hh=>e ((hne j hj).1 hh))]; exact h.i8 j hj
 ·intro s hs'
  dsimp only at hs'
  rw [hws,if_neg (fun e=>hs' k hk (hs.trans e))]
  exact h.io s hs'
 ·intro j hj
  dsimp only at hj ⊢
  rw [hws,l1 j]
  by_cases e:j=k
  ·rw [if_pos e,if_pos ((hne j hj).2 e)]
   refine ⟨fun h0=>by simp at h0,fun _ => ?_⟩
   rw [iG (by simp)]
  ·rw [if_neg e,if_neg (fun hh=>e ((hne j hj).1 hh))]; exact h.la j hj
theorem Es {E:List (Call×Int)} {b:aA} {c:Call} {w:Int} {k:Nat} (h:BookInv0 E b) (hk:k < b.keys.length) (hs:idx b.keys (k:Int)=c.Key) (ht:idx b.types (k:Int)=typ c.Kind)
  (h1:1≤c.Kind) (h8:c.Kind≤8) (hw:0≤w) (hE:E.length≤4096) :
  Tri (dQ c w b.keys b.types b.wrote b.incs b.last_ (k:Int)) (fun r=>(r.1=0↔Gf E c w)∧(r.1=0→BookInv0 (E++[(c,w)]) r.2∧r.2.keys=b.keys∧r.2.types=b.types)):=by
 have hin:=h.ic k hk;have a0:=h.i8 k hk;have hla:=h.la k hk;have hwr:=h.wr k hk c.Arg;have hwn:=h.wn k hk
 rw [hs] at hin a0 hla hwr
 refine dU (Br (who:=w) hk h.tl h.wl h.il h.ll (by omega) (by omega) h1 h8) (fun r hr => ?_);have stay:∀ {l:List Int},ni (jH E c.Key) c w c.Key=l→l=if c.Kind=4∧((jH E c.Key).length=0∨idx (jH E c.Key) (((jH E c.Key).length - 1:Nat):Int)≠w) then jH E c.Key++[w] else jH E c.Key:=by
  rintro l rfl;unfold ni
  simp
 have st:=stay rfl;rcases hr with ⟨a,rfl⟩ | ⟨_,b1,b2,rfl⟩ | ⟨_,b1,b2,rfl⟩ | ⟨_,b1,b2,b3,b4⟩ | ⟨_,b1,b2,b3,rfl⟩ | ⟨_,b1,b2,rfl⟩ | ⟨_,b1,b2,b3,rfl⟩
 ·exact absurd ht a
 ·refine ⟨⟨fun h=>by simp at h,fun hh => ?_⟩,fun h=>by simp at h⟩
  obtain ⟨e,he,r1,r2,r3⟩:=hwr.1 b2;exact absurd r3 (hh.1 b1 e he r1 r2)
 ·refine ⟨⟨fun _=>⟨fun _ e he r1 r2 r3=>b2 (hwr.2 ⟨e,he,r1,r2,r3⟩),fun h4=>by omega⟩,fun _=>rfl⟩,fun _=>⟨h.write hk hs ht b1,rfl,rfl⟩⟩
 ·have hne:(jH E c.Key).length=0∨idx (jH E c.Key) (((jH E c.Key).length - 1:Nat):Int)≠w:=by grind
  rw [if_pos ⟨b1,hne⟩] at st
  refine ⟨⟨fun h0=>by omega,fun hh => ?_⟩,fun h0=>by omega⟩
  have:=hh.2 b1
  rw [st] at this
  simp at this
  omega
 ·have hne:(jH E c.Key).length=0∨idx (jH E c.Key) (((jH E c.Key).length - 1:Nat):Int)≠w:=by grind
  rw [if_pos ⟨b1,hne⟩] at st
  refine ⟨⟨fun _=>⟨fun h=>by omega,fun _=>by rw [st]; simp; omega⟩,fun _=>rfl⟩,fun _=>⟨h.inc hk hs ht b1 st (by omega),rfl,rfl⟩⟩
 ·have hne:¬ ((jH E c.Key).length=0∨idx (jH E c.Key) (((jH E c.Key).length - 1:Nat):Int)≠w):=by grind
  rw [if_neg (fun hh=>hne hh.2)] at st
  refine ⟨⟨fun _=>⟨fun h=>by omega,fun _=>by rw [st]; exact a0⟩,fun _=>rfl⟩,fun _=>⟨h.same hk hs ht (by omega) (by omega) st,rfl,rfl⟩⟩
 ·rw [if_neg (fun hh=>b3 hh.1)] at st
  refine ⟨⟨fun _=>⟨fun h=>by omega,fun h=>by omega⟩,fun _=>rfl⟩,fun _=>⟨h.same hk hs ht b1 b2 st,rfl,rfl⟩⟩
structure nk (E:List (Call×Int)) (b:aA):Prop extends BookInv0 E b where
 len:b.keys.length≤32
 kex:∀ j:Nat,j < b.keys.length→∃ e ∈ E,e.1.Key=idx b.keys (j:Int)
theorem nk.start:nk [] ⟨[],[],[],[],[]⟩:=⟨BookInv0.start,by simp,fun j hj=>by simp at hj⟩
theorem EX {E:List (Call×Int)} {b:aA} {c:Call} {w:Int} (h:nk E b) (hroom:b.keys.length=32→∃ j:Nat,j < b.keys.length∧idx b.keys (j:Int)=c.Key)
  (h1:1≤c.Kind) (h8:c.Kind≤8) (hw:0≤w) (hE:E.length≤4096) :
  Tri (ah b c w) (fun r=>(r.1=0↔Er E c w)∧(r.1=0→nk (E++[(c,w)]) r.2)):=by
 have hl:=h.len;have t1:=h.tl;have t2:=h.wl;have t3:=h.il;have t4:=h.ll;obtain ⟨r0,a4,hf⟩:=xK (l:=b.keys) (s:=c.Key) (by omega);unfold ah
 rw [a4]
 refine bJ ?_;rcases hf with ⟨rfl,hno⟩ | ⟨k,rfl,a0,a1,_⟩
 ·refine au (fun _ => ?_) (fun hh=>by omega);refine au (fun a5 => ?_) (fun a5 => ?_)
  ·obtain ⟨j,hj,he⟩:=hroom (by omega);exact absurd he (hno j hj)
  ·have hn:=h.toBookInv0.new (s:=c.Key) (t:=typ c.Kind) hno;have hat:=Es (w:=w) hn (k:=b.keys.length) (by simp) (iG rfl) (iG t1.symm) h1 h8 hw hE;have hne:∀ e ∈ E,e.1.Key≠c.Key:=fun e he hs=>by
    obtain ⟨j,hj,hk⟩:=h.ks e he;exact hno j hj (hk.trans hs)
   unfold iK iJ
   simp only [ze h1 h8]
   refine ai (by omega) (bJ (ai (by omega) (ai (by omega) (ai (by omega) (ai (by omega) ?_)))));refine dU hat (fun r hr => ?_);refine ⟨hr.1.trans ⟨fun hh=>⟨fun e he hs=>absurd hs (hne e he),hh⟩,fun hh=>hh.2⟩,fun h0 => ?_⟩;obtain ⟨q1,q2,q3⟩:=hr.2 h0;refine ⟨q1,by rw [q2]; simp; omega,fun j hj => ?_⟩
   rw [q2] at hj ⊢
   have hj:j < b.keys.length + 1:=by simpa using hj
   rcases (by omega:j < b.keys.length∨j=b.keys.length) with hj' | hj'
   ·obtain ⟨e,he,hk⟩:=h.kex j hj';exact ⟨e,fP.2 (.inl he),by rw [hk]; exact (iZ hj').symm⟩
   ·subst hj';exact ⟨(c,w),fP.2 (.inr rfl),(iG rfl).symm⟩
 ·refine au (fun hh=>by omega) (fun _ => ?_);obtain ⟨e0,a3,a2⟩:=h.kex k a0;have hty:=h.ty e0 a3 k a0 a2.symm
  by_cases ht:idx b.types (k:Int)=typ c.Kind
  ·have hat:=Es (w:=w) h.toBookInv0 a0 a1 ht h1 h8 hw hE;refine dU hat (fun r hr => ?_);refine ⟨hr.1.trans ⟨fun hh=>⟨fun e he hs => ?_,hh⟩,fun hh=>hh.2⟩,fun h0 => ?_⟩
   ·exact (h.ty e he k a0 (a1.trans hs.symm)).symm.trans ht
   ·obtain ⟨q1,q2,q3⟩:=hr.2 h0;refine ⟨q1,by rw [q2]; exact hl,fun j hj => ?_⟩
    rw [q2] at hj ⊢
    obtain ⟨e,he,hk⟩:=h.kex j hj;exact ⟨e,fP.2 (.inl he),hk⟩
  ·have hin:=h.ic k a0;have a6:=h.i8 k a0;have hwn:=h.wn k a0;refine dU (Br (who:=w) a0 t1 t2 t3 t4 (by omega) (by omega) h1 h8) (fun r hr => ?_);have hno:¬ Er E c w:=fun hh=>ht (hty.trans (hh.1 e0 a3 (a2.trans a1)));rcases hr with ⟨a,rfl⟩ | ⟨a,_⟩ | ⟨a,_⟩ | ⟨a,_⟩ | ⟨a,_⟩ | ⟨a,_⟩ | ⟨a,_⟩
   ·exact ⟨⟨fun h=>by simp at h,fun hh=>absurd hh hno⟩,fun h=>by simp at h⟩
   all_goals exact absurd a ht
def vK (h:History) (i:Nat):List (Call×Int):=(bT h (idx h.Txns (i:Int))).map (fun c=>(c,(i:Int)))
def pI (h:History) (k:Nat):List (Call×Int):=(List.range k).flatMap (vK h)
theorem qo {h:History} {k:Nat}:pI h (k + 1)=pI h k++vK h k:=by
 unfold pI; rw [List.range_succ,List.flatMap_append]; simp
def mo (E L:List (Call×Int)):Prop:=∀ j:Nat,j < L.length→Er (E++L.take j) (idx L (j:Int)).1 (idx L (j:Int)).2
theorem mo.append {E L M:List (Call×Int)}:mo E (L++M)↔mo E L∧mo (E++L) M:=by
 constructor
 ·intro h;refine ⟨fun j hj => ?_,fun j hj => ?_⟩
  ·have:=h j (by simp; omega)
   rwa [iZ hj,List.take_append_of_le_length (by omega)] at this
  ·have:=h (L.length + j) (by simp; omega)
   rw [List.take_append,List.take_of_length_le (by omega),show L.length + j - L.length=j by omega,← List.append_assoc] at this
   rwa [show idx (L++M) ((L.length + j:Nat):Int)=idx M (j:Int) from by
    rw [dh rfl (by simp; omega),dh rfl hj,List.getElem_append_right (by omega)]; congr 1; omega] at this
 ·rintro ⟨h1,h2⟩ j hj;rcases Nat.lt_or_ge j L.length with h3 | h3
  ·rw [iZ h3,List.take_append_of_le_length (by omega)]; exact h1 j h3
  ·obtain ⟨i,rfl⟩:∃ i,j=L.length + i:=⟨j - L.length,by omega⟩
   have hi:i < M.length:=by simp at hj; omega
   have:=h2 i hi
   rw [List.take_append,List.take_of_length_le (by omega),show L.length + i - L.length=i by omega,← List.append_assoc]
   rwa [show idx (L++M) ((L.length + i:Nat):Int)=idx M (i:Int) from by
    rw [dh rfl (by simp; omega),dh rfl hi,List.getElem_append_right (by omega)]; congr 1; omega]
theorem room {K l:List ByteArray} {s:ByteArray} (hK:K.length≤32) (hl:l.length=32) (nd:∀ i j:Nat,i < l.length→j < l.length→idx l (i:Int)=idx l (j:Int)→i=j)
  (hs:s ∈ K) (hsub:∀ x ∈ l,x ∈ K):∃ j:Nat,j < l.length∧idx l (j:Int)=s:=by
 have hnd:l.Nodup:=by
  rw [List.nodup_iff_pairwise_ne,List.pairwise_iff_getElem]
  intro i j hi hj hij he;have:=nd i j hi hj (by rw [dh rfl hi,dh rfl hj]; exact he)
  omega
 by_cases h:s ∈ l
 ·obtain ⟨j,hj,he⟩:=List.getElem_of_mem h;exact ⟨j,hj,(dh rfl hj).trans he⟩
 ·have h1:(s::l).Nodup:=List.nodup_cons.2 ⟨h,hnd⟩;have h2:=h1.length_le_of_subset (l₂:=K) (fun x hx=>by
   rcases List.mem_cons.1 hx with rfl | hx
   ·exact hs
   ·exact hsub x hx)
  simp at h2
  omega
def InK (K:List ByteArray) (E:List (Call×Int)):Prop:=∀ e ∈ E,e.1.Key ∈ K
theorem nk.sub {K:List ByteArray} {E:List (Call×Int)} {b:aA} (h:nk E b) (hE:InK K E):∀ x ∈ b.keys,x ∈ K:=by
 intro x hx;obtain ⟨j,hj,rfl⟩:=List.getElem_of_mem hx;obtain ⟨e,he,hk⟩:=h.kex j hj;have:=hE e he
 rw [hk,dh rfl hj] at this
 exact this
theorem Du {K:List ByteArray} {E:List (Call×Int)} {b:aA} {i:Nat} {l:List Call} (h:nk E b) (hK:K.length≤32) (hEK:InK K E) (hlK:∀ c ∈ l,c.Key ∈ K) (hl:l.length≤16) (hi:i < 64) (hn:E.length≤1024)
  (hc:qM l (fun c=>1≤c.Kind∧c.Kind≤8)) :
  Tri (iter (fq (i:Int) l) (wQ b 0)) (fun x=>(mo E (l.map (fun c=>(c,(i:Int))))→∃ b',x = .inr (.inl (wQ b' ((i + 1:Nat):Int)))∧nk (E++l.map (fun c=>(c,(i:Int)))) b') ∧
   (¬ mo E (l.map (fun c=>(c,(i:Int))))→x = .inr (.inr 1))):=by
 generalize hm:l.map (fun c=>(c,(i:Int)))=m;have hml:m.length=l.length:=by rw [← hm]; simp
 have hmi:∀ k:Nat,k < l.length→idx m (k:Int)=(idx l (k:Int),(i:Int)):=fun k hk=>by rw [← hm,rq hk]
 refine dC (k0:=0) l.length (fun k s=>∃ b',s=wQ b' (k:Int)∧nk (E++m.take k) b'∧∀ j:Nat,j < k→Er (E++m.take j) (idx m (j:Int)).1 (idx m (j:Int)).2) (Nat.zero_le _) ⟨b,rfl,by simpa using h,fun j hj=>absurd hj (Nat.not_lt_zero _)⟩ ?_
 rintro k s hk ⟨b',rfl,hb,hJ⟩;unfold fq wQ
 dsimp only
 refine au (fun a2 => ?_) (fun a2 => ?_)
 ·have a0:k < l.length:=by omega
  have hin:InK K (E++m.take k):=fun e he=>by
   rcases List.mem_append.1 he with he | he
   ·exact hEK e he
   ·have:=List.mem_of_mem_take he
    rw [← hm] at this
    obtain ⟨c,hc,rfl⟩:=List.mem_map.1 this;exact hlK c hc
  have hcK:(idx l (k:Int)).Key ∈ K:=hlK _ (by rw [dh rfl a0]; exact List.getElem_mem a0);have hw:w64 ((k:Int) + 1)=((k + 1:Nat):Int):=bn (by omega);obtain ⟨r,hr,q1,q2⟩:=EX (c:=idx l (k:Int)) (w:=(i:Int)) hb (fun a1=>room hK a1 hb.nd hcK (hb.sub hin)) (hc k a0).1 (hc k a0).2 (by omega) (by simp; omega);refine ai (by omega) (bY hr ?_);refine au (fun h0 => ?_) (fun h0 => ?_)
  ·refine ax (ax (ax (ag ⟨fun hall => ?_,fun _=>rfl⟩)));have:=hall k (by omega)
   rw [hmi k a0] at this
   exact absurd (q1.2 this) h0
  ·refine ag ⟨a0,r.2,?_,?_,?_⟩
   ·rw [hw]
   ·rw [pV (by omega),hmi k a0,← List.append_assoc]
    exact q2 (by omega)
   ·intro j hj;rcases Nat.lt_or_ge j k with h1 | h1
    ·exact hJ j h1
    ·rw [show j=k by omega,hmi k a0]; exact q1.1 (by omega)
 ·have hw:w64 ((i:Int) + 1)=((i + 1:Nat):Int):=bn (by omega)
  rw [hw]
  have hfull:m.take k=m:=List.take_of_length_le (by omega)
  rw [hfull] at hb
  refine ax (ax (ag ⟨fun _=>⟨b',rfl,hb⟩,fun hno=>absurd (fun j hj=>hJ j (by omega)) hno⟩))
structure iw (h:History):Prop where
 names:ng h.Keys
 len:h.Txns.length≤32
 txn:∀ i:Nat,i < h.Txns.length→wR h i
 ents:mo [] (pI h h.Txns.length)
theorem keys_in {h:History} {i:Nat} (hi:sS h (idx h.Txns (i:Int))):∀ c ∈ bT h (idx h.Txns (i:Int)),c.Key ∈ h.Keys:=by
 intro c hc;obtain ⟨o,ho,rfl⟩:=List.mem_map.1 hc;have:=(uP.1 hi) o ho
 show idx h.Keys o.Key ∈ h.Keys
 rw [dh (n:=o.Key.toNat) (by omega) (by omega)]
 exact List.getElem_mem _
theorem EY {h:History} {i:Nat} (hi:wR h i):(vK h i).length≤16:=by
 have:=hi.2.2.2.2.1
 simpa [vK,uy,bT] using this
theorem yP {h:History} (hs:sU h):Tri (aj h) (fun v=>(v=0↔iw h)∧(v=0∨v=1)):=by
 obtain ⟨a4,a5,a2⟩:=hs;obtain ⟨y,hy,hn⟩:=zu (l:=h.Keys) (by omega);unfold aj gz
 simp only [cond_true,cond_false]
 repeat' (first | contradiction | with_reducible refine au (fun hq => ?_) (fun hq => ?_) | with_reducible refine ai (by first | omega | grind [bv]) ?_ | with_reducible refine ax ?_ | with_reducible refine bJ ?_ | with_reducible refine bQ ?_ | with_reducible refine bR ?_ | with_reducible refine bS ?_ | with_reducible refine ag ?_ | refine bY hy ?_)
 ·exact ⟨⟨fun h=>absurd h (by decide),fun hS=>absurd (hn.2 hS.names) ‹¬y=true›⟩,.inr rfl⟩
 ·exact ⟨⟨fun h=>absurd h (by decide),fun hS=>absurd hS.len (by omega)⟩,.inr rfl⟩
 ·have hN:ng h.Keys:=hn.1 (Decidable.of_not_not ‹¬¬y=true›);have a3:h.Txns.length≤32:=by omega
  refine dC (k0:=0) h.Txns.length (fun k s=>∃ b,s=wQ b (k:Int)∧nk (pI h k) b∧InK h.Keys (pI h k)∧(pI h k).length≤16 * k∧mo [] (pI h k)∧∀ j:Nat,j < k→wR h j) (Nat.zero_le _)
   ⟨⟨[],[],[],[],[]⟩,rfl,nk.start,fun e he=>by simp [pI] at he,by simp [pI],fun j hj=>by simp [pI] at hj,fun j hj=>absurd hj (Nat.not_lt_zero _)⟩ ?_
  rintro k s hk ⟨b,rfl,hb,hin,hlen,hents,hJ⟩;unfold iW iV wQ
  simp only [cond_true,cond_false]
  have hbad:(k < h.Txns.length → ¬ wR h k)→k < h.Txns.length → ¬ iw h:=fun h1 h2 hS=>h1 h2 (hS.txn k h2);refine au (fun a1 => ?_) (fun a1 => ?_)
  ·have a0:k < h.Txns.length:=by omega
   obtain ⟨p',hp',hp1'⟩:=tY (l:=h.Txns) a0 (by omega);have hco:vZ (uy h (idx h.Txns (k:Int)))→(idx h.Txns (k:Int)).Ops.length≤16:=fun he=>by
    have:=he.2.2.1
    simpa [uy,bT] using this
   repeat' (first | contradiction | with_reducible refine au (fun hq => ?_) (fun hq => ?_) | with_reducible refine ai (by first | omega | grind [bv]) ?_ | with_reducible refine ax ?_ | with_reducible refine bJ ?_ | with_reducible refine bQ ?_ | with_reducible refine bR ?_ | with_reducible refine bS ?_ | with_reducible refine ag ?_ | refine bY hp' ?_)
   ·exact ⟨⟨fun h=>absurd h (by decide),fun hS=>absurd (hp1'.2 (hS.txn k a0).1) ‹¬p'=true›⟩,.inr rfl⟩
   ·exact ⟨⟨fun h=>absurd h (by decide),fun hS=>absurd (hco (hS.txn k a0).2.2) (by omega)⟩,.inr rfl⟩
   ·refine Bt (b:=b) a0 (a2 k a0) (by omega) (fun hno => ?_) (fun hKo hEv => ?_)
    ·exact ⟨⟨fun h=>absurd h (by decide),fun hS=>absurd ⟨(hS.txn k a0).2.1,(hS.txn k a0).2.2⟩ hno⟩,.inr rfl⟩
    ·have hok:wR h k:=⟨hp1'.1 (Decidable.of_not_not ‹¬¬p'=true›),hKo,hEv⟩;have hc:qM (bT h (idx h.Txns (k:Int))) (fun c=>1≤c.Kind∧c.Kind≤8):=fun j hj=>⟨(hEv.2.2.2 j hj).1,(hEv.2.2.2 j hj).2.1⟩;refine dU (Du (i:=k) hb hN.1 hin (keys_in hKo) hEv.2.2.1 (by omega) (by omega) hc) (fun x hx => ?_)
     by_cases hall:mo (pI h k) (vK h k)
     ·obtain ⟨b',rfl,hb'⟩:=hx.1 hall;refine ⟨a0,b',rfl,by rw [qo]; exact hb',?_,?_,?_,?_⟩
      ·rw [qo]
       intro e he;rcases List.mem_append.1 he with he | he
       ·exact hin e he
       ·obtain ⟨c,hc,rfl⟩:=List.mem_map.1 he;exact keys_in hKo c hc
      ·have:=EY hok
       rw [qo,List.length_append]; omega
      ·rw [qo]
       exact mo.append.2 ⟨hents,hall⟩
      ·intro j hj;rcases Nat.lt_or_ge j k with h1 | h1
       ·exact hJ j h1
       ·rw [show j=k by omega]; exact hok
     ·rw [hx.2 hall]
      refine ⟨⟨fun h=>absurd h (by decide),fun hS=>absurd ?_ hall⟩,.inr rfl⟩;have hsp:∀ n:Nat,k + 1≤n→mo [] (pI h n)→mo (pI h k) (vK h k):=by
       intro n
       induction n with
       | zero=>intro h; omega
       | succ n ih =>
        intro hn hE
        rw [qo,mo.append] at hE
        rcases Nat.lt_or_ge k n with h1 | h1
        ·exact ih (by omega) hE.1
        ·rw [show n=k by omega] at hE
         exact hE.2
      exact hsp _ a0 hS.ents
  ·have a0:k=h.Txns.length:=by omega
   repeat' (first | contradiction | with_reducible refine au (fun hq => ?_) (fun hq => ?_) | with_reducible refine ai (by first | omega | grind [bv]) ?_ | with_reducible refine ax ?_ | with_reducible refine bJ ?_ | with_reducible refine bQ ?_ | with_reducible refine bR ?_ | with_reducible refine bS ?_ | with_reducible refine ag ?_)
   rw [a0] at hents hJ
   exact ⟨⟨fun _=>⟨hN,a3,hJ,hents⟩,fun _=>rfl⟩,.inl rfl⟩
theorem Dv {h:History} (hs:sU h):∃ v,aG h=some v∧aj h=some v∧(v=0∨v=1)∧(v=0↔iw h):=by
 obtain ⟨v,hv,v',hv',rfl,a0⟩:=xL hs;obtain ⟨w,hw,h1,h2⟩:=yP hs;have:v=w:=Option.some.inj (hv'.symm.trans hw);subst this;exact ⟨v,hv,hv',a0,h1⟩
end Go.Proofs.YtnlkggppokcmfaaT
namespace Go.Proofs.YtnlkggppokcmfaaT
open Go Go.Proofs Go.Proofs.YtnlkggppokcmfaaE
set_option linter.unusedVariables false
set_option linter.unusedSimpArgs false
def rQ (ops:List Op) (key:Int) (p:Nat):List Int:=((ops.take p).filter (fun o=>decide (o.Key=key∧o.Kind≤4))).map (·.Arg)
theorem xN {ops:List Op} {key:Int} {p:Nat} (h:p < ops.length):rQ ops key (p + 1)=if (idx ops (p:Int)).Key=key∧(idx ops (p:Int)).Kind≤4 then rQ ops key p++[(idx ops (p:Int)).Arg] else rQ ops key p:=by
 unfold rQ
 rw [pV h,List.filter_append,List.map_append]
 by_cases e:(idx ops (p:Int)).Key=key∧(idx ops (p:Int)).Kind≤4
 ·simp [e]
 ·rw [if_neg e]
  simp only [List.filter_cons,List.filter_nil,decide_eq_true_eq,if_neg e]
  simp
theorem wS {ops:List Op} {key:Int} {p:Nat}:(rQ ops key p).length≤ops.length:=by
 unfold rQ
 rw [List.length_map]
 exact Nat.le_trans (List.length_filter_le _ _) (by simp; omega)
def yo (ops:List Op) (t:Int) (p:Nat):List Ask :=
 let o:=idx ops (p:Int)
 let mine:=rQ ops o.Key p
 if o.Kind≤4 then [] else if mine=[] then [⟨t,p,o.Key,o.Vals⟩] else if (before (o.Kind - 4) o.Vals mine).2=true∧o.Kind≠5 then [⟨t,p,o.Key,(before (o.Kind - 4) o.Vals mine).1⟩] else []
def zw (ops:List Op) (t:Int) (p:Nat):List fJ :=
 let o:=idx ops (p:Int)
 let mine:=rQ ops o.Key p
 if o.Kind≤4 then [] else if mine=[] then [] else if (before (o.Kind - 4) o.Vals mine).2=true then [] else [⟨t,p⟩]
def qp (ops:List Op) (t:Int) (k:Nat):List Ask:=(List.range k).flatMap (yo ops t)
def qY (ops:List Op) (t:Int) (k:Nat):List fJ:=(List.range k).flatMap (zw ops t)
theorem yu {ops:List Op} {t:Int} {k:Nat}:qp ops t (k + 1)=qp ops t k++yo ops t k:=by
 unfold qp; rw [List.range_succ,List.flatMap_append]; simp
theorem wT {ops:List Op} {t:Int} {k:Nat}:qY ops t (k + 1)=qY ops t k++zw ops t k:=by
 unfold qY; rw [List.range_succ,List.flatMap_append]; simp
theorem zx {ops:List Op} {t:Int} {k:Nat}:(qp ops t k).length≤k:=by
 induction k with
 | zero=>simp [qp]
 | succ k ih =>
  rw [yu,List.length_append]
  have:(yo ops t k).length≤1:=by
   unfold yo
   dsimp only
   split
   ·simp
   ·split
    ·simp
    ·split <;> simp
  omega
theorem yw {ops:List Op} {t:Int} {k:Nat}:(qY ops t k).length≤k:=by
 induction k with
 | zero=>simp [qY]
 | succ k ih =>
  rw [wT,List.length_append]
  have:(zw ops t k).length≤1:=by
   unfold zw
   dsimp only
   split
   ·simp
   ·split
    ·simp
    ·split <;> simp
  omega
def rR (h:History) (t:Int):List Ask:=if (idx h.Txns t).Status=1 then qp (idx h.Txns t).Ops t (idx h.Txns t).Ops.length else []
def ve (h:History) (t:Int):List fJ:=if (idx h.Txns t).Status=1 then qY (idx h.Txns t).Ops t (idx h.Txns t).Ops.length else []
def Gg (ops:List Op):Prop:=ops.length≤16∧qM ops (fun o=>1≤o.Kind∧o.Kind≤8∧o.Vals.length≤64)
theorem wR.ops {h:History} {i:Nat} (hi:wR h i):Gg (idx h.Txns (i:Int)).Ops:=by
 obtain ⟨_,_,_,_,h1,h2⟩:=hi;refine ⟨by simpa [uy,bT] using h1,fun j hj => ?_⟩
 have:=h2 j (by simpa [uy,bT] using hj)
 dsimp only [uy,bT] at this
 rw [rq hj] at this
 unfold nT ql at this
 dsimp only at this
 grind
theorem EZ {h:History} {t:Nat} {f:dK} (ht:t < h.Txns.length) (ho:Gg (idx h.Txns (t:Int)).Ops) (ha:f.asks.length≤1000000) (hb:f.bad.length≤1000000) :
  Tri (aO f h (t:Int)) (fun r=>r=⟨f.asks++rR h (t:Int),f.bad++ve h (t:Int)⟩):=by
 unfold aO rR ve;refine ai (by omega) ?_;refine au (fun h1 => ?_) (fun h1 => ?_)
 ·rw [if_neg h1,if_neg h1]
  exact ag (by simp)
 ·have h1:(idx h.Txns (t:Int)).Status=1:=Decidable.of_not_not h1
  rw [if_pos h1,if_pos h1]
  generalize hx:(idx h.Txns (t:Int)).Ops=ops at ho ⊢;obtain ⟨a3,hall⟩:=ho;refine dC (k0:=0) ops.length (fun k s=>s.1=f.asks++qp ops (t:Int) k∧s.2.1=f.bad++qY ops (t:Int) k∧(∀ key,mat s.2.2.1 key=rQ ops key k)∧s.2.2.2=(k:Int)) (Nat.zero_le _)
   ⟨by simp [qp],by simp [qY],fun key=>rfl,rfl⟩ ?_
  rintro k ⟨l1,l2,m,x⟩ hk ⟨e1,e2,hm,e4⟩
  dsimp only at e1 e2 hm e4
  subst e1 e2 e4;unfold lF je jd fD
  simp only [cond_true,cond_false,hx,hm]
  have hw:w64 ((k:Int) + 1)=((k + 1:Nat):Int):=bn (by omega);have l1:=zx (ops:=ops) (t:=(t:Int)) (k:=k);have l2:=yw (ops:=ops) (t:=(t:Int)) (k:=k);have l3:=wS (ops:=ops) (key:=(idx ops (k:Int)).Key) (p:=k);have hn:∀ key,k < ops.length→rQ ops key (k + 1)=_:=fun key hk=>xN hk
  rw [hw]
  refine au (fun a1 => ?_) (fun a1 => ?_)
  ·have a0:k < ops.length:=by omega
   obtain ⟨o1,o2,o3⟩:=hall k a0;have a2:w64 ((idx ops (k:Int)).Kind - 4)=(idx ops (k:Int)).Kind - 4:=bv (by omega) (by omega);have hbf:=wO ((idx ops (k:Int)).Kind - 4) (s:=(idx ops (k:Int)).Vals) (args:=rQ ops (idx ops (k:Int)).Key k) (by omega) (by omega);have hcl:cu (idx ops (k:Int)).Vals=some (idx ops (k:Int)).Vals:=fT _ (by omega)
   rw [a2,hbf,hcl]
   simp only [List.length_append]
   have hA:=yu (ops:=ops) (t:=(t:Int)) (k:=k);have hB:=wT (ops:=ops) (t:=(t:Int)) (k:=k);have hnil:∀ l:List Int,l=[]↔l.length=0:=fun l=>List.length_eq_zero_iff.symm;unfold yo at hA;unfold zw at hB
   dsimp only at hA hB
   repeat' (first | contradiction | with_reducible refine au (fun hq => ?_) (fun hq => ?_) | with_reducible refine ai (by first | omega | grind [bv]) ?_ | with_reducible refine ax ?_ | with_reducible refine bJ ?_ | with_reducible refine bQ ?_ | with_reducible refine bR ?_ | with_reducible refine bS ?_ | with_reducible refine ag ?_)
   all_goals (refine ⟨a0,?_,?_,fun key => ?_,rfl⟩ <;> dsimp only)
   all_goals grind [tq]
  ·have:k=ops.length:=by omega
   subst this
   repeat' (first | contradiction | with_reducible refine au (fun hq => ?_) (fun hq => ?_) | with_reducible refine ai (by first | omega | grind [bv]) ?_ | with_reducible refine ax ?_ | with_reducible refine bJ ?_ | with_reducible refine bQ ?_ | with_reducible refine bR ?_ | with_reducible refine bS ?_ | with_reducible refine ag ?_)
   rfl
end Go.Proofs.YtnlkggppokcmfaaT
namespace Go.Proofs.YtnlkggppokcmfaaT
open Go Go.Proofs Go.Proofs.YtnlkggppokcmfaaE
set_option linter.unusedVariables false
set_option linter.unusedSimpArgs false
theorem Ai {a b:List Int} (ha:a.length < 2 ^ 62):bG a b=some (decide (a=b)):=by
 refine Ex.1 ?_;unfold bG;refine au (fun h => ?_) (fun h => ?_)
 ·refine ag ?_;have:a≠b:=by rintro rfl; exact h rfl
  simp [this]
 ·have hl:a.length=b.length:=by grind
  refine lv a.length (fun j=>idx a (j:Int)=idx b (j:Int)) ?_;intro k hk hJ;have hw:w64 ((k:Int) + 1)=((k + 1:Nat):Int):=bn (by omega);have hx:(∀ j:Nat,j < a.length→idx a (j:Int)=idx b (j:Int))→a=b:=fun h=>CK hl h;unfold gH
  dsimp only
  rw [hw]
  repeat' (first | contradiction | with_reducible refine au (fun hq => ?_) (fun hq => ?_) | with_reducible refine ai (by first | omega | grind [bv]) ?_ | with_reducible refine ax ?_ | with_reducible refine bJ ?_ | with_reducible refine bQ ?_ | with_reducible refine bR ?_ | with_reducible refine bS ?_ | with_reducible refine ag ?_)
  ·show false=true↔a=b
   grind
  ·exact ⟨rfl,by omega,by grind⟩
  ·show true=true↔a=b
   grind
end Go.Proofs.YtnlkggppokcmfaaT
namespace Go.Proofs.YtnlkggppokcmfaaT
open Go Go.Proofs Go.Proofs.YtnlkggppokcmfaaE
set_option linter.unusedVariables false
set_option linter.unusedSimpArgs false
abbrev OG (y:Op):Prop:=((Lit.int .i64 (y).Kind).wf=true)∧((Lit.int .i64 (y).Key).wf=true)∧((Lit.int .i64 (y).Arg).wf=true)∧(True)∧((∀ z ∈ (y).Vals,(Lit.int .i64 z).wf=true)∧((y).Vals).length * 8≤140737488351232)
abbrev TG (y:Txn):Prop:=((Lit.int .i64 (y).Proc).wf=true)∧((Lit.int .i64 (y).Status).wf=true)∧((Lit.int .i64 (y).From).wf=true)∧((Lit.int .i64 (y).To).wf=true)∧((∀ z ∈ (y).Ops,OG z)∧((y).Ops).length * 56≤140737488351232)
abbrev HG (K:ByteArray→Prop) (x:History):Prop:=((∀ y ∈ (x).Keys,K y)∧((x).Keys).length * 16≤140737488351232)∧((∀ y ∈ (x).Txns,TG y)∧((x).Txns).length * 56≤140737488351232)
theorem HG.small {K:ByteArray→Prop} {h:History} (g:HG K h):sU h :=
 ⟨g.1.2,g.2.2,uP.2 fun t ht=>⟨(g.2.1 t ht).2.2.2.2.2,uP.2 fun o ho=>((g.2.1 t ht).2.2.2.2.1 o ho).2.2.2.2.2⟩⟩
theorem Bu {h:History} {t:Nat} (ho:Gg (idx h.Txns (t:Int)).Ops):(rR h (t:Int)).length≤16∧(ve h (t:Int)).length≤16∧qM (rR h (t:Int)) (fun x=>x.Base.length < 2 ^ 62):=by
 have h1:=zx (ops:=(idx h.Txns (t:Int)).Ops) (t:=(t:Int)) (k:=(idx h.Txns (t:Int)).Ops.length);have h2:=yw (ops:=(idx h.Txns (t:Int)).Ops) (t:=(t:Int)) (k:=(idx h.Txns (t:Int)).Ops.length);have h3:=ho.1;refine ⟨?_,?_,?_⟩
 ·unfold rR; split
  ·omega
  ·simp
 ·unfold ve; split
  ·omega
  ·simp
 ·rw [uP]
  intro x hx;unfold rR at hx
  split at hx
  ·unfold qp at hx
   rw [List.mem_flatMap] at hx
   obtain ⟨p,hp,hx⟩:=hx;have hp:p < _:=List.mem_range.1 hp;have hv:=(ho.2 p hp).2.2;have hb:=Bp ((idx (idx h.Txns (t:Int)).Ops (p:Int)).Kind - 4) (idx (idx h.Txns (t:Int)).Ops (p:Int)).Vals (rQ (idx h.Txns (t:Int)).Ops (idx (idx h.Txns (t:Int)).Ops (p:Int)).Key p);unfold yo at hx
   dsimp only at hx
   split at hx
   ·simp at hx
   ·split at hx
    ·simp at hx; subst hx; dsimp only; omega
    ·split at hx
     ·simp at hx; subst hx; dsimp only; omega
     ·simp at hx
  ·simp at hx
end Go.Proofs.YtnlkggppokcmfaaT
namespace Go.Proofs.YtnlkggppokcmfaaT
open Go Go.Proofs Go.Proofs.YtnlkggppokcmfaaE
set_option linter.unusedVariables false
set_option linter.unusedSimpArgs false
def fB (h:History) (k:Nat):List Ask:=(List.range k).flatMap (fun t=>rR h ((t:Nat):Int))
def qw (h:History) (k:Nat):List fJ:=(List.range k).flatMap (fun t=>ve h ((t:Nat):Int))
theorem wU {h:History} {k:Nat}:fB h (k + 1)=fB h k++rR h (k:Int):=by
 unfold fB; rw [List.range_succ,List.flatMap_append]; simp
theorem vL {h:History} {k:Nat}:qw h (k + 1)=qw h k++ve h (k:Int):=by
 unfold qw; rw [List.range_succ,List.flatMap_append]; simp
theorem xO {h:History} (hS:iw h):∀ k:Nat,k≤h.Txns.length→(fB h k).length≤16 * k∧(qw h k).length≤16 * k∧qM (fB h k) (fun x=>x.Base.length < 2 ^ 62):=by
 intro k
 induction k with
 | zero=>intro _; simp [fB,qw,qM]
 | succ k ih =>
  intro hk;obtain ⟨i1,i2,i3⟩:=ih (by omega);obtain ⟨b1,b2,b3⟩:=Bu (hS.txn k (by omega)).ops
  rw [wU,vL,List.length_append,List.length_append]
  refine ⟨by omega,by omega,?_⟩
  rw [uP] at i3 b3 ⊢
  intro x hx;rcases List.mem_append.1 hx with hx | hx
  ·exact i3 x hx
  ·exact b3 x hx
theorem Cn {h:History} (hs:sU h) (hS:iw h) (hc:aG h=some 0):jR h=some (⟨fB h h.Txns.length,qw h h.Txns.length⟩,0):=by
 have a2:=hS.len;refine dV.1 ?_;unfold jR;refine bY hc ?_
 rw [bne_self_eq_false,cond_false]
 refine dC (k0:=0) h.Txns.length (fun k s=>s=(fB h k,qw h k,(k:Int))) (Nat.zero_le _) rfl ?_;rintro k s hk rfl;have hw:w64 ((k:Int) + 1)=((k + 1:Nat):Int):=bn (by omega);obtain ⟨i1,i2,i3⟩:=xO hS k hk;unfold sH
 dsimp only
 refine au (fun a1 => ?_) (fun a1 => ?_)
 ·have a0:k < h.Txns.length:=by omega
  refine dP (EZ a0 (hS.txn k a0).ops (by dsimp only; omega) (by dsimp only; omega)) (fun r hr => ?_);subst hr;refine ag ⟨a0,?_⟩
  dsimp only
  rw [hw,wU,vL]
 ·have:k=h.Txns.length:=by omega
  subst this;exact ax (ag rfl)
end Go.Proofs.YtnlkggppokcmfaaT
namespace Go.Proofs.YtnlkggppokcmfaaT
open Go Go.Proofs Go.Proofs.YtnlkggppokcmfaaE
set_option linter.unusedVariables false
set_option linter.unusedSimpArgs false
def fI (h:History) (t:Int) (key:Int):List Int:=rQ (idx h.Txns t).Ops key (idx h.Txns t).Ops.length
theorem qZ {h:History} {t key:Int}:(fI h t key).length≤(idx h.Txns t).Ops.length:=wS
theorem zy {x:Txn} {key:Int} (ho:x.Ops.length≤16):dD x key=some (rQ x.Ops key x.Ops.length):=by
 refine dV.1 ?_;unfold dD;refine dC (k0:=0) x.Ops.length (fun k s=>s=(rQ x.Ops key k,(k:Int))) (Nat.zero_le _) rfl ?_;rintro k s hk rfl;have hw:w64 ((k:Int) + 1)=((k + 1:Nat):Int):=bn (by omega);have l3:=wS (ops:=x.Ops) (key:=key) (p:=k);have hn:k < x.Ops.length→rQ x.Ops key (k + 1)=_:=fun hk=>xN hk;unfold qb mO mM
 dsimp only
 rw [hw]
 refine au (fun a1 => ?_) (fun a1 => ?_)
 ·have a0:k < x.Ops.length:=by omega
  replace hn:=hn a0
  repeat' (first | contradiction | with_reducible refine au (fun hq => ?_) (fun hq => ?_) | with_reducible refine ai (by first | omega | grind [bv]) ?_ | with_reducible refine ax ?_ | with_reducible refine bJ ?_ | with_reducible refine bQ ?_ | with_reducible refine bR ?_ | with_reducible refine bS ?_ | with_reducible refine ag ?_)
  all_goals (refine ⟨a0,?_⟩; dsimp only; grind)
 ·have:k=x.Ops.length:=by omega
  subst this
  repeat' (first | contradiction | with_reducible refine au (fun hq => ?_) (fun hq => ?_) | with_reducible refine ai (by first | omega | grind [bv]) ?_ | with_reducible refine ax ?_ | with_reducible refine bJ ?_ | with_reducible refine bQ ?_ | with_reducible refine bR ?_ | with_reducible refine bS ?_ | with_reducible refine ag ?_)
  all_goals rfl
theorem wm {h:History} {t key:Int} (ht:0≤t∧t < (h.Txns.length:Int)) (ho:(idx h.Txns t).Ops.length≤16):aL h t key=some (fI h t key):=by
 refine dV.1 ?_;unfold aL fI;generalize hx:(idx h.Txns t).Ops=ops at ho ⊢;refine dC (k0:=0) ops.length (fun k s=>s=(rQ ops key k,(k:Int))) (Nat.zero_le _) rfl ?_;rintro k s hk rfl;have hw:w64 ((k:Int) + 1)=((k + 1:Nat):Int):=bn (by omega);have l3:=wS (ops:=ops) (key:=key) (p:=k);have hn:k < ops.length→rQ ops key (k + 1)=_:=fun hk=>xN hk;unfold oL kU kT jC
 simp only [hx,hw,Option.bind_some]
 refine ai ht ?_;refine au (fun a1 => ?_) (fun a1 => ?_)
 ·have a0:k < ops.length:=by omega
  replace hn:=hn a0
  repeat' (first | contradiction | with_reducible refine au (fun hq => ?_) (fun hq => ?_) | with_reducible refine ai (by first | omega | grind [bv]) ?_ | with_reducible refine ax ?_ | with_reducible refine bJ ?_ | with_reducible refine bQ ?_ | with_reducible refine bR ?_ | with_reducible refine bS ?_ | with_reducible refine ag ?_)
  all_goals (refine ⟨a0,?_⟩; dsimp only; grind)
 ·have:k=ops.length:=by omega
  subst this
  repeat' (first | contradiction | with_reducible refine au (fun hq => ?_) (fun hq => ?_) | with_reducible refine ai (by first | omega | grind [bv]) ?_ | with_reducible refine ax ?_ | with_reducible refine bJ ?_ | with_reducible refine bQ ?_ | with_reducible refine bR ?_ | with_reducible refine bS ?_ | with_reducible refine ag ?_)
  all_goals rfl
def Co (h:History) (key:Int) (t:Nat):Bool:=decide ((idx h.Txns (t:Int)).Status≠2∧0 < (fI h (t:Int) key).length)
def eF (h:History) (key:Int) (k:Nat):List Int:=((List.range k).filter (Co h key)).map (fun t:Nat=>(t:Int))
def fQ (h:History) (a:Ask) (k:Nat):List Int:=(eF h a.Key k).filter (fun t=>decide (t≠a.Txn))
theorem uM {h:History} {key:Int} {k:Nat}:eF h key (k + 1)=if Co h key k then eF h key k++[(k:Int)] else eF h key k:=by
 unfold eF
 rw [List.range_succ,List.filter_append,List.map_append]
 by_cases hw:Co h key k=true <;> simp [hw]
theorem oC {h:History} {key:Int} {k:Nat}:(eF h key k).length≤k:=by
 unfold eF
 rw [List.length_map]
 exact Nat.le_trans (List.length_filter_le _ _) (by simp)
theorem Aj {h:History} {a:Ask} {k:Nat}:fQ h a (k + 1)=if Co h a.Key k∧(k:Int)≠a.Txn then fQ h a k++[(k:Int)] else fQ h a k:=by
 unfold fQ
 rw [uM]
 by_cases hw:Co h a.Key k=true <;> by_cases hn:(k:Int)=a.Txn <;> simp [hw,hn]
theorem pQ {h:History} {a:Ask} {k:Nat}:(fQ h a k).length≤k:=Nat.le_trans (List.length_filter_le _ _) oC
theorem yx {h:History} {key:Int} {k:Nat} {t:Int}:t ∈ eF h key k↔0≤t∧t < (k:Int)∧(idx h.Txns t).Status≠2∧0 < (fI h t key).length:=by
 unfold eF
 simp only [List.mem_map,List.mem_filter,List.mem_range,Co,decide_eq_true_eq]
 constructor
 ·rintro ⟨n,⟨hn,h1,h2⟩,rfl⟩;exact ⟨by omega,by omega,h1,h2⟩
 ·rintro ⟨h0,h1,h2,h3⟩;refine ⟨t.toNat,⟨by omega,?_⟩,by omega⟩
  rw [show ((t.toNat:Nat):Int)=t by omega]
  exact ⟨h2,h3⟩
theorem nU {h:History} {a:Ask} {k:Nat} {t:Int}:t ∈ fQ h a k↔(0≤t∧t < (k:Int)∧(idx h.Txns t).Status≠2∧0 < (fI h t a.Key).length)∧t≠a.Txn:=by
 unfold fQ
 rw [List.mem_filter,yx,decide_eq_true_eq]
theorem wV {h:History} (hS:iw h) (hc:aG h=some 0) {key:Int}:bV h key=some (eF h key h.Txns.length):=by
 have a2:=hS.len;refine dV.1 ?_;unfold bV;refine bY hc ?_
 rw [bne_self_eq_false,cond_false]
 refine dC (k0:=0) h.Txns.length (fun k s=>s=(eF h key k,(k:Int))) (Nat.zero_le _) rfl ?_;rintro k s hk rfl;have hw:w64 ((k:Int) + 1)=((k + 1:Nat):Int):=bn (by omega);have l3:=oC (h:=h) (key:=key) (k:=k);have hn:=uM (h:=h) (key:=key) (k:=k);unfold Co fI at hn;unfold nO lc kZ
 dsimp only
 rw [hw]
 refine au (fun a1 => ?_) (fun a1 => ?_)
 ·have a0:k < h.Txns.length:=by omega
  have hwt:=zy (x:=idx h.Txns (k:Int)) (key:=key) (hS.txn k a0).ops.1
  simp only [hwt,Option.bind_some]
  repeat' (first | contradiction | with_reducible refine au (fun hq => ?_) (fun hq => ?_) | with_reducible refine ai (by first | omega | grind [bv]) ?_ | with_reducible refine ax ?_ | with_reducible refine bJ ?_ | with_reducible refine bQ ?_ | with_reducible refine bR ?_ | with_reducible refine bS ?_ | with_reducible refine ag ?_)
  all_goals (refine ⟨a0,?_⟩; dsimp only; grind)
 ·have:k=h.Txns.length:=by omega
  subst this
  repeat' (first | contradiction | with_reducible refine au (fun hq => ?_) (fun hq => ?_) | with_reducible refine ai (by first | omega | grind [bv]) ?_ | with_reducible refine ax ?_ | with_reducible refine bJ ?_ | with_reducible refine bQ ?_ | with_reducible refine bR ?_ | with_reducible refine bS ?_ | with_reducible refine ag ?_)
  all_goals rfl
theorem yz {h:History} (hS:iw h) {a:Ask}:aN h a=some (fQ h a h.Txns.length):=by
 have a2:=hS.len;refine dV.1 ?_;unfold aN;refine dC (k0:=0) h.Txns.length (fun k s=>s=(fQ h a k,(k:Int))) (Nat.zero_le _) rfl ?_;rintro k s hk rfl;have hw:w64 ((k:Int) + 1)=((k + 1:Nat):Int):=bn (by omega);have l3:=pQ (h:=h) (a:=a) (k:=k);have hn:=Aj (h:=h) (a:=a) (k:=k);unfold Co at hn;unfold nI iE jX
 dsimp only
 rw [hw]
 refine au (fun a1 => ?_) (fun a1 => ?_)
 ·have a0:k < h.Txns.length:=by omega
  have hwt:=wm (h:=h) (t:=(k:Int)) (key:=a.Key) ⟨by omega,by omega⟩ (hS.txn k a0).ops.1
  simp only [hwt,Option.bind_some]
  repeat' (first | contradiction | with_reducible refine au (fun hq => ?_) (fun hq => ?_) | with_reducible refine ai (by first | omega | grind [bv]) ?_ | with_reducible refine ax ?_ | with_reducible refine bJ ?_ | with_reducible refine bQ ?_ | with_reducible refine bR ?_ | with_reducible refine bS ?_ | with_reducible refine ag ?_)
  all_goals (refine ⟨a0,?_⟩; dsimp only; grind)
 ·have:k=h.Txns.length:=by omega
  subst this
  repeat' (first | contradiction | with_reducible refine au (fun hq => ?_) (fun hq => ?_) | with_reducible refine ai (by first | omega | grind [bv]) ?_ | with_reducible refine ax ?_ | with_reducible refine bJ ?_ | with_reducible refine bQ ?_ | with_reducible refine bR ?_ | with_reducible refine bS ?_ | with_reducible refine ag ?_)
  all_goals rfl
theorem zz {h:History} (hS:iw h) (hc:aG h=some 0) {t key:Int}:fF h t key =
  some (if 0≤t∧t < (h.Txns.length:Int) then (fI h t key,decide (0 < (fI h t key).length)) else ([],false)):=by
 refine dV.1 ?_;unfold fF kK
 simp only [hc,Option.bind_some]
 by_cases ht:0≤t∧t < (h.Txns.length:Int)
 ·have h2:t=((t.toNat:Nat):Int):=by omega
  have ho:=(hS.txn t.toNat (by omega)).ops.1
  rw [← h2] at ho
  have hwt:=zy (x:=idx h.Txns t) (key:=key) ho
  simp only [hwt,Option.bind_some]
  rw [if_pos ht]
  unfold fI
  repeat' (first | contradiction | with_reducible refine au (fun hq => ?_) (fun hq => ?_) | with_reducible refine ai (by first | omega | grind [bv]) ?_ | with_reducible refine ax ?_ | with_reducible refine bJ ?_ | with_reducible refine bQ ?_ | with_reducible refine bR ?_ | with_reducible refine bS ?_ | with_reducible refine ag ?_)
  all_goals (first | omega | simp)
 ·rw [if_neg ht]
  repeat' (first | contradiction | with_reducible refine au (fun hq => ?_) (fun hq => ?_) | with_reducible refine ai (by first | omega | grind [bv]) ?_ | with_reducible refine ax ?_ | with_reducible refine bJ ?_ | with_reducible refine bQ ?_ | with_reducible refine bR ?_ | with_reducible refine bS ?_ | with_reducible refine ag ?_)
  all_goals (first | omega | rfl | simp)
def uN (h:History) (a:Ask) (l:List Int):List aD:=l.map (fun t=>⟨t,fI h t a.Key⟩)
theorem yA {h:History} (hS:iw h) (hc:aG h=some 0) {a:Ask}:bD h a=some (uN h a (fQ h a h.Txns.length)):=by
 have a2:=hS.len;refine dV.1 ?_;unfold bD;refine bY (wV hS hc) ?_;obtain ⟨W,hW⟩:∃ W,W=eF h a.Key h.Txns.length:=⟨_,rfl⟩;have hWl:=oC (h:=h) (key:=a.Key) (k:=h.Txns.length);have hWm:∀ j:Nat,j < W.length→idx W (j:Int) ∈ eF h a.Key h.Txns.length:=by
  intro j hj
  rw [← hW,dh (n:=j) (by omega) (by omega)]
  exact List.getElem_mem _
 unfold fQ
 rw [← hW] at hWl ⊢
 refine dC (k0:=0) W.length (fun k s=>s=(uN h a ((W.take k).filter (fun t=>decide (t≠a.Txn))),(k:Int))) (Nat.zero_le _) (by simp [uN]) ?_;rintro k s hk rfl;have hw:w64 ((k:Int) + 1)=((k + 1:Nat):Int):=bn (by omega);have l3:(uN h a ((W.take k).filter (fun t=>decide (t≠a.Txn)))).length≤32:=by
  unfold uN
  rw [List.length_map]
  exact Nat.le_trans (List.length_filter_le _ _) (by rw [List.length_take]; omega)
 unfold nP lh lg
 dsimp only
 rw [hw]
 refine au (fun a1 => ?_) (fun a1 => ?_)
 ·have a0:k < W.length:=by omega
  have hm:=yx.1 (hWm k a0);have hn:uN h a ((W.take (k + 1)).filter (fun t=>decide (t≠a.Txn)))=if idx W (k:Int)≠a.Txn then uN h a ((W.take k).filter (fun t=>decide (t≠a.Txn)))++[⟨idx W (k:Int),fI h (idx W (k:Int)) a.Key⟩] else uN h a ((W.take k).filter (fun t=>decide (t≠a.Txn))):=by
   rw [List.take_succ_eq_append_getElem a0,List.filter_append]
   have:W[k]=idx W (k:Int):=(dh (n:=k) (by omega) a0).symm
   rw [this]
   unfold uN
   by_cases hq:idx W (k:Int)=a.Txn <;> simp [hq]
  simp only [zz hS hc,Option.bind_some,if_pos (show 0≤idx W (k:Int)∧idx W (k:Int) < (h.Txns.length:Int) from ⟨hm.1,hm.2.1⟩)]
  repeat' (first | contradiction | with_reducible refine au (fun hq => ?_) (fun hq => ?_) | with_reducible refine ai (by first | omega | grind [bv]) ?_ | with_reducible refine ax ?_ | with_reducible refine bJ ?_ | with_reducible refine bQ ?_ | with_reducible refine bR ?_ | with_reducible refine bS ?_ | with_reducible refine ag ?_)
  all_goals (refine ⟨a0,?_⟩; dsimp only; grind)
 ·have:k=W.length:=by omega
  subst this
  repeat' (first | contradiction | with_reducible refine au (fun hq => ?_) (fun hq => ?_) | with_reducible refine ai (by first | omega | grind [bv]) ?_ | with_reducible refine ax ?_ | with_reducible refine bJ ?_ | with_reducible refine bQ ?_ | with_reducible refine bR ?_ | with_reducible refine bS ?_ | with_reducible refine ag ?_)
  all_goals exact (by rw [List.take_length]:uN h a ((W.take W.length).filter (fun t=>decide (t≠a.Txn)))=uN h a (W.filter (fun t=>decide (t≠a.Txn))))
end Go.Proofs.YtnlkggppokcmfaaT
namespace Go.Proofs.YtnlkggppokcmfaaT
open Go Go.Proofs Go.Proofs.YtnlkggppokcmfaaE
set_option linter.unusedVariables false
set_option linter.unusedSimpArgs false
def opAt (h:History) (t p:Int):Op:=idx (idx h.Txns t).Ops p
theorem Et {h:History} {n t p:Nat} (ht:t < n) (hp:p < (idx h.Txns (t:Int)).Ops.length):(ql h (opAt h (t:Int) (p:Int)),(t:Int)) ∈ pI h n:=by
 unfold pI vK bT opAt
 rw [List.mem_flatMap]
 refine ⟨t,List.mem_range.2 ht,?_⟩
 rw [List.map_map,List.mem_map]
 refine ⟨idx (idx h.Txns (t:Int)).Ops (p:Int),?_,rfl⟩
 rw [dh (n:=p) rfl hp]
 exact List.getElem_mem _
theorem Gh {L:List (Call×Int)} (h:mo [] L) {e f:Call×Int} (he:e ∈ L) (hf:f ∈ L) (hk:e.1.Key=f.1.Key):typ e.1.Kind=typ f.1.Kind:=by
 obtain ⟨i,hi,rfl⟩:=List.getElem_of_mem he;obtain ⟨j,hj,rfl⟩:=List.getElem_of_mem hf;rcases Nat.lt_trichotomy i j with hij | hij | hij
 ·have:=(h j hj).1 L[i] (by rw [List.nil_append]; exact List.mem_take_iff_getElem.2 ⟨i,by omega,rfl⟩) (by rw [dh (n:=j) rfl hj]; exact hk)
  rwa [dh (n:=j) rfl hj] at this
 ·subst hij; rfl
 ·have:=(h i hi).1 L[j] (by rw [List.nil_append]; exact List.mem_take_iff_getElem.2 ⟨j,by omega,rfl⟩) (by rw [dh (n:=i) rfl hi]; exact hk.symm)
  rw [dh (n:=i) rfl hi] at this
  exact this.symm
theorem Cq {h:History} (hS:iw h) {t p t' p':Nat} (ht:t < h.Txns.length) (hp:p < (idx h.Txns (t:Int)).Ops.length) (ht':t' < h.Txns.length) (hp':p' < (idx h.Txns (t':Int)).Ops.length)
  (hk:(opAt h (t:Int) (p:Int)).Key=(opAt h (t':Int) (p':Int)).Key):typ (opAt h (t:Int) (p:Int)).Kind=typ (opAt h (t':Int) (p':Int)).Kind :=
 Gh hS.ents (Et ht hp) (Et ht' hp') (by show idx h.Keys _=idx h.Keys _; rw [hk])
theorem sV {h:History} (hS:iw h) {t p:Nat} (ht:t < h.Txns.length) (hp:p < (idx h.Txns (t:Int)).Ops.length):1≤(opAt h (t:Int) (p:Int)).Kind∧(opAt h (t:Int) (p:Int)).Kind≤8:=by
 obtain ⟨h1,h2⟩:=(hS.txn t ht).ops;have:=h2 p hp;exact ⟨this.1,this.2.1⟩
theorem Fa {h:History} (hS:iw h) {a:Ask} {t p:Nat} (ht:t < h.Txns.length) (hp:p < (idx h.Txns (t:Int)).Ops.length) (e1:a.Txn=(t:Int)) (e2:a.Place=(p:Int)) :
  nQ h a=some (typ (opAt h (t:Int) (p:Int)).Kind):=by
 obtain ⟨k1,k2⟩:=sV hS ht hp;refine dV.1 ?_;unfold nQ
 rw [e1,e2]
 refine ai (by omega) (ai (by omega) ?_);exact bY (ze k1 k2) (ag rfl)
theorem xP {h:History} (hS:iw h) (hc:aG h=some 0) {key:Int} {t0 p0:Nat} (a2:t0 < h.Txns.length) (a3:p0 < (idx h.Txns (t0:Int)).Ops.length) (a5:(opAt h (t0:Int) (p0:Int)).Key=key) :
  dX h key=some (typ (opAt h (t0:Int) (p0:Int)).Kind):=by
 have a9:=hS.len;refine dV.1 ?_;unfold dX;refine bY hc ?_
 rw [bne_self_eq_false,cond_false]
 refine dC (k0:=0) h.Txns.length (fun k s=>s=(k:Int)∧∀ t p:Nat,t < k→p < (idx h.Txns (t:Int)).Ops.length→(opAt h (t:Int) (p:Int)).Key≠key) (Nat.zero_le _) ⟨rfl,fun t p h=>absurd h (Nat.not_lt_zero _)⟩ ?_;rintro k s hk ⟨rfl,hno⟩;have hw:w64 ((k:Int) + 1)=((k + 1:Nat):Int):=bn (by omega);unfold rD;refine au (fun a6 => ?_) (fun a6 => ?_)
 ·have a0:k < h.Txns.length:=by omega
  refine ai (by omega) ?_;have b0:=(hS.txn k a0).ops.1;refine dC (k0:=0) (idx h.Txns (k:Int)).Ops.length (fun m s=>s=(m:Int)∧∀ p:Nat,p < m→(opAt h (k:Int) (p:Int)).Key≠key) (Nat.zero_le _) ⟨rfl,fun p h=>absurd h (Nat.not_lt_zero _)⟩ ?_;rintro m s hm ⟨rfl,a4⟩;have a7:w64 ((m:Int) + 1)=((m + 1:Nat):Int):=bn (by omega);unfold rC
  dsimp only
  rw [hw,a7]
  refine au (fun a8 => ?_) (fun a8 => ?_)
  ·have a1:m < (idx h.Txns (k:Int)).Ops.length:=by omega
   refine ai (by omega) ?_;refine au (fun he => ?_) (fun he => ?_)
   ·obtain ⟨k1,k2⟩:=sV hS a0 a1;refine bY (uL k1 k2) (ax (ax (ag ?_)));exact Cq hS a0 a1 a2 a3 ((show (opAt h (k:Int) (m:Int)).Key=key from he).trans a5.symm)
   ·refine ag ⟨a1,rfl,fun p hp => ?_⟩;rcases Nat.lt_or_ge p m with h1 | h1
    ·exact a4 p h1
    ·have:p=m:=by omega
     subst this;exact he
  ·have:m=(idx h.Txns (k:Int)).Ops.length:=by omega
   subst this;refine ax (ag ⟨a0,rfl,fun t p ht hp => ?_⟩);rcases Nat.lt_or_ge t k with h1 | h1
   ·exact hno t p h1 hp
   ·have:t=k:=by omega
    subst this;exact a4 p hp
 ·have:k=h.Txns.length:=by omega
  subst this;exact absurd a5 (hno t0 p0 a2 a3)
end Go.Proofs.YtnlkggppokcmfaaT
