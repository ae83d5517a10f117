import Derived.Test.YtfpeabnehpclnaaGreatTD
import Derived.Test.YtfpeabnehpclnaaGreatY
import Derived.Test.YtfpeabnehpclnaaGreatTF
namespace Go.Proofs.YtfpeabnehpclnaaGreatT
open Go Go.Proofs Go.Proofs.YtfpeabnehpclnaaGreatE
set_option linter.unusedVariables false
set_option linter.unusedSimpArgs false
def Upm {S Ω:Type} (n k:Nat) (J:Nat→S→Prop) (Q:Ω→Prop):S ⊕ Ω→Prop
 | .inl s'=>k < n∧J (k + 1) s'
 | .inr o=>Q o
theorem bY {S Ω:Type} {step:S→Option (S ⊕ Ω)} {Q:Ω→Prop} (n:Nat) (J:Nat→S→Prop) {s0:S} {k0:Nat} (a0:k0≤n) (h0:J k0 s0)
  (hs:∀ (k:Nat) (s:S),k≤n→J k s→Tri (step s) (Upm n k J Q)):Tri (iter step s0) Q:=by
 generalize hd:n - k0=d
 induction d using Nat.strongRecOn generalizing k0 s0 with
 | ind d ih =>
  obtain ⟨x,hx,hr⟩:=hs k0 s0 a0 h0
  rw [zl,hx]
  cases x with
  | inl s'=>exact ih (n - (k0 + 1)) (by have:=hr.1; omega) (k0:=k0 + 1) (by have:=hr.1; omega) hr.2 rfl
  | inr o=>exact ⟨o,rfl,hr⟩
def Asc (s:List Int):Prop:=∀ k:Nat,k + 1 < s.length→idx s (k:Int) < idx s ((k + 1:Nat):Int)
instance (s:List Int):Decidable (Asc s):=by
 unfold Asc;exact decidable_of_iff (∀ k,k < s.length→k + 1 < s.length→idx s (k:Int) < idx s ((k + 1:Nat):Int)) ⟨fun h k hk=>h k (by omega) hk,fun h k _ hk=>h k hk⟩
theorem jO {s:List Int} {k:Nat} (h:k < s.length):idx s (k:Int)=s[k]:=dE rfl h
theorem AP {s:List Int}:Asc s↔s.Pairwise (· < ·):=by
 rw [List.pairwise_iff_getElem]
 constructor
 ·intro h i j hi hj hij
  induction j with
  | zero=>omega
  | succ j ih =>
   have h1:=h j hj
   rw [jO (by omega),jO hj] at h1
   rcases Nat.lt_or_ge i j with h2 | h2
   ·exact Int.lt_trans (ih (by omega) h2) h1
   ·have:i=j:=by omega
    subst this;exact h1
 ·intro h k hk
  rw [jO (by omega),jO hk]
  exact h k (k + 1) (by omega) hk (by omega)
def SOk (t:Int) (s:List Int):Bool:=(t == 1 && decide (s.length≤1)) || (t == 2 && decide (s.length≤64)) || (t == 3 && decide (Asc s) && decide (s.length≤64)) || (t == 4 && s.length == 1)
def chk (t:Int) (s:List Int):Int:=if 1≤t∧t≤4 then (if SOk t s then 0 else 80) else 1
theorem nL {k:Nat} (h:k < 2 ^ 62) (h1:1≤k):w64 ((k:Int) - 1)=((k - 1:Nat):Int):=by
 rw [qH (by omega) (by omega)]; omega
theorem EQ {s:List Int} (hs:s.length < 2 ^ 62):iD () s=some (decide (Asc s) && decide (s.length≤64)):=by
 unfold iD;refine dS.1 ?_;refine bY (k0:=1) (s.length + 1) (fun k x=>x=(k:Int)∧1≤k∧∀ j:Nat,j + 1 < k→j + 1 < s.length→idx s (j:Int) < idx s ((j + 1:Nat):Int)) (by omega) ⟨rfl,Nat.le_refl _,fun j h=>by omega⟩ ?_
 rintro k x hk ⟨rfl,a0,hJ⟩;unfold rV;refine lK (fun h => ?_) (fun h => ?_)
 ·have h:(k:Int) < s.length:=of_decide_eq_true h;have e:=nL (k:=k) (by omega) a0;refine ai (by rw [e]; omega) (ai (by omega) (lK (fun h2 => ?_) (fun h2 => ?_)))
  ·have h2:idx s (k:Int)≤idx s (w64 ((k:Int) - 1)):=of_decide_eq_true h2
   rw [e] at h2
   refine aB (ag ?_)
   show false=_
   have hn:¬ Asc s:=by
    intro hA;have:=hA (k - 1) (by omega)
    rw [show k - 1 + 1=k by omega] at this
    omega
   simp [hn]
  ·have h2:¬ idx s (k:Int)≤idx s (w64 ((k:Int) - 1)):=of_decide_eq_false h2
   rw [e] at h2
   refine ⟨_,rfl,by omega,aZ (by omega),by omega,fun j hj hl => ?_⟩
   rcases Nat.lt_or_ge (j + 1) k with h3 | h3
   ·exact hJ j h3 hl
   ·have:j=k - 1:=by omega
    subst this
    rw [show k - 1 + 1=k by omega]
    omega
 ·have h:¬ (k:Int) < s.length:=of_decide_eq_false h;refine aB (ag ?_)
  show decide ((s.length:Int)≤64)=_
  have hA:Asc s:=fun j hj=>hJ j (by omega) hj
  simp only [hA,decide_true,Bool.true_and]
  congr 1
  exact propext ⟨fun h=>by omega,fun h=>by omega⟩
theorem Gt {t:Int} {s:List Int} (h:1≤t∧t≤4):chk t s=if SOk t s then 0 else 80:=if_pos h
theorem four {t:Int} (h:1≤t∧t≤4):t=1∨t=2∨t=3∨t=4:=by omega
theorem Ri {s:List Int} {n:Nat}:decide ((s.length:Int)≤(n:Int))=decide (s.length≤n):=by
 congr 1
 exact propext ⟨fun h=>by omega,fun h=>by omega⟩
theorem Hl {t:Int} (h:¬ (1≤t∧t≤4)):lV t=some (-1):=by
 have e1:(t == 1)=false:=by rw [beq_eq_false_iff_ne]; omega
 have e2:(t == 2)=false:=by rw [beq_eq_false_iff_ne]; omega
 have e3:(t == 3)=false:=by rw [beq_eq_false_iff_ne]; omega
 have e4:(t == 4)=false:=by rw [beq_eq_false_iff_ne]; omega
 simp [lV,e1,e2,e3,e4]
theorem Dj (t:Int) {s:List Int} (hs:s.length < 2 ^ 62):lX t s=some (chk t s):=by
 by_cases ht:1≤t∧t≤4
 ·rw [Gt ht]
  rcases four ht with rfl | rfl | rfl | rfl
  ·have:=Ri (s:=s) (n:=1)
   simp only [Int.cast_ofNat_Int] at this
   simp [lX,lV,lW,SOk]
   by_cases h:s.length≤1
   ·have h':(s.length:Int)≤1:=by omega
    simp [h,h']
   ·have h':¬ (s.length:Int)≤1:=by omega
    simp [h,h']
  ·simp [lX,lV,qM,SOk]
   by_cases h:s.length≤64
   ·have h':(s.length:Int)≤64:=by omega
    simp [h,h']
   ·have h':¬ (s.length:Int)≤64:=by omega
    simp [h,h']
  ·simp [lX,lV,EQ hs,SOk]
   by_cases h:Asc s <;> by_cases h':s.length≤64 <;> simp [h,h']
  ·simp [lX,lV,mX,SOk]
   by_cases h:s.length=1
   ·have h':(s.length:Int)=1:=by omega
    simp [h,h']
   ·have h':((s.length:Int) == 1)=false:=by rw [beq_eq_false_iff_ne]; omega
    simp [h,h']
 ·rw [chk,if_neg ht]
  simp [lX,Hl ht]
theorem Hm {s:List Int} (hs:s.length < 2 ^ 62):iter (mi s) (decide ((s.length:Int)≤64),1)=some (if decide (Asc s) && decide (s.length≤64) then 0 else 80):=by
 refine dS.1 ?_;refine bY (k0:=1) (s.length + 1) (fun k x=>x.2=(k:Int)∧1≤k∧(x.1=true↔s.length≤64∧∀ j:Nat,j + 1 < k→j + 1 < s.length→idx s (j:Int) < idx s ((j + 1:Nat):Int))) (by omega)
  ⟨rfl,Nat.le_refl _,⟨fun h=>⟨by have:=of_decide_eq_true h; omega,fun j hj=>by omega⟩,fun h=>decide_eq_true (by omega)⟩⟩ ?_
 rintro k ⟨b,x⟩ hk ⟨hx,a0,hJ⟩;have hx:x=(k:Int):=hx;subst hx;unfold mi;refine lK (fun h => ?_) (fun h => ?_)
 ·have h:(k:Int) < s.length:=of_decide_eq_true h;have e:=nL (k:=k) (by omega) a0;refine lK (fun hb => ?_) (fun hb => ?_)
  ·have hb':=hJ.1 hb;refine ai (by rw [e]; omega) (ai (by omega) ⟨_,rfl,by omega,aZ (by omega),by omega,?_⟩)
   show decide _=true↔_
   rw [e,decide_eq_true_iff]
   constructor
   ·intro h2;refine ⟨hb'.1,fun j hj hl => ?_⟩;rcases Nat.lt_or_ge (j + 1) k with h3 | h3
    ·exact hb'.2 j h3 hl
    ·have:j=k - 1:=by omega
     subst this
     rw [show k - 1 + 1=k by omega]
     omega
   ·rintro ⟨_,h2⟩;have:=h2 (k - 1) (by omega) (by omega)
    rw [show k - 1 + 1=k by omega] at this
    omega
  ·refine ⟨_,rfl,by omega,aZ (by omega),by omega,?_⟩
   show false=true↔_
   constructor
   ·intro h; cases h
   ·rintro ⟨h1,h2⟩;have:=hJ.2 ⟨h1,fun j hj=>h2 j (by omega)⟩;have hb:b=false:=hb
    rw [hb] at this
    cases this
 ·have h:¬ (k:Int) < s.length:=of_decide_eq_false h;refine aB ?_;have hb:b=(decide (Asc s) && decide (s.length≤64)):=by
   rw [Bool.eq_iff_iff,hJ]
   simp only [Bool.and_eq_true,decide_eq_true_eq]
   exact ⟨fun h=>⟨fun j hj=>h.2 j (by omega) hj,h.1⟩,fun h=>⟨h.2,fun j _ hj=>h.1 j hj⟩⟩
  unfold eU
  rw [← hb]
  cases b
  ·exact ⟨_,rfl,rfl⟩
  ·exact ⟨_,rfl,rfl⟩
theorem ER (t:Int) {s:List Int} (hs:s.length < 2 ^ 62):aO t s=some (chk t s):=by
 by_cases ht:1≤t∧t≤4
 ·rw [Gt ht]
  rcases four ht with rfl | rfl | rfl | rfl
  ·simp [aO,eX,eU,SOk]
   by_cases h:s.length≤1
   ·have h':(s.length:Int)≤1:=by omega
    simp [h,h']
   ·have h':¬ (s.length:Int)≤1:=by omega
    simp [h,h']
  ·simp [aO,eX,eU,SOk]
   by_cases h:s.length≤64
   ·have h':(s.length:Int)≤64:=by omega
    simp [h,h']
   ·have h':¬ (s.length:Int)≤64:=by omega
    simp [h,h']
  ·simp [aO,eX]
   have:=Hm hs
   simp at this
   rw [this]
   simp [SOk]
  ·simp [aO,eX,eU,SOk]
   by_cases h:s.length=1
   ·have h':(s.length:Int)=1:=by omega
    simp [h,h']
   ·have h':((s.length:Int) == 1)=false:=by rw [beq_eq_false_iff_ne]; omega
    simp [h,h']
 ·rw [chk,if_neg ht]
  by_cases h1:t < 1
  ·simp [aO,eX,h1]
  ·have:t > 4:=by omega
   simp [aO,eX,h1,this]
def lb (s:List Int) (a:Int):Nat:=s.findIdx (fun x=>decide (a≤x))
def hit (s:List Int) (a:Int):Bool:=decide (lb s a < s.length) && (idx s (lb s a:Int) == a)
def ins (s:List Int) (a:Int):List Int:=s.take (lb s a)++((if hit s a then [] else [a])++s.drop (lb s a))
theorem NP (s:List Int) (a:Int):lb s a≤s.length:=List.findIdx_le_length
theorem QQ {s:List Int} {a:Int} {k:Nat} (h:k < lb s a):idx s (k:Int) < a:=by
 have h1:k < s.length:=Nat.lt_of_lt_of_le h (NP s a)
 rw [jO h1]
 have:=List.not_of_lt_findIdx (p:=fun x=>decide (a≤x)) (xs:=s) h
 simpa using this
theorem QR {s:List Int} {a:Int} (h:lb s a < s.length):a≤idx s (lb s a:Int):=by
 rw [jO h]
 have:=List.findIdx_getElem (p:=fun x=>decide (a≤x)) (xs:=s) (w:=h);exact of_decide_eq_true this
theorem Qv {s:List Int} {a:Int} {i:Nat} (hi:i≤s.length) (h1:∀ k:Nat,k < i→idx s (k:Int) < a) (h2:i < s.length→a≤idx s (i:Int)):lb s a=i:=by
 rcases Nat.lt_trichotomy (lb s a) i with h | h | h
 ·have:=QR (s:=s) (a:=a) (by omega);have:=h1 _ h
  omega
 ·exact h
 ·have h3:=QQ h;have:=h2 (by have:=NP s a; omega)
  omega
theorem PH {i j:Nat} (hi:i < 2 ^ 62) (hj:j < 2 ^ 62):w64 (fu .u64 (IntKind.wrap .u64 (w64 ((i:Int) + (j:Int)))) (1:Int))=(((i + j) / 2:Nat):Int):=by
 have e1:w64 ((i:Int) + (j:Int))=((i + j:Nat):Int):=by rw [qH (by omega) (by omega)]; omega
 rw [e1,wrap_u64 (by omega),Jt (n:=1) (i:=(1:Int)) rfl (by omega),qH (by omega) (by omega)]
 simp [Nat.shiftRight_eq_div_pow]
theorem LV (a b:Int):ql a b=some (decide (a < b)):=by simp [ql,oG]
theorem IW {s:List Int} (a:Int) (hA:Asc s) (hs:s.length < 2 ^ 62):bV s a=some ((lb s a:Int),hit s a):=by
 unfold bV;refine dS.1 ?_;have hP:=List.pairwise_iff_getElem.1 (AP.1 hA);have hmono:∀ p q:Nat,p≤q→q < s.length→idx s (p:Int)≤idx s (q:Int):=by
  intro p q hpq hq;rcases Nat.lt_or_ge p q with h | h
  ·rw [jO (by omega),jO hq]
   exact Int.le_of_lt (hP p q (by omega) hq h)
  ·have:p=q:=by omega
   subst this;exact Int.le_refl _
 refine Fx (fun x:Int×Int=>∃ i j:Nat,x=((i:Int),(j:Int))∧i≤j∧j≤s.length∧(∀ k:Nat,k < i→idx s (k:Int) < a)∧(j < s.length→a≤idx s (j:Int))) (fun x=>x.2.toNat - x.1.toNat)
  ⟨0,s.length,rfl,by omega,by omega,fun k h=>by omega,fun h=>by omega⟩ ?_
 rintro _ ⟨i,j,rfl,hij,hj,h1,h2⟩;unfold jZ;refine lK (fun h => ?_) (fun h => ?_)
 ·have h:(i:Int) < j:=of_decide_eq_true h;have e:=PH (i:=i) (j:=j) (by omega) (by omega)
  rw [e]
  refine ai (by decide) (ai (by omega) ?_)
  rw [LV]
  show Tri (bif decide _ then _ else _) _
  have hm:(i + j) / 2 < j:=by omega
  have a0:i≤(i + j) / 2:=by omega
  generalize (i + j) / 2=m at hm a0;refine lK (fun h3 => ?_) (fun h3 => ?_)
  ·have h3:idx s (m:Int) < a:=of_decide_eq_true h3;refine ⟨_,rfl,⟨m + 1,j,by rw [aZ (by omega)],by omega,hj,fun k hk => ?_,h2⟩,?_⟩
   ·exact Int.lt_of_le_of_lt (hmono k m (by omega) (by omega)) h3
   ·rw [aZ (by omega)]; simp only [Int.toNat_natCast]; omega
  ·have h3:¬ idx s (m:Int) < a:=of_decide_eq_false h3;refine ⟨_,rfl,⟨i,m,rfl,a0,by omega,h1,fun _=>by omega⟩,?_⟩
   simp only [Int.toNat_natCast]; omega
 ·have h:¬ (i:Int) < j:=of_decide_eq_false h;have hji:j=i:=by omega
  subst hji;have hl:lb s a=j:=Qv hj h1 h2;refine lK (fun h3 => ?_) (fun h3 => ?_)
  ·have h3:(j:Int) < s.length:=of_decide_eq_true h3;have hlt:j < s.length:=by omega
   refine ai (by omega) (lK (fun h4 => ?_) (fun h4 => ?_))
   ·refine aB (ag ?_)
    simp [Rnd,hl,hit,hlt,h4]
   ·simp only [kR,Option.bind_some,bne_self_eq_false,cond_false]
    refine aB (ag ?_)
    simp [Rnd,hl,hit,hlt,h4]
  ·have h3:¬ (j:Int) < s.length:=of_decide_eq_false h3;have hlt:¬ j < s.length:=by omega
   refine aB (ag ?_)
   simp [Rnd,hl,hit,hlt]
theorem PI {s:List Int} {a:Int} (hA:Asc s):hit s a=true↔a ∈ s:=by
 unfold hit
 simp only [Bool.and_eq_true,decide_eq_true_eq,beq_iff_eq]
 constructor
 ·rintro ⟨h1,h2⟩
  rw [jO h1] at h2
  exact h2 ▸ List.getElem_mem h1
 ·intro h;obtain ⟨k,hk,e⟩:=List.getElem_of_mem h;have hP:=List.pairwise_iff_getElem.1 (AP.1 hA);have:lb s a=k:=by
   refine Qv (by omega) (fun j hj => ?_) (fun _ => ?_)
   ·rw [jO (by omega),← e]; exact hP j k (by omega) hk hj
   ·rw [jO hk,e]; exact Int.le_refl _
  rw [this]
  exact ⟨hk,by rw [jO hk,e]⟩
def next (t:Int) (s:List Int) (a:Int):List Int:=if t=1 then [a] else if t=2 then s++[a] else if t=3 then ins s a else [w64 (idx s 0 + a)]
def app (t:Int) (s:List Int) (a:Int):List Int×Int :=
 if chk t s≠0 then ([],chk t s) else if (next t s a).length > 64 then ([],2) else (next t s a,0)
theorem NQ {t:Int} {s:List Int} (h:chk t s=0):1≤t∧t≤4∧SOk t s=true:=by
 unfold chk at h
 split at h
 ·rename_i h1
  split at h
  ·exact ⟨h1.1,h1.2,by assumption⟩
  ·cases h
 ·cases h
theorem NR {t:Int} {s:List Int} (h:SOk t s=true):s.length≤64:=by
 simp only [SOk,Bool.or_eq_true,Bool.and_eq_true,decide_eq_true_eq,beq_iff_eq] at h
 omega
theorem Qy {s:List Int} (h:SOk 3 s=true):Asc s:=by
 simp [SOk] at h
 exact h.1
theorem ok_one {s:List Int} (h:SOk 4 s=true):s.length=1:=by
 simp [SOk] at h
 exact h
def start (t:Int):List Int×Int:=if 1≤t∧t≤4 then (if t=4 then [0] else [],0) else ([],1)
def step (t:Int) (x:List Int×Int) (a:Int):List Int×Int:=if x.2=0 then app t x.1 a else x
theorem LW {a b:List Int} (ha:a.length < 2 ^ 62):cB a b=some (decide (a=b)):=by
 unfold cB
 by_cases hl:a.length=b.length
 ·have:((a.length:Int) != (b.length:Int))=false:=by simp; omega
  rw [this,cond_false]
  refine dS.1 ?_;refine Fy a.length (fun k=>∀ j:Nat,j < k→idx a (j:Int)=idx b (j:Int)) (fun j h=>by omega) (fun k hk hJ => ?_);unfold jX;refine lK (fun h => ?_) (fun h => ?_)
  ·have h:(k:Int) < a.length:=of_decide_eq_true h;refine ai (by omega) (ai (by omega) (lK (fun h2 => ?_) (fun h2 => ?_)))
   ·have h2:idx a (k:Int)≠idx b (k:Int):=by simpa using h2
    refine aB (ag ?_)
    show false=_
    have:a≠b:=fun e=>h2 (by rw [e])
    simp [this]
   ·have h2:idx a (k:Int)=idx b (k:Int):=by simpa using h2
    refine ⟨_,rfl,aZ (by omega),by omega,fun j hj => ?_⟩
    rcases Nat.lt_or_ge j k with h3 | h3
    ·exact hJ j h3
    ·have:j=k:=by omega
     subst this;exact h2
  ·have h:¬ (k:Int) < a.length:=of_decide_eq_false h;refine aB (ag ?_)
   show true=_
   have:a=b:=Jr hl (fun j hj=>hJ j (by omega))
   simp [this]
 ·have:((a.length:Int) != (b.length:Int))=true:=by simp; omega
  rw [this,cond_true]
  have:a≠b:=fun e=>hl (by rw [e])
  simp [this]
end Go.Proofs.YtfpeabnehpclnaaGreatT
namespace Go.Proofs.YtfpeabnehpclnaaGreatT
open Go Go.Proofs Go.Proofs.YtfpeabnehpclnaaGreatE
set_option linter.unusedVariables false
set_option linter.unusedSimpArgs false
theorem Ho {s:List Int} (a:Int) (hs:s.length < 2 ^ 62):gN s a=some (decide (a ∈ s)):=by
 unfold gN;refine dS.1 ?_;refine Fy s.length (fun k=>∀ j:Nat,j < k→idx s (j:Int)≠a) (fun j h=>by omega) (fun k hk hJ => ?_);unfold tC;refine lK (fun h => ?_) (fun h => ?_)
 ·have h:(k:Int) < s.length:=of_decide_eq_true h;have hks:k < s.length:=by omega
  refine ai (by omega) (lK (fun h2 => ?_) (fun h2 => ?_))
  ·have h2:idx s (k:Int)=a:=by simpa using h2
   refine aB (ag ?_)
   show true=_
   have:a ∈ s:=by rw [← h2,jO hks]; exact List.getElem_mem _
   simp [this]
  ·have h2:idx s (k:Int)≠a:=by simpa using h2
   refine ⟨_,rfl,aZ (by omega),by omega,fun j hj => ?_⟩
   rcases Nat.lt_or_ge j k with h3 | h3
   ·exact hJ j h3
   ·have:j=k:=by omega
    subst this;exact h2
 ·have h:¬ (k:Int) < s.length:=of_decide_eq_false h;refine aB (ag ?_)
  show false=_
  have:a ∉ s:=by
   intro hm;obtain ⟨j,hj,e⟩:=List.getElem_of_mem hm;exact hJ j (by omega) (by rw [jO hj,e])
  simp [this]
theorem BO {a b:List Int} (ha:a.length < 2 ^ 62):eY a b=some (decide (a=b)):=by
 rw [← LW ha]
 rfl
def Fit (s args:List Int):Prop:=∀ k:Nat,k < args.length→idx args (k:Int) ∈ s∧idx args (k:Int) ∉ args.take k
instance (s args:List Int):Decidable (Fit s args):=by unfold Fit; infer_instance
def before (t:Int) (s args:List Int):List Int×Bool :=
 if chk t s≠0∨args=[] then ([],false)
 else if t=1 then ([],decide (s.length=1∧idx s 0=idx args ((args.length - 1:Nat):Int)))
 else if t=2 then (if args.length≤s.length∧s.drop (s.length - args.length)=args then (s.take (s.length - args.length),true) else ([],false))
 else if t=3 then (if Fit s args then (s.filter (fun x=>decide (x ∉ args)),true) else ([],false))
 else ([args.foldl (fun v a=>w64 (v - a)) (idx s 0)],true)
theorem Cq {s args:List Int} (hs:args.length < 2 ^ 62) (v:Int):iter (jL args) (v,0)=some ([args.foldl (fun v a=>w64 (v - a)) v],true):=by
 refine dS.1 ?_;refine CG args.length (fun k x=>x=(args.take k).foldl (fun v a=>w64 (v - a)) v) rfl (fun k x hk hJ => ?_);subst hJ;unfold jL;refine lK (fun h => ?_) (fun h => ?_)
 ·have h:(k:Int) < args.length:=of_decide_eq_true h;have hks:k < args.length:=by omega
  refine ai (by omega) ⟨_,rfl,aZ (by omega),hks,?_⟩
  show _=List.foldl _ _ _
  rw [List.take_add_one,List.getElem?_eq_getElem hks,List.foldl_append,jO hks]
  rfl
 ·have h:¬ (k:Int) < args.length:=of_decide_eq_false h;refine aB (ag ?_)
  show ([_],true)=_
  rw [List.take_of_length_le (by omega)]
theorem LX {s args:List Int} (hs:s.length < 2 ^ 43) (hm:args.length≤s.length):iter (lu s args) 0=some (if s.drop (s.length - args.length)=args then (s.take (s.length - args.length),true) else ([],false)):=by
 have e1:w64 ((s.length:Int) - (args.length:Int))=((s.length - args.length:Nat):Int):=by rw [qH (by omega) (by omega)]; omega
 refine dS.1 ?_;refine Fy args.length (fun k=>∀ j:Nat,j < k→idx s ((s.length - args.length + j:Nat):Int)=idx args (j:Int)) (fun j h=>by omega) (fun k hk hJ => ?_);unfold lu;refine lK (fun h => ?_) (fun h => ?_)
 ·have h:(k:Int) < args.length:=of_decide_eq_true h;have hks:k < args.length:=by omega
  have e2:w64 (w64 ((s.length:Int) - (args.length:Int)) + (k:Int))=((s.length - args.length + k:Nat):Int):=by rw [e1,qH (by omega) (by omega)]; omega
  rw [e2]
  refine ai (by omega) (ai (by omega) (lK (fun h2 => ?_) (fun h2 => ?_)))
  ·have h2:idx s ((s.length - args.length + k:Nat):Int)≠idx args (k:Int):=by simpa using h2
   refine aB (ag ?_)
   show ([],false)=_
   have:¬ s.drop (s.length - args.length)=args:=by
    intro e
    apply h2
    have h3:(s.drop (s.length - args.length))[k]? = args[k]? := by rw [e]
    rw [List.getElem?_drop,List.getElem?_eq_getElem (by omega),List.getElem?_eq_getElem hks] at h3
    rw [jO (by omega),jO hks]
    exact Option.some.inj h3
   rw [if_neg this]
  ·have h2:idx s ((s.length - args.length + k:Nat):Int)=idx args (k:Int):=by simpa using h2
   refine ⟨_,rfl,aZ (by omega),by omega,fun j hj => ?_⟩
   rcases Nat.lt_or_ge j k with h3 | h3
   ·exact hJ j h3
   ·have:j=k:=by omega
    subst this;exact h2
 ·have h:¬ (k:Int) < args.length:=of_decide_eq_false h;have hd:s.drop (s.length - args.length)=args:=by
   refine List.ext_getElem (by simp; omega) (fun j h1 h2 => ?_);have:=hJ j (by omega)
   rw [jO (by omega),jO h2] at this
   rw [List.getElem_drop]
   exact this
  rw [e1]
  have hsl:eQ s (0:Int) ((s.length - args.length:Nat):Int)=s.take (s.length - args.length):=by simp [eQ]
  rw [hsl]
  refine ai (by omega) (ai ⟨by simp; omega,by simp; omega⟩ (aB (ag ?_)))
  show ([]++s.take _,true)=_
  rw [if_pos hd,List.nil_append]
theorem Cr {s args:List Int} (hs:s.length < 2 ^ 43) (ha:args.length < 2 ^ 62):dY () s args=some (if args.length≤s.length∧s.drop (s.length - args.length)=args then (s.take (s.length - args.length),true) else ([],false)):=by
 unfold dY
 by_cases hm:args.length≤s.length
 ·have e1:w64 ((s.length:Int) - (args.length:Int))=((s.length - args.length:Nat):Int):=by rw [qH (by omega) (by omega)]; omega
  have hlt:decide (w64 ((s.length:Int) - (args.length:Int)) < 0)=false:=decide_eq_false (by rw [e1]; omega)
  rw [hlt,cond_false,kz _ (by rw [e1]; omega),e1]
  have hsl:eQ s ((s.length - args.length:Nat):Int) (s.length:Int)=s.drop (s.length - args.length):=by simp [eQ]
  have a0:eQ s (0:Int) ((s.length - args.length:Nat):Int)=s.take (s.length - args.length):=by simp [eQ]
  rw [hsl,BO (by simp; omega)]
  simp only [Option.bind_some]
  unfold jv
  rw [e1,a0,kz _ (by omega)]
  have hc:gG (s.take (s.length - args.length))=some (s.take (s.length - args.length)):=kz _ (by simp; omega)
  rw [hc]
  by_cases he:s.drop (s.length - args.length)=args
  ·simp [he,hm]
  ·simp [he]
 ·have hlt:decide (w64 ((s.length:Int) - (args.length:Int)) < 0)=true:=decide_eq_true (by rw [qH (by omega) (by omega)]; omega)
  rw [hlt,cond_true,jv,cond_true,if_neg (fun h=>hm h.1)]
theorem JZ {s:List Int} (p:Int→Bool) (h:Asc s):Asc (s.filter p):=AP.2 ((AP.1 h).filter p)
theorem Gu {args:List Int} {k:Nat} (h:k < args.length):args.take (k + 1)=args.take k++[idx args (k:Int)]:=by
 rw [List.take_add_one,List.getElem?_eq_getElem h,jO h]; rfl
theorem IX {s args:List Int} {k:Nat} (h:k < args.length):s.filter (fun x=>decide (x ∉ args.take (k + 1)))=(s.filter (fun x=>decide (x ∉ args.take k))).filter (fun x=>decide (x≠idx args (k:Int))):=by
 rw [List.filter_filter]
 apply List.filter_congr
 intro x _
 rw [Gu h]
 simp only [List.mem_append,List.mem_singleton,not_or]
 rw [Bool.eq_iff_iff]
 simp only [decide_eq_true_eq,Bool.and_eq_true]
 exact ⟨fun h=>⟨h.2,h.1⟩,fun h=>⟨h.2,h.1⟩⟩
theorem Ka {l:List Int} {a:Int} (hA:Asc l) (h:hit l a=true):l.take (lb l a)++l.drop (lb l a + 1)=l.filter (fun x=>decide (x≠a)):=by
 have hP:=List.pairwise_iff_getElem.1 (AP.1 hA)
 simp only [hit,Bool.and_eq_true,decide_eq_true_eq,beq_iff_eq] at h
 obtain ⟨h1,h2⟩:=h
 rw [jO h1] at h2
 generalize lb l a=i at h1 h2
 conv=>rhs; rw [← List.take_append_drop i l,List.drop_eq_getElem_cons h1,List.filter_append,List.filter_cons,h2]
 rw [if_neg (by simp)]
 congr 1
 ·symm
  rw [List.filter_eq_self]
  intro x hx;obtain ⟨j,hj,rfl⟩:=List.getElem_of_mem hx;have hj':j < i:=by simp at hj; omega
  have:=hP j i (by omega) h1 hj'
  rw [List.getElem_take,decide_eq_true_eq]
  omega
 ·symm
  rw [List.filter_eq_self]
  intro x hx;obtain ⟨j,hj,rfl⟩:=List.getElem_of_mem hx;have hj':i + 1 + j < l.length:=by simp at hj; omega
  have:=hP i (i + 1 + j) h1 hj' (by omega)
  rw [List.getElem_drop,decide_eq_true_eq]
  omega
theorem Dk {s args:List Int} (hA:Asc s) (hs:s.length < 2 ^ 43) (ha:args.length < 2 ^ 62):fH () s args=some (if Fit s args then (s.filter (fun x=>decide (x ∉ args)),true) else ([],false)):=by
 unfold fH;have hc:gG s=some s:=kz _ (by omega)
 rw [hc]
 refine dS.1 ?_
 show Tri (iter (lY args) (s,0)) _
 refine CG args.length (fun k l=>l=s.filter (fun x=>decide (x ∉ args.take k))∧∀ j:Nat,j < k→idx args (j:Int) ∈ s∧idx args (j:Int) ∉ args.take j) ⟨by simp; exact (List.filter_eq_self.2 (fun _ _=>rfl)).symm,fun j h=>by omega⟩ (fun k l hk hJ => ?_)
 obtain ⟨hl,hJ⟩:=hJ;have hAl:Asc l:=by rw [hl]; exact JZ _ hA
 have hll:l.length≤s.length:=by rw [hl]; exact List.length_filter_le _ _
 unfold lY;refine lK (fun h => ?_) (fun h => ?_)
 ·have h:(k:Int) < args.length:=of_decide_eq_true h;have hks:k < args.length:=by omega
  refine ai (by omega) ?_
  rw [IW _ hAl (by omega)]
  have hm:=PI (s:=l) (a:=idx args (k:Int)) hAl
  show Tri (bif !hit l (idx args (k:Int)) then _ else _) _
  cases hh:hit l (idx args (k:Int))
  ·simp only [Bool.not_false,cond_true]
   refine aB (ag ?_)
   show ([],false)=_
   have hn:¬ Fit s args:=by
    intro hF;have h1:=hF k hks;have:idx args (k:Int) ∈ l:=by rw [hl,List.mem_filter]; exact ⟨h1.1,by simpa using h1.2⟩
    rw [hm.2 this] at hh
    cases hh
   rw [if_neg hn]
  ·simp only [Bool.not_true,cond_false]
   have hi:=NP l (idx args (k:Int));have hlt:lb l (idx args (k:Int)) < l.length:=by
    simp only [hit,Bool.and_eq_true,decide_eq_true_eq] at hh
    exact hh.1
   have hd:kg l (lb l (idx args (k:Int)):Int) (w64 ((lb l (idx args (k:Int)):Int) + 1))=some (l.filter (fun x=>decide (x≠idx args (k:Int)))):=by
    unfold kg
    rw [aZ (by omega),kz _ ⟨by omega,by omega,by omega⟩,Int.toNat_natCast,Int.toNat_natCast,Ka hAl hh]
   rw [hd]
   refine ⟨_,rfl,aZ (by omega),hks,?_,fun j hj => ?_⟩
   ·rw [IX hks,← hl]
   ·rcases Nat.lt_or_ge j k with h3 | h3
    ·exact hJ j h3
    ·have:j=k:=by omega
     subst this;have hmem:=hm.1 hh
     rw [hl,List.mem_filter] at hmem
     exact ⟨hmem.1,by simpa using hmem.2⟩
 ·have h:¬ (k:Int) < args.length:=of_decide_eq_false h;have hF:Fit s args:=fun j hj=>hJ j (by omega);refine aB (ag ?_)
  show (l,true)=_
  rw [if_pos hF,hl,List.take_of_length_le (by omega)]
theorem Eg {s args:List Int} (hs:s.length < 2 ^ 43) (ha:args.length < 2 ^ 62):iter (lv s args) ([],0)=some (.inr (s.filter (fun x=>decide (x ∉ args)),true)):=by
 refine dS.1 ?_;refine CG s.length (fun k l=>l=(s.take k).filter (fun x=>decide (x ∉ args))) (by simp) (fun k l hk hJ => ?_);have hll:l.length≤k:=by rw [hJ]; exact Nat.le_trans (List.length_filter_le _ _) (by simp; omega)
 unfold lv;refine lK (fun h => ?_) (fun h => ?_)
 ·have h:(k:Int) < s.length:=of_decide_eq_true h;have hks:k < s.length:=by omega
  refine ai (by omega) ?_
  rw [Ho _ ha]
  show Tri (bif !decide _ then _ else _) _
  have hn:(s.take (k + 1)).filter (fun x=>decide (x ∉ args))=l++(if idx s (k:Int) ∈ args then [] else [idx s (k:Int)]):=by
   rw [Gu hks,List.filter_append,← hJ]
   congr 1
   by_cases hm:idx s (k:Int) ∈ args <;> simp [hm]
  by_cases hm:idx s (k:Int) ∈ args
  ·simp only [hm,decide_true,Bool.not_true,cond_false]
   refine ⟨_,rfl,aZ (by omega),hks,?_⟩
   show l=_
   rw [hn,if_pos hm,List.append_nil]
  ·simp only [hm,decide_false,Bool.not_false,cond_true]
   refine ai ⟨by omega,by omega⟩ ⟨_,rfl,aZ (by omega),hks,?_⟩
   show l++[idx s (k:Int)]=_
   rw [hn,if_neg hm]
 ·have h:¬ (k:Int) < s.length:=of_decide_eq_false h;refine aB (aB (ag ?_))
  show Sum.inr (l,true)=_
  rw [hJ,List.take_of_length_le (by omega)]
theorem Hq {s args:List Int} (hs:s.length < 2 ^ 43) (ha:args.length < 2 ^ 62):iter (lw s args) 0=some (if Fit s args then (s.filter (fun x=>decide (x ∉ args)),true) else ([],false)):=by
 refine dS.1 ?_;refine Fy args.length (fun k=>∀ j:Nat,j < k→idx args (j:Int) ∈ s∧idx args (j:Int) ∉ args.take j) (fun j h=>by omega) (fun k hk hJ => ?_);unfold lw;refine lK (fun h => ?_) (fun h => ?_)
 ·have h:(k:Int) < args.length:=of_decide_eq_true h;have hks:k < args.length:=by omega
  refine ai (by omega) ?_
  rw [Ho _ (by omega)]
  have hfail:¬ (idx args (k:Int) ∈ s∧idx args (k:Int) ∉ args.take k)→Tri (jA (k:Int) true) (Up args.length k (fun k=>∀ j:Nat,j < k→idx args (j:Int) ∈ s∧idx args (j:Int) ∉ args.take j) (fun r=>r=(if Fit s args then (s.filter (fun x=>decide (x ∉ args)),true) else ([],false)))):=by
   intro hn;refine aB (ag ?_)
   show ([],false)=_
   rw [if_neg (fun hF=>hn (hF k hks))]
  have hsl:eQ args (0:Int) (k:Int)=args.take k:=by simp [eQ]
  show Tri (bif !decide _ then _ else _) _
  by_cases hm:idx args (k:Int) ∈ s
  ·simp only [hm,decide_true,Bool.not_true,cond_false]
   refine ai (by omega) ?_
   rw [hsl,Ho _ (by simp; omega)]
   show Tri (jA (k:Int) (decide _)) _
   by_cases a0:idx args (k:Int) ∈ args.take k
   ·simp only [a0,decide_true]
    exact hfail (fun h=>h.2 a0)
   ·simp only [a0,decide_false]
    refine ⟨_,rfl,aZ (by omega),hks,fun j hj => ?_⟩;rcases Nat.lt_or_ge j k with h3 | h3
    ·exact hJ j h3
    ·have:j=k:=by omega
     subst this;exact ⟨hm,a0⟩
  ·simp only [hm,decide_false,Bool.not_false,cond_true]
   exact hfail (fun h=>hm h.1)
 ·have h:¬ (k:Int) < args.length:=of_decide_eq_false h;have hF:Fit s args:=fun j hj=>hJ j (by omega)
  rw [Eg hs ha]
  rw [if_pos hF]
  exact ⟨_,rfl,rfl⟩
theorem IY {s args:List Int} (ha:args.length < 2 ^ 62) (h0:args≠[]):iT () s args=some ([],decide (s.length=1∧idx s 0=idx args ((args.length - 1:Nat):Int))):=by
 unfold iT;have hp:0 < args.length:=List.length_pos_iff.2 h0;have e1:w64 ((args.length:Int) - 1)=((args.length - 1:Nat):Int):=nL ha hp
 rw [e1]
 by_cases h1:s.length=1
 ·have h2:((s.length:Int) == 1)=true:=by rw [beq_iff_eq]; omega
  rw [h2,cond_true,kz _ (by omega),kz _ (by omega)]
  simp [h1]
  rw [Bool.eq_iff_iff]; simp
 ·have h2:((s.length:Int) == 1)=false:=by rw [beq_eq_false_iff_ne]; omega
  rw [h2,cond_false]
  simp [h1]
theorem Cs (t:Int) {s args:List Int} (hs:s.length < 2 ^ 62) (ha:args.length < 2 ^ 62):iE t s args=some (before t s args):=by
 unfold iE before
 rw [Dj t hs]
 by_cases hc:chk t s=0
 ·obtain ⟨h1,h2,h3⟩:=NQ hc;have hl:=NR h3
  simp only [hc,Option.bind_some,bne_self_eq_false,cond_false,ne_eq,not_true,false_or]
  by_cases h0:args=[]
  ·subst h0
   simp [lT]
  ·have hp:((args.length:Int) == 0)=false:=by
    have:0 < args.length:=List.length_pos_iff.2 h0
    rw [beq_eq_false_iff_ne]; omega
   rw [hp,if_neg h0]
   unfold lT;rcases four ⟨h1,h2⟩ with rfl | rfl | rfl | rfl
   ·simp [lV,IY ha h0]
   ·simp [lV,Cr (s:=s) (by omega) ha]
   ·simp [lV,Dk (Qy h3) (by omega) ha]
   ·have:=ok_one h3
    simp [lV,ed]
    rw [kz _ (by omega),Cq (s:=s) ha]
    simp
 ·have:(chk t s != 0)=true:=by simpa using hc
  simp [hc,this,lT]
theorem Eh (t:Int) {s args:List Int} (hs:s.length < 2 ^ 62) (ha:args.length < 2 ^ 62):aL t s args=some (before t s args):=by
 unfold aL before
 rw [ER t hs]
 by_cases hc:chk t s=0
 ·obtain ⟨h1,h2,h3⟩:=NQ hc;have hl:=NR h3
  simp only [hc,Option.bind_some,bne_self_eq_false,cond_false,ne_eq,not_true,false_or]
  by_cases h0:args=[]
  ·subst h0
   simp [ik]
  ·have hp:((args.length:Int) == 0)=false:=by
    have:0 < args.length:=List.length_pos_iff.2 h0
    rw [beq_eq_false_iff_ne]; omega
   rw [hp,if_neg h0]
   unfold ik;rcases four ⟨h1,h2⟩ with rfl | rfl | rfl | rfl
   ·simp only [cond_false,show ((1:Int) == 1)=true from rfl,cond_true,if_true]
    exact IY ha h0
   ·by_cases hm:args.length≤s.length
    ·have:¬ (args.length:Int) > s.length:=by omega
     simp [this,LX (s:=s) (by omega) hm,hm]
    ·have:(args.length:Int) > s.length:=by omega
     simp [this,hm]
   ·simp [Hq (s:=s) (by omega) ha]
   ·have:=ok_one h3
    simp
    rw [kz _ (by omega)]
    exact Cq (s:=s) ha _
 ·have:(chk t s != 0)=true:=by simpa using hc
  simp [hc,this,ik]
theorem Hr (t:Int) (s args:List Int):(before t s args).1.length≤s.length + 1:=by
 unfold before
 split
 ·simp
 ·split
  ·simp
  ·split
   ·split <;> simp <;> omega
   ·split
    ·split
     ·exact Nat.le_trans (List.length_filter_le _ _) (by omega)
     ·simp
    ·simp
end Go.Proofs.YtfpeabnehpclnaaGreatT
namespace Go.Proofs.YtfpeabnehpclnaaGreatT
open Go Go.Proofs Go.Proofs.YtfpeabnehpclnaaGreatE
set_option linter.unusedVariables false
set_option linter.unusedSimpArgs false
def vF (c:Call) (k:Int):Prop :=
 1≤c.Kind∧c.Kind≤8∧1≤c.Key.size∧c.Key.size≤32 ∧
  (c.Kind≤4→c.Got=false∧c.Vals.length=0∧(c.Kind=4 → -1048576≤c.Arg∧c.Arg≤1048576)) ∧
  (5≤c.Kind→c.Arg=0∧(c.Got=true↔k=1)∧(c.Got=false→c.Vals.length=0) ∧
   (c.Got=true→(c.Kind=5→c.Vals.length≤1)∧(c.Kind=8→c.Vals.length=1)∧(c.Kind=7→Asc c.Vals)∧c.Vals.length≤64))
theorem Gv {k:ByteArray}:k=(⟨#[]⟩:ByteArray)↔k.size=0:=by
 constructor
 ·rintro rfl; rfl
 ·intro h;obtain ⟨a⟩:=k;have:a = #[]:=Array.eq_empty_of_size_eq_zero h
  rw [this]
theorem NS {c:Call} (hs:c.Vals.length < 2 ^ 61):Tri (iter (uR c) 1) (fun r=>r=true↔(c.Kind=7→Asc c.Vals)):=by
 refine bY (k0:=1) (c.Vals.length + 1) (fun k x=>x=(k:Int)∧1≤k∧∀ j:Nat,j + 1 < k→j + 1 < c.Vals.length→idx c.Vals (j:Int) < idx c.Vals ((j + 1:Nat):Int)) (by omega) ⟨rfl,Nat.le_refl _,fun j h=>by omega⟩ ?_
 rintro k x hk ⟨rfl,a0,hJ⟩;unfold uR uQ
 dsimp only
 have e:=nL (k:=k) (by omega) a0;have e2:=aZ (k:=k) (by omega)
 rw [e,e2]
 repeat' (first | contradiction | with_reducible refine aA (fun hq => ?_) (fun hq => ?_) | with_reducible refine ai (by first | omega | grind [cu]) ?_ | with_reducible refine aB ?_ | with_reducible refine dh ?_ | with_reducible refine dG ?_ | with_reducible refine dH ?_ | with_reducible refine dI ?_ | with_reducible refine ag ?_)
 ·show false=true↔_
  have hl:¬ Asc c.Vals:=by
   intro hA;have:=hA (k - 1) (by omega)
   rw [show k - 1 + 1=k by omega] at this
   omega
  grind
 ·refine ⟨by omega,rfl,by omega,fun j hj hl => ?_⟩
  rcases Nat.lt_or_ge (j + 1) k with h3 | h3
  ·exact hJ j h3 hl
  ·have:j=k - 1:=by omega
   subst this
   rw [show k - 1 + 1=k by omega]
   omega
 ·show true=true↔_
  have hl:Asc c.Vals:=fun j hj=>hJ j (by omega) hj
  grind
 ·show true=true↔_
  grind
theorem Ei (c:Call) (k:Int) (hs:c.Vals.length < 2 ^ 61):Tri (dB c k) (fun r=>r=true↔vF c k):=by
 unfold dB oL uT uS yF vF
 simp only [cond_true,cond_false]
 have he:=Gv (k:=c.Key)
 repeat' (first | contradiction | with_reducible refine aA (fun hq => ?_) (fun hq => ?_) | with_reducible refine ai (by first | omega | grind [cu]) ?_ | with_reducible refine aB ?_ | with_reducible refine dh ?_ | with_reducible refine dG ?_ | with_reducible refine dH ?_ | with_reducible refine dI ?_ | with_reducible refine ag ?_ | refine fT (NS hs) (fun r hr => ?_))
 all_goals grind
theorem PK {c:Call} (hs:c.Vals.length < 2 ^ 61) (hc:c.Kind=7):Tri (iter (ng c) 1) (fun r=>r=true↔(Asc c.Vals∧c.Vals.length≤64)):=by
 refine bY (k0:=1) (c.Vals.length + 1) (fun k x=>x=(k:Int)∧1≤k∧∀ j:Nat,j + 1 < k→j + 1 < c.Vals.length→idx c.Vals (j:Int) < idx c.Vals ((j + 1:Nat):Int)) (by omega) ⟨rfl,Nat.le_refl _,fun j h=>by omega⟩ ?_
 rintro k x hk ⟨rfl,a0,hJ⟩;unfold ng ku
 dsimp only
 have e:=nL (k:=k) (by omega) a0;have e2:=aZ (k:=k) (by omega)
 rw [e,e2]
 repeat' (first | contradiction | with_reducible refine aA (fun hq => ?_) (fun hq => ?_) | with_reducible refine ai (by first | omega | grind [cu]) ?_ | with_reducible refine aB ?_ | with_reducible refine dh ?_ | with_reducible refine dG ?_ | with_reducible refine dH ?_ | with_reducible refine dI ?_ | with_reducible refine ag ?_)
 ·show false=true↔_
  have hl:¬ Asc c.Vals:=by
   intro hA;have:=hA (k - 1) (by omega)
   rw [show k - 1 + 1=k by omega] at this
   omega
  grind
 ·refine ⟨by omega,rfl,by omega,fun j hj hl => ?_⟩
  rcases Nat.lt_or_ge j (k - 1) with h3 | h3
  ·exact hJ j (by omega) hl
  ·have:j=k - 1:=by omega
   subst this
   rw [show k - 1 + 1=k by omega]
   omega
 ·show decide _=true↔_
  have hl:Asc c.Vals:=fun j hj=>hJ j (by omega) hj
  grind
theorem FX (c:Call) (k:Int) (hs:c.Vals.length < 2 ^ 61):Tri (bA c k) (fun r=>r=true↔vF c k):=by
 unfold bA jc jb ku vF
 simp only [cond_true,cond_false]
 have ha:c.Vals.length=0→Asc c.Vals:=fun h j hj=>by omega
 repeat' (first | contradiction | with_reducible refine aA (fun hq => ?_) (fun hq => ?_) | with_reducible refine ai (by first | omega | grind [cu]) ?_ | with_reducible refine aB ?_ | with_reducible refine dh ?_ | with_reducible refine dG ?_ | with_reducible refine dH ?_ | with_reducible refine dI ?_ | with_reducible refine ag ?_ | refine fT (PK hs (by assumption)) (fun r hr => ?_))
 all_goals grind
def Small (l:List Call):Prop:=l.length < 2 ^ 61∧wY l (fun c=>c.Vals.length < 2 ^ 61)
theorem NT {l:List Call} {e:Event} (hs:Small l):Tri (dV l e) (fun r=>r=true ↔ ¬ wY l (fun c=>vF c e.Kind)):=by
 have h1:Tri (bW l e) (fun r=>0≤r ↔ ¬ wY l (fun c=>vF c e.Kind)):=by
  have hl:=hs.1;unfold bW;refine qW l.length (fun j=>vF (idx l (j:Int)) e.Kind) ?_;intro k hk hJ;unfold gT vL
  dsimp only
  repeat' (first | contradiction | with_reducible refine aA (fun hq => ?_) (fun hq => ?_) | with_reducible refine ai (by first | omega | grind [cu]) ?_ | with_reducible refine aB ?_ | with_reducible refine dh ?_ | with_reducible refine dG ?_ | with_reducible refine dH ?_ | with_reducible refine dI ?_ | with_reducible refine ag ?_ | refine fq (Ei _ _ (hs.2 k (by omega))) (fun r hr => ?_))
  all_goals grind [Nxt,wY,cu]
 unfold dV;refine fq h1 (fun r hr => ?_)
 repeat' (first | contradiction | with_reducible refine aA (fun hq => ?_) (fun hq => ?_) | with_reducible refine ai (by first | omega | grind [cu]) ?_ | with_reducible refine aB ?_ | with_reducible refine dh ?_ | with_reducible refine dG ?_ | with_reducible refine dH ?_ | with_reducible refine dI ?_ | with_reducible refine ag ?_)
 grind
def BP (e:Event):Prop:=0≤e.Kind∧e.Kind≤3∧e.Calls.length≤16∧wY e.Calls (fun c=>vF c e.Kind)
theorem Ej {e:Event} (hs:Small e.Calls):Tri (iH [e]) (fun r=>(r=0↔BP e)∧(r=0∨r=1)):=by
 unfold iH;refine aA (fun h => ?_) (fun h => ?_)
 ·simp at h
 ·refine qW 1 (fun j=>BP e) ?_;intro k hk hJ;unfold xA rD
  dsimp only
  have hi:k=0→idx [e] (k:Int)=e:=by rintro rfl; rfl
  simp only [cond_true,cond_false]
  have hc:=fun h:k=0=>NT (l:=e.Calls) (e:=e) hs
  by_cases h0:k=0
  ·rw [hi h0]
   repeat' (first | contradiction | with_reducible refine aA (fun hq => ?_) (fun hq => ?_) | with_reducible refine ai (by first | omega | grind [cu]) ?_ | with_reducible refine aB ?_ | with_reducible refine dh ?_ | with_reducible refine dG ?_ | with_reducible refine dH ?_ | with_reducible refine dI ?_ | with_reducible refine ag ?_ | refine fq (hc h0) (fun r hr => ?_))
   all_goals grind [Nxt,BP,cu]
  ·repeat' (first | contradiction | with_reducible refine aA (fun hq => ?_) (fun hq => ?_) | with_reducible refine ai (by first | omega | grind [cu]) ?_ | with_reducible refine aB ?_ | with_reducible refine dh ?_ | with_reducible refine dG ?_ | with_reducible refine dH ?_ | with_reducible refine dI ?_ | with_reducible refine ag ?_ | refine fq (hc (by grind)) (fun r hr => ?_))
   all_goals grind [Nxt,BP,cu]
theorem ES {e:Event} (hs:Small e.Calls):Tri (dz e) (fun r=>r=true↔BP e):=by
 unfold dz jR
 simp only [cond_true,cond_false]
 have hl:=hs.1;have h1:Tri (iter (mg e) 0) (fun r=>r=true↔wY e.Calls (fun c=>vF c e.Kind)):=by
  refine qW e.Calls.length (fun j=>vF (idx e.Calls (j:Int)) e.Kind) ?_;intro k hk hJ;unfold mg
  dsimp only
  repeat' (first | contradiction | with_reducible refine aA (fun hq => ?_) (fun hq => ?_) | with_reducible refine ai (by first | omega | grind [cu]) ?_ | with_reducible refine aB ?_ | with_reducible refine dh ?_ | with_reducible refine dG ?_ | with_reducible refine dH ?_ | with_reducible refine dI ?_ | with_reducible refine ag ?_ | refine fq (FX _ _ (hs.2 k (by omega))) (fun r hr => ?_))
  all_goals grind [Nxt,wY,cu]
 repeat' (first | contradiction | with_reducible refine aA (fun hq => ?_) (fun hq => ?_) | with_reducible refine ai (by first | omega | grind [cu]) ?_ | with_reducible refine aB ?_ | with_reducible refine dh ?_ | with_reducible refine dG ?_ | with_reducible refine dH ?_ | with_reducible refine dI ?_ | with_reducible refine ag ?_ | refine fT h1 (fun r hr => ?_))
 all_goals grind [BP]
theorem El {e:Event} (hs:Small e.Calls):Tri (gm [e]) (fun r=>(r=0↔BP e)∧(r=0∨r=1)):=by
 unfold gm;refine aA (fun h => ?_) (fun h => ?_)
 ·simp at h
 ·refine qW 1 (fun j=>BP e) ?_;intro k hk hJ;unfold qx
  dsimp only
  have hi:k=0→idx [e] (k:Int)=e:=by rintro rfl; rfl
  have hc:k=0→Tri (dz (idx [e] (k:Int))) (fun r=>r=true↔BP e):=fun h0=>by rw [hi h0]; exact ES hs
  repeat' (first | contradiction | with_reducible refine aA (fun hq => ?_) (fun hq => ?_) | with_reducible refine ai (by first | omega | grind [cu]) ?_ | with_reducible refine aB ?_ | with_reducible refine dh ?_ | with_reducible refine dG ?_ | with_reducible refine dH ?_ | with_reducible refine dI ?_ | with_reducible refine ag ?_ | refine fq (hc (by grind)) (fun r hr => ?_))
  all_goals grind [Nxt,cu]
def xU (h:History) (o:Op):Call:=⟨o.Kind,idx h.Keys o.Key,o.Arg,o.Got,o.Vals⟩
def dO (h:History) (t:Txn):List Call:=t.Ops.map (xU h)
def BB (h:History) (t:Txn):Event:=⟨0,t.Status,dO h t⟩
def yR (h:History) (t:Txn):Prop:=wY t.Ops (fun o=>0≤o.Key∧o.Key < (h.Keys.length:Int))
def ET (t:Txn):Prop:=t.Ops.length * 56≤140737488351232∧wY t.Ops (fun o=>o.Vals.length * 8≤140737488351232)
theorem ET.small {h:History} {t:Txn} (hs:ET t) (k:Nat):Small ((dO h t).take k):=by
 have h1:=hs.1;refine ⟨by simp [dO]; omega,fun j hj => ?_⟩
 have hj':j < k∧j < t.Ops.length:=by simp [dO] at hj; omega
 rw [Ar hj'.1,dO,za hj'.2]
 have:=hs.2 j hj'.2
 show (idx t.Ops (j:Int)).Vals.length < _
 omega
theorem Dl {h:History} {t:Txn} (hs:ET t):Tri (fw h t) (fun r=>(r.2=true↔yR h t∧BP (BB h t))∧(r.2=true→r.1=BB h t)):=by
 unfold fw;have hl:=hs.1;refine CG t.Ops.length (fun k l=>l=(dO h t).take k∧∀ j:Nat,j < k→0≤(idx t.Ops (j:Int)).Key∧(idx t.Ops (j:Int)).Key < (h.Keys.length:Int)) ⟨rfl,by omega⟩ ?_
 rintro k l hk ⟨rfl,hJ⟩;have hlen:((dO h t).take k).length=k:=by simp [dO]; omega
 unfold wo sM wm
 simp only [cond_true,cond_false,hlen]
 have hsm:=Ej (e:=⟨0,t.Status,(dO h t).take k⟩) (hs.small k);have hfull:k=t.Ops.length→(dO h t).take k=dO h t:=fun e=>List.take_of_length_le (by simp [dO]; omega);have hnext:k < t.Ops.length→(dO h t).take (k + 1)=(dO h t).take k++[xU h (idx t.Ops (k:Int))]:=fun hk=>by
  rw [oN (by simpa [dO] using hk),dO,za hk]
 repeat' (first | contradiction | with_reducible refine aA (fun hq => ?_) (fun hq => ?_) | with_reducible refine ai (by first | omega | grind [cu]) ?_ | with_reducible refine aB ?_ | with_reducible refine dh ?_ | with_reducible refine dG ?_ | with_reducible refine dH ?_ | with_reducible refine dI ?_ | with_reducible refine ag ?_ | refine fq hsm (fun r hr => ?_))
 all_goals grind [Up2,yR,wY,cu,xU,BB]
def Gw (l:List Txn) (i:Nat):Prop:=∀ j:Nat,j < i → ¬ ((idx l (j:Int)).Proc=(idx l (i:Int)).Proc∧((idx l (j:Int)).To = -1∨(idx l (j:Int)).To ≥ (idx l (i:Int)).From))
def Ae (l:List Txn) (i:Nat):Prop :=
 1≤(idx l (i:Int)).Status∧(idx l (i:Int)).Status≤3∧0≤(idx l (i:Int)).From∧((idx l (i:Int)).To = -1→(idx l (i:Int)).Status=3) ∧
  ((idx l (i:Int)).To ≠ -1→(idx l (i:Int)).From < (idx l (i:Int)).To)∧(0 < i→(idx l ((i - 1:Nat):Int)).From < (idx l (i:Int)).From)∧Gw l i
theorem LY {l:List Txn} {i:Nat} (hi:i < l.length) (hl:l.length < 2 ^ 61):Tri (dP (eQ l 0 (i:Int)) (idx l (i:Int))) (fun r=>r=true ↔ ¬ Gw l i):=by
 have h1:Tri (bS (eQ l 0 (i:Int)) (idx l (i:Int))) (fun r=>0≤r ↔ ¬ Gw l i):=by
  rw [qI (by omega)]
  unfold bS;have ht:(l.take i).length=i:=by simp; omega
  refine qW i (fun j => ¬ ((idx l (j:Int)).Proc=(idx l (i:Int)).Proc∧((idx l (j:Int)).To = -1∨(idx l (j:Int)).To ≥ (idx l (i:Int)).From))) ?_;intro k hk hJ;unfold gF sN
  dsimp only
  rw [ht]
  have hx:k < i→idx (l.take i) (k:Int)=idx l (k:Int):=fun h=>Ar h
  repeat' (first | contradiction | with_reducible refine aA (fun hq => ?_) (fun hq => ?_) | with_reducible refine ai (by first | omega | grind [cu]) ?_ | with_reducible refine aB ?_ | with_reducible refine dh ?_ | with_reducible refine dG ?_ | with_reducible refine dH ?_ | with_reducible refine dI ?_ | with_reducible refine ag ?_)
  all_goals grind [Nxt,Gw,cu]
 unfold dP;refine fq h1 (fun r hr => ?_)
 repeat' (first | contradiction | with_reducible refine aA (fun hq => ?_) (fun hq => ?_) | with_reducible refine ai (by first | omega | grind [cu]) ?_ | with_reducible refine aB ?_ | with_reducible refine dh ?_ | with_reducible refine dG ?_ | with_reducible refine dH ?_ | with_reducible refine dI ?_ | with_reducible refine ag ?_)
 grind
theorem Ct {l:List Txn} {i:Nat} (hi:i < l.length) (hl:l.length < 2 ^ 61):Tri (dw (eQ l 0 (i:Int)) (idx l (i:Int))) (fun r=>r=true↔Ae l i):=by
 have hf:=LY hi hl;have hlen:(eQ l 0 (i:Int)).length=i:=by rw [qI (by omega)]; simp; omega
 have hx:0 < i→idx (eQ l 0 (i:Int)) (w64 ((i:Int) - 1))=idx l ((i - 1:Nat):Int):=fun h=>by
  rw [nL (by omega) (by omega),qI (by omega),Ar (by omega)]
 have hw:0 < i→w64 ((i:Int) - 1)=((i - 1:Nat):Int):=fun h=>nL (by omega) (by omega);unfold dw rR rQ rP oF Ae
 simp only [cond_true,cond_false,hlen]
 repeat' (first | contradiction | with_reducible refine aA (fun hq => ?_) (fun hq => ?_) | with_reducible refine ai (by first | omega | grind [cu]) ?_ | with_reducible refine aB ?_ | with_reducible refine dh ?_ | with_reducible refine dG ?_ | with_reducible refine dH ?_ | with_reducible refine dI ?_ | with_reducible refine ag ?_ | refine fq hf (fun r hr => ?_))
 all_goals grind
theorem zo {l:List Txn} {i:Nat} (hi:i < l.length) (hl:l.length < 2 ^ 61):Tri (aR l (i:Int)) (fun r=>r=true↔Ae l i):=by
 have h1:Tri (iter (lm l (i:Int)) 0) (fun r=>r=true↔Gw l i):=by
  refine qW i (fun j => ¬ ((idx l (j:Int)).Proc=(idx l (i:Int)).Proc∧((idx l (j:Int)).To = -1∨(idx l (j:Int)).To ≥ (idx l (i:Int)).From))) ?_;intro k hk hJ;unfold lm jy
  simp only [cond_true,cond_false]
  repeat' (first | contradiction | with_reducible refine aA (fun hq => ?_) (fun hq => ?_) | with_reducible refine ai (by first | omega | grind [cu]) ?_ | with_reducible refine aB ?_ | with_reducible refine dh ?_ | with_reducible refine dG ?_ | with_reducible refine dH ?_ | with_reducible refine dI ?_ | with_reducible refine ag ?_)
  all_goals grind [Nxt,Gw,cu]
 have hw:0 < i→w64 ((i:Int) - 1)=((i - 1:Nat):Int):=fun h=>nL (by omega) (by omega);unfold aR dW lq Ae
 simp only [cond_true,cond_false]
 repeat' (first | contradiction | with_reducible refine aA (fun hq => ?_) (fun hq => ?_) | with_reducible refine ai (by first | omega | grind [cu]) ?_ | with_reducible refine aB ?_ | with_reducible refine dh ?_ | with_reducible refine dG ?_ | with_reducible refine dH ?_ | with_reducible refine dI ?_ | with_reducible refine ag ?_ | refine fT h1 (fun r hr => ?_))
 all_goals grind
def Lc (l:List ByteArray) (s:ByteArray) (r:Int):Prop :=
 (r = -1∧∀ j:Nat,j < l.length→idx l (j:Int)≠s)∨(∃ k:Nat,r=(k:Int)∧k < l.length∧idx l (k:Int)=s∧∀ j:Nat,j < k→idx l (j:Int)≠s)
theorem Dm {l:List ByteArray} {s:ByteArray} (hl:l.length < 2 ^ 61):Tri (fD l s) (Lc l s):=by
 unfold fD;refine qW l.length (fun j=>idx l (j:Int)≠s) ?_;intro k hk hJ;unfold ru
 dsimp only
 repeat' (first | contradiction | with_reducible refine aA (fun hq => ?_) (fun hq => ?_) | with_reducible refine ai (by first | omega | grind [cu]) ?_ | with_reducible refine aB ?_ | with_reducible refine dh ?_ | with_reducible refine dG ?_ | with_reducible refine dH ?_ | with_reducible refine dI ?_ | with_reducible refine ag ?_)
 ·exact .inr ⟨k,rfl,by omega,by assumption,hJ⟩
 ·grind [Nxt,cu]
 ·exact .inl ⟨rfl,fun j hj=>hJ j (by omega)⟩
def BQ (l:List ByteArray) (i:Nat):Prop:=1≤(idx l (i:Int)).size∧(idx l (i:Int)).size≤32∧∀ j:Nat,j < i→idx l (j:Int)≠idx l (i:Int)
def tZ (l:List ByteArray):Prop:=l.length≤32∧∀ i:Nat,i < l.length→BQ l i
theorem FY {l:List ByteArray} {s:ByteArray} (hl:l.length < 2 ^ 61):Tri (slices_Contains_string l s) (fun r=>r=true↔∃ j:Nat,j < l.length∧idx l (j:Int)=s):=by
 have h1:Tri (slices_Index_string l s) (fun r=>0≤r↔∃ j:Nat,j < l.length∧idx l (j:Int)=s):=by
  unfold slices_Index_string;refine qW l.length (fun j=>idx l (j:Int)≠s) ?_;intro k hk hJ;unfold nP
  dsimp only
  repeat' (first | contradiction | with_reducible refine aA (fun hq => ?_) (fun hq => ?_) | with_reducible refine ai (by first | omega | grind [cu]) ?_ | with_reducible refine aB ?_ | with_reducible refine dh ?_ | with_reducible refine dG ?_ | with_reducible refine dH ?_ | with_reducible refine dI ?_ | with_reducible refine ag ?_)
  all_goals grind [Nxt,cu]
 unfold slices_Contains_string;refine fq h1 (fun r hr => ?_)
 repeat' (first | contradiction | with_reducible refine aA (fun hq => ?_) (fun hq => ?_) | with_reducible refine ai (by first | omega | grind [cu]) ?_ | with_reducible refine aB ?_ | with_reducible refine dh ?_ | with_reducible refine dG ?_ | with_reducible refine dH ?_ | with_reducible refine dI ?_ | with_reducible refine ag ?_)
 grind
theorem EU {l:List ByteArray} (hl:l.length < 2 ^ 61):Tri (dK l) (fun r=>r=true↔tZ l):=by
 unfold dK;refine qW l.length (BQ l) ?_;intro k hk hJ;unfold qw jQ
 simp only [cond_true,cond_false]
 have hf:Tri (fD (eQ l 0 (k:Int)) (idx l (k:Int))) (fun r=>0≤r↔∃ j:Nat,j < k∧idx l (j:Int)=idx l (k:Int)):=by
  rw [qI (by omega)]
  refine fT (Dm (by simp; omega)) (fun r hr => ?_);have ht:(l.take k).length=k:=by simp; omega
  have hx:∀ j:Nat,j < k→idx (l.take k) (j:Int)=idx l (j:Int):=fun j h=>Ar h;unfold Lc at hr
  rw [ht] at hr
  grind
 have hN:tZ l→k < l.length→BQ l k:=fun h hk=>h.2 k hk
 repeat' (first | contradiction | with_reducible refine aA (fun hq => ?_) (fun hq => ?_) | with_reducible refine ai (by first | omega | grind [cu]) ?_ | with_reducible refine aB ?_ | with_reducible refine dh ?_ | with_reducible refine dG ?_ | with_reducible refine dH ?_ | with_reducible refine dI ?_ | with_reducible refine ag ?_ | refine fq hf (fun r hr => ?_))
 all_goals (have hNk:BQ l k↔(1≤(idx l (k:Int)).size∧(idx l (k:Int)).size≤32∧∀ j:Nat,j < k→idx l (j:Int)≠idx l (k:Int)):=Iff.rfl)
 all_goals grind [Nxt,tZ,cu]
end Go.Proofs.YtfpeabnehpclnaaGreatT
namespace Go.Proofs.YtfpeabnehpclnaaGreatT
open Go Go.Proofs Go.Proofs.YtfpeabnehpclnaaGreatE
set_option linter.unusedVariables false
set_option linter.unusedSimpArgs false
def typ (k:Int):Int:=(k - 1) % 4 + 1
theorem Af {k:Int} (h1:1≤k) (h2:k≤8):qL k=some (typ k):=by
 have:k=1∨k=2∨k=3∨k=4∨k=5∨k=6∨k=7∨k=8:=by omega
 rcases this with h | h | h | h | h | h | h | h <;> subst h <;> decide
theorem AQ {k:Int} (h1:1≤k) (h2:k≤8):iA k=some (typ k):=by
 have:k=1∨k=2∨k=3∨k=4∨k=5∨k=6∨k=7∨k=8:=by omega
 rcases this with h | h | h | h | h | h | h | h <;> subst h <;> decide
structure Sim (g:bN) (b:aN) (n:Nat):Prop where
 keys:g.keys=b.keys
 types:g.types=b.types
 len:b.keys.length≤32
 tl:b.types.length=b.keys.length
 wl:b.wrote.length=b.keys.length
 il:b.incs.length=b.keys.length
 ll:b.last_.length=b.keys.length
 nd:∀ i j:Nat,i < b.keys.length→j < b.keys.length→idx b.keys (i:Int)=idx b.keys (j:Int)→i=j
 has:∀ s,qJ g.at_ s=true↔∃ j:Nat,j < b.keys.length∧idx b.keys (j:Int)=s
 at_:∀ j:Nat,j < b.keys.length→mat g.at_ (idx b.keys (j:Int))=(j:Int)
 facts:∀ j:Nat,j < b.keys.length→∀ a,qJ g.facts ⟨idx b.keys (j:Int),a⟩=true↔∃ m:Nat,m < (idx b.wrote (j:Int)).length∧idx (idx b.wrote (j:Int)) (m:Int)=a
 fout:∀ s a,qJ g.facts ⟨s,a⟩=true→∃ j:Nat,j < b.keys.length∧idx b.keys (j:Int)=s
 wn:∀ j:Nat,j < b.keys.length→(idx b.wrote (j:Int)).length≤n
 incs:∀ j:Nat,j < b.keys.length→((mat g.incs (idx b.keys (j:Int))).length:Int)=idx b.incs (j:Int)
 i8:∀ j:Nat,j < b.keys.length→(mat g.incs (idx b.keys (j:Int))).length≤8
 iout:∀ s,(∀ j:Nat,j < b.keys.length→idx b.keys (j:Int)≠s)→mat g.incs s=[]
 last:∀ j:Nat,j < b.keys.length→((mat g.incs (idx b.keys (j:Int))).length=0→idx b.last_ (j:Int) = -1) ∧
  (0 < (mat g.incs (idx b.keys (j:Int))).length→idx b.last_ (j:Int)=idx (mat g.incs (idx b.keys (j:Int))) (((mat g.incs (idx b.keys (j:Int))).length - 1:Nat):Int))
theorem Sim.start:Sim ⟨[],[],[],[],[]⟩ ⟨[],[],[],[],[]⟩ 0:=by
 refine ⟨rfl,rfl,by simp,rfl,rfl,rfl,rfl,?_,?_,?_,?_,?_,?_,?_,?_,?_,?_⟩
 all_goals simp [Jz,Qg]
 rfl
theorem Sim.mono {g:bN} {b:aN} {n m:Nat} (h:Sim g b n) (hm:n≤m):Sim g b m :=
 { h with wn:=fun j hj=>Nat.le_trans (h.wn j hj) hm }
theorem Sim.new {g:bN} {b:aN} {n:Nat} (h:Sim g b n) {s:ByteArray} {t:Int} (hn:∀ j:Nat,j < b.keys.length→idx b.keys (j:Int)≠s) (a1:b.keys.length < 32) :
  Sim ⟨g.keys++[s],iQ g.at_ s (g.keys.length:Int),g.types++[t],g.facts,g.incs⟩ ⟨b.keys++[s],b.types++[t],b.wrote++[[]],b.incs++[0],b.last_++[-1]⟩ n:=by
 have hk:=h.keys;have hl:(b.keys++[s]).length=b.keys.length + 1:=by simp
 have k1:∀ j:Nat,j < b.keys.length→idx (b.keys++[s]) (j:Int)=idx b.keys (j:Int):=fun j hj=>mI hj;have k2:idx (b.keys++[s]) ((b.keys.length:Nat):Int)=s:=lL rfl;have w1:∀ j:Nat,j < b.keys.length→idx (b.wrote++[[]]) (j:Int)=idx b.wrote (j:Int):=fun j hj=>mI (by rw [h.wl]; exact hj);have w2:idx (b.wrote++[[]]) ((b.keys.length:Nat):Int)=[]:=lL h.wl.symm;have i1:∀ j:Nat,j < b.keys.length→idx (b.incs++[0]) (j:Int)=idx b.incs (j:Int):=fun j hj=>mI (by rw [h.il]; exact hj);have i2:idx (b.incs++[0]) ((b.keys.length:Nat):Int)=0:=lL h.il.symm;have l1:∀ j:Nat,j < b.keys.length→idx (b.last_++[-1]) (j:Int)=idx b.last_ (j:Int):=fun j hj=>mI (by rw [h.ll]; exact hj);have l2:idx (b.last_++[-1]) ((b.keys.length:Nat):Int) = -1:=lL h.ll.symm;have a0:=h.iout s hn;have cut:∀ j:Nat,j < b.keys.length + 1→j < b.keys.length∨j=b.keys.length:=by omega
 refine ⟨by simp [hk],by simp [h.types],by simp; omega,by simp [h.tl],by simp [h.wl],by simp [h.il],by simp [h.ll],?_,?_,?_,?_,?_,?_,?_,?_,?_,?_⟩
 ·intro i j hi hj he
  dsimp only at hi hj he
  rw [hl] at hi hj
  have:=h.nd i j;rcases cut i hi with hi' | hi' <;> rcases cut j hj with hj' | hj' <;> grind
 ·intro x
  dsimp only
  rw [CJ,hl,h.has]
  constructor
  ·rintro (rfl | ⟨j,hj,he⟩)
   ·exact ⟨_,Nat.lt_succ_self _,k2⟩
   ·exact ⟨j,by omega,(k1 j hj).trans he⟩
  ·rintro ⟨j,hj,he⟩;rcases cut j hj with hj' | hj'
   ·exact .inr ⟨j,hj',(k1 j hj') ▸ he⟩
   ·subst hj'; exact .inl (k2.symm.trans he).symm
 ·intro j hj
  dsimp only at hj ⊢
  rw [hl] at hj
  rw [vY,hk]
  rcases cut j hj with hj' | hj'
  ·rw [k1 j hj',if_neg (hn j hj')]; exact h.at_ j hj'
  ·subst hj'; rw [k2,if_pos rfl]
 ·intro j hj a
  dsimp only at hj ⊢
  rw [hl] at hj
  rcases cut j hj with hj' | hj'
  ·rw [k1 j hj',w1 j hj']; exact h.facts j hj' a
  ·subst hj'
   rw [k2,w2]
   constructor
   ·intro hh;obtain ⟨i,hi,he⟩:=h.fout s a hh;exact absurd he (hn i hi)
   ·rintro ⟨m,hm,_⟩; simp at hm
 ·intro x a hh;obtain ⟨i,hi,he⟩:=h.fout x a hh;exact ⟨i,by simp; omega,(k1 i hi).trans he⟩
 ·intro j hj
  dsimp only at hj ⊢
  rw [hl] at hj
  rcases cut j hj with hj' | hj'
  ·rw [w1 j hj']; exact h.wn j hj'
  ·subst hj'; rw [w2]; simp
 ·intro j hj
  dsimp only at hj ⊢
  rw [hl] at hj
  rcases cut j hj with hj' | hj'
  ·rw [k1 j hj',i1 j hj']; exact h.incs j hj'
  ·subst hj'; rw [k2,i2,a0]; rfl
 ·intro j hj
  dsimp only at hj ⊢
  rw [hl] at hj
  rcases cut j hj with hj' | hj'
  ·rw [k1 j hj']; exact h.i8 j hj'
  ·subst hj'; rw [k2,a0]; simp
 ·intro x hx
  dsimp only at hx ⊢
  rw [hl] at hx
  exact h.iout x (fun j hj=>by rw [← k1 j hj]; exact hx j (by omega))
 ·intro j hj
  dsimp only at hj ⊢
  rw [hl] at hj
  rcases cut j hj with hj' | hj'
  ·rw [k1 j hj',l1 j hj']; exact h.last j hj'
  ·subst hj'; rw [k2,l2,a0]; simp
theorem Sim.write {g:bN} {b:aN} {n k:Nat} (h:Sim g b n) {s:ByteArray} {a:Int} (hk:k < b.keys.length) (hs:idx b.keys (k:Int)=s) :
  Sim ⟨g.keys,g.at_,g.types,iQ g.facts ⟨s,a⟩ (),g.incs⟩ ⟨b.keys,b.types,b.wrote.set k (idx b.wrote (k:Int)++[a]),b.incs,b.last_⟩ (n + 1):=by
 have w1:∀ j:Nat,idx (b.wrote.set k (idx b.wrote (k:Int)++[a])) (j:Int)=if j=k then idx b.wrote (k:Int)++[a] else idx b.wrote (j:Int):=fun j=>vv (by rw [h.wl]; exact hk);refine ⟨h.keys,h.types,h.len,h.tl,by simp [h.wl],h.il,h.ll,h.nd,h.has,h.at_,?_,?_,?_,h.incs,h.i8,h.iout,h.last⟩
 ·intro j hj x
  dsimp only at hj ⊢
  rw [CJ,w1 j,h.facts j hj]
  by_cases e:j=k
  ·subst e
   rw [if_pos rfl,hs]
   constructor
   ·rintro (he | ⟨m,hm,he⟩)
    ·have:x=a:=by injection he
     subst this;exact ⟨_,by simp,lL rfl⟩
    ·exact ⟨m,by simp; omega,(mI hm).trans he⟩
   ·rintro ⟨m,hm,he⟩;rcases Nat.lt_or_ge m (idx b.wrote (j:Int)).length with h1 | h1
    ·exact .inr ⟨m,h1,(mI h1).symm.trans he⟩
    ·simp at hm
     rw [lL (by omega)] at he
     rw [he]; exact .inl rfl
  ·rw [if_neg e]
   constructor
   ·rintro (he | hh)
    ·injection he with h1 h2
     exact absurd (h.nd j k hj hk (h1.trans hs.symm)) e
    ·exact hh
   ·exact .inr
 ·intro x y hh
  dsimp only at hh ⊢
  rcases CJ.1 hh with he | hh
  ·injection he with h1 h2
   exact ⟨k,hk,hs.trans h1.symm⟩
  ·exact h.fout x y hh
 ·intro j hj
  dsimp only at hj ⊢
  rw [w1 j]
  have:=h.wn j hj
  split
  ·rename_i e; subst e; simp; omega
  ·omega
theorem Sim.inc {g:bN} {b:aN} {n k:Nat} (h:Sim g b n) {s:ByteArray} {a:Int} (hk:k < b.keys.length) (hs:idx b.keys (k:Int)=s) (h8:(mat g.incs s).length < 8) :
  Sim ⟨g.keys,g.at_,g.types,g.facts,iQ g.incs s (mat g.incs s++[a])⟩ ⟨b.keys,b.types,b.wrote,b.incs.set k (idx b.incs (k:Int) + 1),b.last_.set k a⟩ n:=by
 have i1:∀ j:Nat,idx (b.incs.set k (idx b.incs (k:Int) + 1)) (j:Int)=if j=k then idx b.incs (k:Int) + 1 else idx b.incs (j:Int):=fun j=>vv (by rw [h.il]; exact hk);have l1:∀ j:Nat,idx (b.last_.set k a) (j:Int)=if j=k then a else idx b.last_ (j:Int):=fun j=>vv (by rw [h.ll]; exact hk);have hne:∀ j:Nat,j < b.keys.length→j≠k→idx b.keys (j:Int)≠s:=fun j hj e he=>e (h.nd j k hj hk (he.trans hs.symm));refine ⟨h.keys,h.types,h.len,h.tl,h.wl,by simp [h.il],by simp [h.ll],h.nd,h.has,h.at_,h.facts,h.fout,h.wn,?_,?_,?_,?_⟩
 ·intro j hj
  dsimp only at hj ⊢
  rw [vY,i1 j]
  by_cases e:j=k
  ·subst e
   rw [if_pos hs,if_pos rfl,← h.incs j hj,hs]; simp
  ·rw [if_neg (hne j hj e),if_neg e]; exact h.incs j hj
 ·intro j hj
  dsimp only at hj ⊢
  rw [vY]
  by_cases e:j=k
  ·subst e
   rw [if_pos hs]; simp; omega
  ·rw [if_neg (hne j hj e)]; exact h.i8 j hj
 ·intro x hx
  dsimp only at hx ⊢
  rw [vY,if_neg (fun e=>hx k hk (hs.trans e.symm))]
  exact h.iout x hx
 ·intro j hj
  dsimp only at hj ⊢
  rw [vY,l1 j]
  by_cases e:j=k
  ·subst e
   rw [if_pos hs,if_pos rfl]
   refine ⟨fun h0=>by simp at h0,fun _ => ?_⟩
   rw [lL (by simp)]
  ·rw [if_neg (hne j hj e),if_neg e]; exact h.last j hj
theorem Kb {c:Call} {who:Int} {a3:List ByteArray} {a1:List Int} {a0:List (List Int)} {a4 a2:List Int} {k:Nat} {Q:Int×aN→Prop} (hk:k < a0.length) (hb:(idx a0 (k:Int)).length≤4096)
  (h1:(∃ m:Nat,m < (idx a0 (k:Int)).length∧idx (idx a0 (k:Int)) (m:Int)=c.Arg)→Q (3,⟨a3,a1,a0,a4,a2⟩))
  (h2:(¬ ∃ m:Nat,m < (idx a0 (k:Int)).length∧idx (idx a0 (k:Int)) (m:Int)=c.Arg)→Tri (fK c who a3 a1 a4 a2 (k:Int) (a0.set k (idx a0 (k:Int)++[c.Arg]))) Q) :
  Tri (iter (ji c who a3 a1 a0 a4 a2 (k:Int)) 0) Q:=by
 refine qW (idx a0 (k:Int)).length (fun m=>idx (idx a0 (k:Int)) (m:Int)≠c.Arg) ?_;intro m hm hJ;unfold ji
 dsimp only
 rw [Int.toNat_natCast]
 repeat' (first | contradiction | with_reducible refine aA (fun hq => ?_) (fun hq => ?_) | with_reducible refine ai (by first | omega | grind [cu]) ?_ | with_reducible refine aB ?_ | with_reducible refine dh ?_ | with_reducible refine dG ?_ | with_reducible refine dH ?_ | with_reducible refine dI ?_ | with_reducible refine ag ?_)
 ·exact h1 ⟨m,by omega,by assumption⟩
 ·grind [Nxt,cu]
 ·exact h2 (by grind)
def Both (r:Int×bN) (n:Nat) (r':Int×aN):Prop:=r.1=r'.1∧(r.1=0→Sim r.2 r'.2 n)
def Kc (b:aN) (c:Call) (who:Int) (k:Nat) (r:Int×aN):Prop :=
 (idx b.types (k:Int)≠typ c.Kind∧r=(50,b)) ∨
 (idx b.types (k:Int)=typ c.Kind∧(c.Kind=2∨c.Kind=3)∧(∃ m:Nat,m < (idx b.wrote (k:Int)).length∧idx (idx b.wrote (k:Int)) (m:Int)=c.Arg)∧r=(3,b)) ∨
 (idx b.types (k:Int)=typ c.Kind∧(c.Kind=2∨c.Kind=3)∧(¬ ∃ m:Nat,m < (idx b.wrote (k:Int)).length∧idx (idx b.wrote (k:Int)) (m:Int)=c.Arg) ∧
  r=(0,⟨b.keys,b.types,b.wrote.set k (idx b.wrote (k:Int)++[c.Arg]),b.incs,b.last_⟩)) ∨
 (idx b.types (k:Int)=typ c.Kind∧c.Kind=4∧idx b.last_ (k:Int)≠who∧idx b.incs (k:Int) + 1 > 8∧r.1=51) ∨
 (idx b.types (k:Int)=typ c.Kind∧c.Kind=4∧idx b.last_ (k:Int)≠who∧idx b.incs (k:Int) + 1≤8 ∧
  r=(0,⟨b.keys,b.types,b.wrote,b.incs.set k (idx b.incs (k:Int) + 1),b.last_.set k who⟩)) ∨
 (idx b.types (k:Int)=typ c.Kind∧c.Kind=4∧idx b.last_ (k:Int)=who∧r=(0,b)) ∨
 (idx b.types (k:Int)=typ c.Kind∧c.Kind≠2∧c.Kind≠3∧c.Kind≠4∧r=(0,b))
theorem Ht {b:aN} {k:Nat} {c:Call} {who:Int} (hk:k < b.keys.length) (t1:b.types.length=b.keys.length) (t2:b.wrote.length=b.keys.length) (t3:b.incs.length=b.keys.length)
  (t4:b.last_.length=b.keys.length) (hwr:(idx b.wrote (k:Int)).length≤4096) (hin:0≤idx b.incs (k:Int)∧idx b.incs (k:Int)≤8)
  (h1:1≤c.Kind) (h8:c.Kind≤8):Tri (eO c who b.keys b.types b.wrote b.incs b.last_ (k:Int)) (Kc b c who k):=by
 have e1:w64 (idx b.incs (k:Int) + 1)=idx b.incs (k:Int) + 1:=cu (by omega) (by omega);have e2:idx (b.incs.set k (idx b.incs (k:Int) + 1)) (k:Int)=idx b.incs (k:Int) + 1:=by rw [vv (by omega),if_pos rfl]
 unfold eO jk fK gV gU
 simp only [cond_true,cond_false,AQ h1 h8,Int.toNat_natCast,e1,e2]
 repeat' (first | contradiction | with_reducible refine aA (fun hq => ?_) (fun hq => ?_) | with_reducible refine ai (by first | omega | grind [cu]) ?_ | with_reducible refine aB ?_ | with_reducible refine dh ?_ | with_reducible refine dG ?_ | with_reducible refine dH ?_ | with_reducible refine dI ?_ | with_reducible refine ag ?_ | refine Kb (by omega) hwr (fun h => ?_) (fun h => ?_))
 all_goals try unfold fK gV gU
 all_goals try simp only [cond_true,cond_false,Int.toNat_natCast,e1,e2]
 repeat' (first | contradiction | with_reducible refine aA (fun hq => ?_) (fun hq => ?_) | with_reducible refine ai (by first | omega | grind [cu]) ?_ | with_reducible refine aB ?_ | with_reducible refine dh ?_ | with_reducible refine dG ?_ | with_reducible refine dH ?_ | with_reducible refine dI ?_ | with_reducible refine ag ?_)
 all_goals grind [Kc]
theorem enter_at {g:bN} {b:aN} {n k:Nat} {a0:bN} {c:Call} {who:Int} (h:Sim g b n) (hf:a0.facts=g.facts) (hi:a0.incs=g.incs) (hk:k < b.keys.length) (hs:idx b.keys (k:Int)=c.Key)
  (h1:1≤c.Kind) (h8:c.Kind≤8) (hw:0≤who) (hn:n≤2048) :
  Tri (jr a0 c who g.keys g.at_ g.types (k:Int)) (fun r=>Tri (eO c who b.keys b.types b.wrote b.incs b.last_ (k:Int)) (Both r (n + 1))):=by
 obtain ⟨gk,ga,gt,gf,gi⟩:=g
 dsimp only at hf hi
 have htl:=h.types;have hkk:=h.keys
 dsimp only at htl hkk ⊢
 subst htl hkk;have t1:=h.tl;have t2:=h.wl;have t3:=h.il;have t4:=h.ll;have hfa:=h.facts k hk c.Arg;have hin:=h.incs k hk;have a1:=h.i8 k hk;have hla:=h.last k hk;have hwr:=h.wn k hk
 rw [hs] at hfa hin a1 hla
 dsimp only at hfa hin a1 hla
 obtain ⟨r',hr',spec⟩:=Ht (who:=who) hk t1 t2 t3 t4 (by omega) (by omega) h1 h8;have s0:=h.mono (Nat.le_succ n);have s1:=h.write (a:=c.Arg) hk hs;have s2:(mat gi c.Key).length < 8→_:=fun hl=>(h.inc (a:=who) hk hs hl).mono (Nat.le_succ n)
 dsimp only at s1 s2
 have e3:0 < (mat gi c.Key).length→w64 (((mat gi c.Key).length:Int) - 1)=(((mat gi c.Key).length - 1:Nat):Int):=fun h=>nL (by omega) (by omega);have m1:mat (iQ gi c.Key (mat gi c.Key++[who])) c.Key=mat gi c.Key++[who]:=by rw [vY,if_pos rfl]
 unfold jr lg oO lc kZ jq
 simp only [cond_true,cond_false,Af h1 h8,hf,hi,m1]
 repeat' (first | contradiction | with_reducible refine aA (fun hq => ?_) (fun hq => ?_) | with_reducible refine ai (by first | omega | grind [cu]) ?_ | with_reducible refine aB ?_ | with_reducible refine dh ?_ | with_reducible refine dG ?_ | with_reducible refine dH ?_ | with_reducible refine dI ?_ | with_reducible refine ag ?_)
 all_goals refine ⟨r',hr',?_⟩
 all_goals unfold Kc at spec
 all_goals simp only [Both]
 all_goals grind
theorem Ke {g:bN} {b:aN} {n:Nat} {c:Call} {who:Int} (h:Sim g b n) (h1:1≤c.Kind) (h8:c.Kind≤8) (hw:0≤who) (hn:n≤2048) :
  Tri (aI g c who) (fun r=>Tri (ak b c who) (Both r (n + 1))):=by
 have hl:=h.len;have t1:=h.tl;have t2:=h.wl;have t3:=h.il;have t4:=h.ll;have hk:=h.keys;have ht:=h.types;obtain ⟨r0,a3,hf⟩:=Dm (l:=b.keys) (s:=c.Key) (by omega);rcases hf with ⟨rfl,hno⟩ | ⟨k,rfl,a2,a1,_⟩
 ·have hm:¬ qJ g.at_ c.Key=true:=fun hh=>by
   obtain ⟨j,hj,he⟩:=(h.has c.Key).1 hh;exact hno j hj he
  unfold aI ak oP
  simp only [a3,Af h1 h8,hk,ht]
  refine aA (fun _ => ?_) (fun hh=>absurd hm hh);refine aA (fun a4 => ?_) (fun a4 => ?_)
  ·refine ag (dh ?_)
   repeat' (first | contradiction | with_reducible refine aA (fun hq => ?_) (fun hq => ?_) | with_reducible refine ai (by first | omega | grind [cu]) ?_ | with_reducible refine aB ?_ | with_reducible refine dh ?_ | with_reducible refine dG ?_ | with_reducible refine dH ?_ | with_reducible refine dI ?_ | with_reducible refine ag ?_)
   ·exact ⟨rfl,fun h=>by cases h⟩
   ·omega
  ·have hS:=h.new (s:=c.Key) (t:=typ c.Kind) hno (by omega)
   rw [hk,ht] at hS
   have he:=enter_at (a0:=g) (who:=who) hS rfl rfl (k:=b.keys.length) (by simp) (lL rfl) h1 h8 hw hn
   dsimp only at he
   refine ai (by omega) (dh (ai (by omega) ?_));refine fT he (fun r hr => ?_);unfold jm jl
   simp only [AQ h1 h8]
   repeat' (first | contradiction | with_reducible refine aA (fun hq => ?_) (fun hq => ?_) | with_reducible refine ai (by first | omega | grind [cu]) ?_ | with_reducible refine aB ?_ | with_reducible refine dh ?_ | with_reducible refine dG ?_ | with_reducible refine dH ?_ | with_reducible refine dI ?_ | with_reducible refine ag ?_ | exact hr)
   omega
 ·have hm:qJ g.at_ c.Key=true:=(h.has c.Key).2 ⟨k,a2,a1⟩;have hat:mat g.at_ c.Key=(k:Int):=by rw [← a1]; exact h.at_ k a2
  have he:=enter_at (a0:=g) (who:=who) h rfl rfl a2 a1 h1 h8 hw hn;unfold aI ak
  simp only [a3,hat]
  refine aA (fun hh=>absurd hm hh) (fun _ => ?_);refine fT he (fun r hr=>dh ?_)
  repeat' (first | contradiction | with_reducible refine aA (fun hq => ?_) (fun hq => ?_) | with_reducible refine ai (by first | omega | grind [cu]) ?_ | with_reducible refine aB ?_ | with_reducible refine dh ?_ | with_reducible refine dG ?_ | with_reducible refine dH ?_ | with_reducible refine dI ?_ | with_reducible refine ag ?_ | exact hr)
abbrev GS:=List ByteArray×(List (ByteArray×Int))×List Int×(List (dM×Unit))×(List (ByteArray×(List Int)))×Int
abbrev BS:=List ByteArray×List Int×(List (List Int))×List Int×List Int×Int
def IZ (g:bN) (x:Int):GS:=(g.keys,g.at_,g.types,g.facts,g.incs,x)
def Cu (b:aN) (x:Int):BS:=(b.keys,b.types,b.wrote,b.incs,b.last_,x)
def Go1 (i n:Nat):GS ⊕ (Int ⊕ Int)→(List Call×Int) ⊕ (BS ⊕ Int)→Prop
 | .inl s,.inr (.inl t)=>∃ g b,s=IZ g ((i + 1:Nat):Int)∧t=Cu b ((i + 1:Nat):Int)∧Sim g b n
 | .inr (.inr a),.inr (.inr b)=>a=1∧b=1
 | _,_=>False
theorem enters {g:bN} {b:aN} {n i:Nat} {l:List Call} {y:Event×Bool} (h:Sim g b n) (hy:y.1.Calls=l) (hl:l.length≤16) (hi:i < 64) (hn:n≤1024) (hc:wY l (fun c=>1≤c.Kind∧c.Kind≤8)) :
  Tri (iter (sO (i:Int) y) (IZ g 0)) (fun x=>Tri (iter (gJ (i:Int) l) (Cu b 0)) (Go1 i (n + 16) x)):=by
 refine DF l.length (fun k s t=>∃ g b,s=IZ g (k:Int)∧t=Cu b (k:Int)∧Sim g b (n + k)) (Nat.zero_le _) ⟨g,b,rfl,rfl,h⟩ ?_;rintro k s t hk ⟨g,b,rfl,rfl,hS⟩;unfold sO gJ IZ Cu
 dsimp only
 rw [hy]
 refine aA (fun h => ?_) (fun h => ?_)
 ·refine ai (by omega) ?_;obtain ⟨r,hr,r',hr',hb⟩:=Ke (who:=(i:Int)) hS (hc k (by omega)).1 (hc k (by omega)).2 (by omega) (by omega);refine bB hr ?_;have hw:w64 ((k:Int) + 1)=((k + 1:Nat):Int):=aZ (by omega)
  rw [hw]
  repeat' (first | contradiction | with_reducible refine aA (fun hq => ?_) (fun hq => ?_) | with_reducible refine ai (by first | omega | grind [cu]) ?_ | with_reducible refine aB ?_ | with_reducible refine dh ?_ | with_reducible refine dG ?_ | with_reducible refine dH ?_ | with_reducible refine dI ?_ | with_reducible refine ag ?_ | refine bB hr' ?_)
  ·exact ⟨rfl,rfl⟩
  ·exact absurd (by rw [hb.1]; omega) ‹r.1≠0›
  ·exact absurd (by rw [← hb.1]; omega) ‹r'.1≠0›
  ·exact ⟨by omega,r.2,r'.2,rfl,rfl,hb.2 (by omega)⟩
 ·have hw:w64 ((i:Int) + 1)=((i + 1:Nat):Int):=aZ (by omega)
  rw [hw]
  repeat' (first | contradiction | with_reducible refine aA (fun hq => ?_) (fun hq => ?_) | with_reducible refine ai (by first | omega | grind [cu]) ?_ | with_reducible refine aB ?_ | with_reducible refine dh ?_ | with_reducible refine dG ?_ | with_reducible refine dH ?_ | with_reducible refine dI ?_ | with_reducible refine ag ?_)
  exact ⟨g,b,rfl,rfl,hS.mono (by omega)⟩
theorem Hu {h:History} {i:Nat} {b:aN} {Q:BS ⊕ Int→Prop} (hi:i < h.Txns.length) (hs:ET (idx h.Txns (i:Int))) (a1:(idx h.Txns (i:Int)).Ops.length≤16)
  (h1:¬ (yR h (idx h.Txns (i:Int))∧BP (BB h (idx h.Txns (i:Int))))→Q (.inr 1))
  (h2:yR h (idx h.Txns (i:Int))→BP (BB h (idx h.Txns (i:Int)))→Tri (iter (gJ (i:Int) (dO h (idx h.Txns (i:Int)))) (Cu b 0)) (fun x=>match x with | .inl _=>False | .inr y=>Q y)) :
  Tri (iter (gL h b.keys b.types b.wrote b.incs b.last_ (i:Int)) ([],0)) Q:=by
 generalize ht:idx h.Txns (i:Int)=t at hs a1 h1 h2;refine CG t.Ops.length (fun k l=>l=(dO h t).take k∧∀ j:Nat,j < k→0≤(idx t.Ops (j:Int)).Key∧(idx t.Ops (j:Int)).Key < (h.Keys.length:Int)) ⟨rfl,by omega⟩ ?_
 rintro k l hk ⟨rfl,hJ⟩;have hlen:((dO h t).take k).length=k:=by simp [dO]; omega
 unfold gL mh qy
 simp only [cond_true,cond_false,hlen,ht]
 have hsm:=El (e:=⟨0,t.Status,(dO h t).take k⟩) (hs.small k);have hfull:k=t.Ops.length→(dO h t).take k=dO h t:=fun e=>List.take_of_length_le (by simp [dO]; omega);have hnext:k < t.Ops.length→(dO h t).take (k + 1)=(dO h t).take k++[xU h (idx t.Ops (k:Int))]:=fun hk=>by
  rw [oN (by simpa [dO] using hk),dO,za hk]
 have hw:w64 ((k:Int) + 1)=((k + 1:Nat):Int):=aZ (by omega)
 rw [hw]
 repeat' (first | contradiction | with_reducible refine aA (fun hq => ?_) (fun hq => ?_) | with_reducible refine ai (by first | omega | grind [cu]) ?_ | with_reducible refine aB ?_ | with_reducible refine dh ?_ | with_reducible refine dG ?_ | with_reducible refine dH ?_ | with_reducible refine dI ?_ | with_reducible refine ag ?_ | refine fq hsm (fun r hr => ?_))
 ·grind [Up2,yR,wY]
 ·grind [Up2,yR,wY]
 ·grind [Up2,xU]
 ·have a0:k=t.Ops.length:=by omega
  rw [hfull a0] at hr
  refine h1 (fun hh => ?_);have:=hr.1.2 hh.2
  contradiction
 ·have a0:k=t.Ops.length:=by omega
  rw [hfull a0] at hr ⊢
  have hK:yR _ t:=fun j hj=>hJ j (by omega);refine fT (h2 hK (hr.1.1 (by omega))) ?_;rintro (x | y) hxy
  ·exact hxy.elim
  ·exact hxy
def Cv (h:History) (i:Nat):Prop:=Ae h.Txns i∧yR h (idx h.Txns (i:Int))∧BP (BB h (idx h.Txns (i:Int)))
def uK (h:History):Prop:=h.Keys.length * 16≤140737488351232∧h.Txns.length * 56≤140737488351232∧wY h.Txns ET
theorem LZ {h:History} (hs:uK h) (hN:tZ h.Keys) (a9:h.Txns.length≤32) :
  Tri (iter (qj h) (IZ ⟨[],[],[],[],[]⟩ 0)) (fun x=>Tri (iter (jT h) (Cu ⟨[],[],[],[],[]⟩ 0)) (fun y=>(∃ v,x = .inr v∧v=y)∧(y=0∨y=1))):=by
 obtain ⟨a7,a8,a1⟩:=hs;refine DF h.Txns.length (fun k s t=>∃ g b,s=IZ g (k:Int)∧t=Cu b (k:Int)∧Sim g b (k * 16)∧∀ j:Nat,j < k→Cv h j) (Nat.zero_le _) ⟨_,_,rfl,rfl,Sim.start,fun j hj=>absurd hj (Nat.not_lt_zero _)⟩ ?_;rintro k s t hk ⟨g,b,rfl,rfl,hS,hJ⟩;unfold qj sP jT jS IZ Cu
 simp only [cond_true,cond_false]
 refine aA (fun a6 => ?_) (fun a6 => ?_)
 ·have a0:k < h.Txns.length:=by omega
  obtain ⟨r,hr,a3,a5⟩:=Dl (h:=h) (a1 k a0);obtain ⟨p,hp,a4⟩:=Ct (l:=h.Txns) a0 (by omega);obtain ⟨p',hp',hp1'⟩:=zo (l:=h.Txns) a0 (by omega);have hco:BP (BB h (idx h.Txns (k:Int)))→(idx h.Txns (k:Int)).Ops.length≤16:=fun he=>by
   have:=he.2.2.1
   simpa [BB,dO] using this
  refine ai (by omega) (bB hr ?_)
  by_cases hok:Cv h k
  ·have e1:r.2=true:=a3.2 ⟨hok.2.1,hok.2.2⟩;have e2:p=true:=a4.2 hok.1;have e3:p'=true:=hp1'.2 hok.1;have hc:wY (dO h (idx h.Txns (k:Int))) (fun c=>1≤c.Kind∧c.Kind≤8):=fun j hj=>⟨(hok.2.2.2.2.2 j hj).1,(hok.2.2.2.2.2 j hj).2.1⟩;obtain ⟨x,hx,y,hy,hxy⟩:=enters (y:=r) (i:=k) hS (congrArg Event.Calls (a5 e1)) hok.2.2.2.2.1 (by omega) (by omega) hc;refine aA (fun h=>absurd e1 h) (fun _ => ?_);refine ai (by omega) (bB hp ?_);refine aA (fun h=>absurd e2 h) (fun _ => ?_);refine ⟨x,hx,?_⟩
   repeat' (first | contradiction | with_reducible refine aA (fun hq => ?_) (fun hq => ?_) | with_reducible refine ai (by first | omega | grind [cu]) ?_ | with_reducible refine aB ?_ | with_reducible refine dh ?_ | with_reducible refine dG ?_ | with_reducible refine dH ?_ | with_reducible refine dI ?_ | with_reducible refine ag ?_ | refine bB hp' ?_)
   ·exact absurd (hco hok.2.2) (by omega)
   ·refine Hu a0 (a1 k a0) (hco hok.2.2) (fun hn=>absurd ⟨hok.2.1,hok.2.2⟩ hn) (fun _ _=>⟨y,hy,?_⟩);rcases x with s | a | a <;> rcases y with t | t | t
    ·exact hxy.elim
    ·obtain ⟨g',b',rfl,rfl,hS'⟩:=hxy;refine ⟨by omega,g',b',rfl,rfl,(show k * 16 + 16=(k + 1) * 16 by omega) ▸ hS',fun j hj => ?_⟩
     rcases Nat.lt_or_ge j k with h1 | h1
     ·exact hJ j h1
     ·rw [show j=k by omega]; exact hok
    ·exact hxy.elim
    ·exact hxy.elim
    ·exact hxy.elim
    ·exact hxy.elim
    ·exact hxy.elim
    ·exact hxy.elim
    ·obtain ⟨rfl,rfl⟩:=hxy;exact ⟨⟨1,rfl,rfl⟩,.inr rfl⟩
  ·have h1:Tri (iter (gL h b.keys b.types b.wrote b.incs b.last_ (k:Int)) ([],0)) (fun y=>p'=true→(idx h.Txns (k:Int)).Ops.length≤16→y = .inr 1) ∨ ¬ ((idx h.Txns (k:Int)).Ops.length≤16) ∨ ¬ p'=true:=by
    by_cases a2:(idx h.Txns (k:Int)).Ops.length≤16
    ·by_cases h3:p'=true
     ·refine .inl (Hu a0 (a1 k a0) a2 (fun _ _ _=>rfl) (fun q1 q2=>absurd ⟨hp1'.1 h3,q1,q2⟩ hok))
     ·exact .inr (.inr h3)
    ·exact .inr (.inl a2)
   have hend:Tri (aR h.Txns (k:Int)) (fun y=>Tri (bif !y then (out (some 1):Option (BS ⊕ Int)) else bif decide ((((idx h.Txns (k:Int)).Ops).length:Int) > 16) then out (some 1) else iter (gL h b.keys b.types b.wrote b.incs b.last_ (k:Int)) ([],0)) (fun y=>y = .inr 1)):=by
    refine ⟨p',hp',?_⟩
    repeat' (first | contradiction | with_reducible refine aA (fun hq => ?_) (fun hq => ?_) | with_reducible refine ai (by first | omega | grind [cu]) ?_ | with_reducible refine aB ?_ | with_reducible refine dh ?_ | with_reducible refine dG ?_ | with_reducible refine dH ?_ | with_reducible refine dI ?_ | with_reducible refine ag ?_)
    ·rfl
    ·rfl
    ·rcases h1 with h1 | h1 | h1
     ·exact fT h1 (fun y hy=>hy (Decidable.of_not_not ‹¬¬p'=true›) (by omega))
     ·omega
     ·contradiction
   have hend2:∀ {Q:BS ⊕ Int→Prop},Q (.inr 1)→Tri ((aR h.Txns (k:Int)).bind fun y=>bif !y then (out (some 1):Option (BS ⊕ Int)) else bif decide ((((idx h.Txns (k:Int)).Ops).length:Int) > 16) then out (some 1) else iter (gL h b.keys b.types b.wrote b.incs b.last_ (k:Int)) ([],0)) Q:=by
    intro Q hQ;refine fq hend (fun y hy=>fT hy ?_);rintro _ rfl;exact hQ
   repeat' (first | contradiction | with_reducible refine aA (fun hq => ?_) (fun hq => ?_) | with_reducible refine ai (by first | omega | grind [cu]) ?_ | with_reducible refine aB ?_ | with_reducible refine dh ?_ | with_reducible refine dG ?_ | with_reducible refine dH ?_ | with_reducible refine dI ?_ | with_reducible refine ag ?_ | refine bB hp ?_)
   ·refine hend2 ?_;exact ⟨⟨1,rfl,rfl⟩,.inr rfl⟩
   ·refine hend2 ?_;exact ⟨⟨1,rfl,rfl⟩,.inr rfl⟩
   ·exact absurd ⟨a4.1 (by grind),a3.1 (by grind)⟩ hok
 ·repeat' (first | contradiction | with_reducible refine aA (fun hq => ?_) (fun hq => ?_) | with_reducible refine ai (by first | omega | grind [cu]) ?_ | with_reducible refine aB ?_ | with_reducible refine dh ?_ | with_reducible refine dG ?_ | with_reducible refine dH ?_ | with_reducible refine dI ?_ | with_reducible refine ag ?_)
  exact ⟨⟨0,rfl,rfl⟩,.inl rfl⟩
theorem Dn {h:History} (hs:uK h):Tri (aK h) (fun v=>Tri (ay h) (fun v'=>v=v'∧(v=0∨v=1))):=by
 obtain ⟨a1,a2,a4⟩:=hs;obtain ⟨y,hy,hn⟩:=EU (l:=h.Keys) (by omega);have hT:=fun hN a0=>LZ (h:=h) ⟨a1,a2,a4⟩ hN a0;have hfail:¬ (tZ h.Keys∧h.Txns.length≤32)→ay h=some 1:=by
  intro hno;refine dS.1 ?_;unfold ay iK
  simp only [cond_true,cond_false]
  repeat' (first | contradiction | with_reducible refine aA (fun hq => ?_) (fun hq => ?_) | with_reducible refine ai (by first | omega | grind [cu]) ?_ | with_reducible refine aB ?_ | with_reducible refine dh ?_ | with_reducible refine dG ?_ | with_reducible refine dH ?_ | with_reducible refine dI ?_ | with_reducible refine ag ?_ | refine bB hy ?_)
  ·rfl
  ·rfl
  ·exact absurd ⟨hn.1 (Decidable.of_not_not ‹¬¬y=true›),by omega⟩ hno
 have hgood:tZ h.Keys→h.Txns.length≤32→Tri (iter (qj h) (IZ ⟨[],[],[],[],[]⟩ 0)) (fun x=>Tri (ay h) (fun v'=>x = .inr v'∧(v'=0∨v'=1))):=by
  intro hN a0;refine fT (hT hN a0) (fun x hx => ?_);unfold ay iK
  simp only [cond_true,cond_false]
  have:=hn.2 hN
  repeat' (first | contradiction | with_reducible refine aA (fun hq => ?_) (fun hq => ?_) | with_reducible refine ai (by first | omega | grind [cu]) ?_ | with_reducible refine aB ?_ | with_reducible refine dh ?_ | with_reducible refine dG ?_ | with_reducible refine dH ?_ | with_reducible refine dI ?_ | with_reducible refine ag ?_ | refine bB hy ?_)
  ·omega
  ·refine fT hx (fun v hv => ?_);obtain ⟨⟨v2,rfl,rfl⟩,h2⟩:=hv;exact ⟨rfl,h2⟩
 have hbad:¬ (tZ h.Keys∧h.Txns.length≤32)→Tri (ay h) (fun v'=>(1:Int)=v'∧((1:Int)=0∨(1:Int)=1)):=fun hno=>⟨1,hfail hno,rfl,.inr rfl⟩;unfold aK sQ
 simp only [cond_true,cond_false]
 repeat' (first | contradiction | with_reducible refine aA (fun hq => ?_) (fun hq => ?_) | with_reducible refine ai (by first | omega | grind [cu]) ?_ | with_reducible refine aB ?_ | with_reducible refine dh ?_ | with_reducible refine dG ?_ | with_reducible refine dH ?_ | with_reducible refine dI ?_ | with_reducible refine ag ?_)
 ·exact hbad (fun hh=>by have:=hh.1.1; omega)
 ·exact hbad (fun hh=>by have:=hh.2; omega)
 ·refine qW h.Keys.length (BQ h.Keys) ?_;intro k hk hJ;unfold wu qi
  simp only [cond_true,cond_false]
  have hf:k < h.Keys.length→Tri (slices_Contains_string (eQ h.Keys 0 (k:Int)) (idx h.Keys (k:Int))) (fun r=>r=true↔∃ j:Nat,j < k∧idx h.Keys (j:Int)=idx h.Keys (k:Int)):=by
   intro hk'
   rw [qI (by omega)]
   refine fT (FY (by simp; omega)) (fun r hr => ?_);have ht:(h.Keys.take k).length=k:=by simp; omega
   have hx:∀ j:Nat,j < k→idx (h.Keys.take k) (j:Int)=idx h.Keys (j:Int):=fun j h=>Ar h
   rw [ht] at hr
   grind
  have he:=Gv (k:=idx h.Keys (k:Int));have hw:w64 ((k:Int) + 1)=((k + 1:Nat):Int):=aZ (by omega)
  rw [hw]
  have hNk:BQ h.Keys k↔(1≤(idx h.Keys (k:Int)).size∧(idx h.Keys (k:Int)).size≤32∧∀ j:Nat,j < k→idx h.Keys (j:Int)≠idx h.Keys (k:Int)):=Iff.rfl;have hno:k < h.Keys.length → ¬ BQ h.Keys k → ¬ (tZ h.Keys∧h.Txns.length≤32):=fun h1 h2 h3=>h2 (h3.1.2 k h1);refine aA (fun a3 => ?_) (fun a3 => ?_)
  ·refine ai (by omega) ?_
   repeat' (first | contradiction | with_reducible refine aA (fun hq => ?_) (fun hq => ?_) | with_reducible refine ai (by first | omega | grind [cu]) ?_ | with_reducible refine aB ?_ | with_reducible refine dh ?_ | with_reducible refine dG ?_ | with_reducible refine dH ?_ | with_reducible refine dI ?_ | with_reducible refine ag ?_ | refine fq (hf (by omega)) (fun r hr => ?_))
   ·exact hbad (hno (by omega) (by grind))
   ·exact hbad (hno (by omega) (by grind))
   ·exact hbad (hno (by omega) (by grind))
   ·exact ⟨rfl,by omega,by grind⟩
  ·have hN:tZ h.Keys:=⟨by omega,fun i hi=>hJ i (by omega)⟩
   unfold rO;refine dh ?_;obtain ⟨x,hx,v,hv,hq⟩:=hgood hN (by omega);obtain ⟨rfl,h2⟩:=hq;exact ⟨_,hx,v,hv,rfl,h2⟩
end Go.Proofs.YtfpeabnehpclnaaGreatT
namespace Go.Proofs.YtfpeabnehpclnaaGreatT
open Go Go.Proofs Go.Proofs.YtfpeabnehpclnaaGreatE
set_option linter.unusedVariables false
set_option linter.unusedSimpArgs false
def uf (l:List Int) (c:Call) (w:Int) (s:ByteArray):List Int:=if c.Kind=4∧c.Key=s∧(l.length=0∨idx l ((l.length - 1:Nat):Int)≠w) then l++[w] else l
def ou (E:List (Call×Int)) (s:ByteArray):List Int:=E.foldl (fun l e=>uf l e.1 e.2 s) []
theorem Dp {E:List (Call×Int)} {c:Call} {w:Int} {s:ByteArray}:ou (E++[(c,w)]) s=uf (ou E s) c w s:=by
 unfold ou; rw [List.foldl_append]; rfl
theorem wE {l:List Int} {c:Call} {w:Int} {s:ByteArray} (h:¬ (c.Kind=4∧c.Key=s)):uf l c w s=l:=by
 unfold uf; rw [if_neg (fun hh=>h ⟨hh.1,hh.2.1⟩)]
def NU (E:List (Call×Int)) (c:Call) (w:Int):Prop :=
 ((c.Kind=2∨c.Kind=3)→∀ e ∈ E,e.1.Key=c.Key→(e.1.Kind=2∨e.1.Kind=3)→e.1.Arg≠c.Arg)∧(c.Kind=4→(uf (ou E c.Key) c w c.Key).length≤8)
def Ld (E:List (Call×Int)) (c:Call) (w:Int):Prop:=(∀ e ∈ E,e.1.Key=c.Key→typ e.1.Kind=typ c.Kind)∧NU E c w
structure BookInv0 (E:List (Call×Int)) (b:aN):Prop where
 tl:b.types.length=b.keys.length
 wl:b.wrote.length=b.keys.length
 il:b.incs.length=b.keys.length
 ll:b.last_.length=b.keys.length
 nd:∀ i j:Nat,i < b.keys.length→j < b.keys.length→idx b.keys (i:Int)=idx b.keys (j:Int)→i=j
 ks:∀ e ∈ E,∃ j:Nat,j < b.keys.length∧idx b.keys (j:Int)=e.1.Key
 ty:∀ e ∈ E,∀ j:Nat,j < b.keys.length→idx b.keys (j:Int)=e.1.Key→idx b.types (j:Int)=typ e.1.Kind
 wr:∀ j:Nat,j < b.keys.length→∀ a,(∃ m:Nat,m < (idx b.wrote (j:Int)).length∧idx (idx b.wrote (j:Int)) (m:Int)=a)↔∃ e ∈ E,e.1.Key=idx b.keys (j:Int)∧(e.1.Kind=2∨e.1.Kind=3)∧e.1.Arg=a
 wn:∀ j:Nat,j < b.keys.length→(idx b.wrote (j:Int)).length≤E.length
 ic:∀ j:Nat,j < b.keys.length→idx b.incs (j:Int)=((ou E (idx b.keys (j:Int))).length:Int)
 i8:∀ j:Nat,j < b.keys.length→(ou E (idx b.keys (j:Int))).length≤8
 io:∀ s,(∀ j:Nat,j < b.keys.length→idx b.keys (j:Int)≠s)→ou E s=[]
 la:∀ j:Nat,j < b.keys.length→((ou E (idx b.keys (j:Int))).length=0→idx b.last_ (j:Int) = -1) ∧
  (0 < (ou E (idx b.keys (j:Int))).length→idx b.last_ (j:Int)=idx (ou E (idx b.keys (j:Int))) (((ou E (idx b.keys (j:Int))).length - 1:Nat):Int))
theorem BookInv0.start:BookInv0 [] ⟨[],[],[],[],[]⟩:=by
 refine ⟨rfl,rfl,rfl,rfl,?_,?_,?_,?_,?_,?_,?_,?_,?_⟩
 all_goals simp [ou]
theorem BookInv0.new {E:List (Call×Int)} {b:aN} (h:BookInv0 E b) {s:ByteArray} {t:Int} (hn:∀ j:Nat,j < b.keys.length→idx b.keys (j:Int)≠s) :
  BookInv0 E ⟨b.keys++[s],b.types++[t],b.wrote++[[]],b.incs++[0],b.last_++[-1]⟩:=by
 have hl:(b.keys++[s]).length=b.keys.length + 1:=by simp
 have k1:∀ j:Nat,j < b.keys.length→idx (b.keys++[s]) (j:Int)=idx b.keys (j:Int):=fun j hj=>mI hj;have k2:idx (b.keys++[s]) ((b.keys.length:Nat):Int)=s:=lL rfl;have t1:∀ j:Nat,j < b.keys.length→idx (b.types++[t]) (j:Int)=idx b.types (j:Int):=fun j hj=>mI (by rw [h.tl]; exact hj);have w1:∀ j:Nat,j < b.keys.length→idx (b.wrote++[[]]) (j:Int)=idx b.wrote (j:Int):=fun j hj=>mI (by rw [h.wl]; exact hj);have w2:idx (b.wrote++[[]]) ((b.keys.length:Nat):Int)=[]:=lL h.wl.symm;have i1:∀ j:Nat,j < b.keys.length→idx (b.incs++[0]) (j:Int)=idx b.incs (j:Int):=fun j hj=>mI (by rw [h.il]; exact hj);have i2:idx (b.incs++[0]) ((b.keys.length:Nat):Int)=0:=lL h.il.symm;have l1:∀ j:Nat,j < b.keys.length→idx (b.last_++[-1]) (j:Int)=idx b.last_ (j:Int):=fun j hj=>mI (by rw [h.ll]; exact hj);have l2:idx (b.last_++[-1]) ((b.keys.length:Nat):Int) = -1:=lL h.ll.symm;have ho:=h.io s hn;have hne:∀ e ∈ E,e.1.Key≠s:=fun e he hs=>by
  obtain ⟨j,hj,hk⟩:=h.ks e he;exact hn j hj (hk.trans hs)
 have cut:∀ j:Nat,j < b.keys.length + 1→j < b.keys.length∨j=b.keys.length:=by omega
 refine ⟨by simp [h.tl],by simp [h.wl],by simp [h.il],by simp [h.ll],?_,?_,?_,?_,?_,?_,?_,?_,?_⟩
 ·intro i j hi hj he
  dsimp only at hi hj he
  rw [hl] at hi hj
  have:=h.nd i j;rcases cut i hi with hi' | hi' <;> rcases cut j hj with hj' | hj' <;> grind
 ·intro e he;obtain ⟨j,hj,hk⟩:=h.ks e he;exact ⟨j,by simp; omega,(k1 j hj).trans hk⟩
 ·intro e he j hj hk
  dsimp only at hj hk ⊢
  rw [hl] at hj
  rcases cut j hj with hj' | hj'
  ·rw [k1 j hj'] at hk; rw [t1 j hj']; exact h.ty e he j hj' hk
  ·subst hj'; rw [k2] at hk; exact absurd hk.symm (hne e he)
 ·intro j hj a
  dsimp only at hj ⊢
  rw [hl] at hj
  rcases cut j hj with hj' | hj'
  ·rw [k1 j hj',w1 j hj']; exact h.wr j hj' a
  ·subst hj'
   rw [k2,w2]
   constructor
   ·rintro ⟨m,hm,_⟩; simp at hm
   ·rintro ⟨e,he,hk,_⟩; exact absurd hk (hne e he)
 ·intro j hj
  dsimp only at hj ⊢
  rw [hl] at hj
  rcases cut j hj with hj' | hj'
  ·rw [w1 j hj']; exact h.wn j hj'
  ·subst hj'; rw [w2]; simp
 ·intro j hj
  dsimp only at hj ⊢
  rw [hl] at hj
  rcases cut j hj with hj' | hj'
  ·rw [k1 j hj',i1 j hj']; exact h.ic j hj'
  ·subst hj'; rw [k2,i2,ho]; rfl
 ·intro j hj
  dsimp only at hj ⊢
  rw [hl] at hj
  rcases cut j hj with hj' | hj'
  ·rw [k1 j hj']; exact h.i8 j hj'
  ·subst hj'; rw [k2,ho]; simp
 ·intro x hx
  dsimp only at hx ⊢
  rw [hl] at hx
  exact h.io x (fun j hj=>by rw [← k1 j hj]; exact hx j (by omega))
 ·intro j hj
  dsimp only at hj ⊢
  rw [hl] at hj
  rcases cut j hj with hj' | hj'
  ·rw [k1 j hj',l1 j hj']; exact h.la j hj'
  ·subst hj'; rw [k2,l2,ho]; simp
theorem jD {E:List (Call×Int)} {c:Call} {w:Int} {e:Call×Int}:e ∈ E++[(c,w)]↔e ∈ E∨e=(c,w):=by simp
theorem BookInv0.same {E:List (Call×Int)} {b:aN} {c:Call} {w:Int} {k:Nat} (h:BookInv0 E b) (hk:k < b.keys.length) (hs:idx b.keys (k:Int)=c.Key) (ht:idx b.types (k:Int)=typ c.Kind)
  (h2:c.Kind≠2) (h3:c.Kind≠3) (hw:uf (ou E c.Key) c w c.Key=ou E c.Key):BookInv0 (E++[(c,w)]) b:=by
 have hws:∀ s,ou (E++[(c,w)]) s=ou E s:=fun s=>by
  rw [Dp]
  by_cases e:c.Kind=4∧c.Key=s
  ·rw [← e.2]; exact hw
  ·exact wE e
 refine ⟨h.tl,h.wl,h.il,h.ll,h.nd,?_,?_,?_,?_,?_,?_,?_,?_⟩
 ·intro e he;rcases jD.1 he with he | rfl
  ·exact h.ks e he
  ·exact ⟨k,hk,hs⟩
 ·intro e he j hj hkj;rcases jD.1 he with he | rfl
  ·exact h.ty e he j hj hkj
  ·have:=h.nd j k hj hk (hkj.trans hs.symm);subst this;exact ht
 ·intro j hj a
  rw [h.wr j hj a]
  constructor
  ·rintro ⟨e,he,r⟩; exact ⟨e,jD.2 (.inl he),r⟩
  ·rintro ⟨e,he,r⟩;rcases jD.1 he with he | rfl
   ·exact ⟨e,he,r⟩
   ·rcases r.2.1 with r | r <;> contradiction
 ·intro j hj;have:=h.wn j hj
  simp; omega
 ·intro j hj; rw [hws]; exact h.ic j hj
 ·intro j hj; rw [hws]; exact h.i8 j hj
 ·intro s hs'; rw [hws]; exact h.io s hs'
 ·intro j hj; rw [hws]; exact h.la j hj
theorem BookInv0.write {E:List (Call×Int)} {b:aN} {c:Call} {w:Int} {k:Nat} (h:BookInv0 E b) (hk:k < b.keys.length) (hs:idx b.keys (k:Int)=c.Key) (ht:idx b.types (k:Int)=typ c.Kind)
  (a0:c.Kind=2∨c.Kind=3):BookInv0 (E++[(c,w)]) ⟨b.keys,b.types,b.wrote.set k (idx b.wrote (k:Int)++[c.Arg]),b.incs,b.last_⟩:=by
 have hws:∀ s,ou (E++[(c,w)]) s=ou E s:=fun s=>by
  rw [Dp]
  exact wE (fun e=>by omega)
 have w1:∀ j:Nat,idx (b.wrote.set k (idx b.wrote (k:Int)++[c.Arg])) (j:Int)=if j=k then idx b.wrote (k:Int)++[c.Arg] else idx b.wrote (j:Int):=fun j=>vv (by rw [h.wl]; exact hk);refine ⟨h.tl,by simp [h.wl],h.il,h.ll,h.nd,?_,?_,?_,?_,?_,?_,?_,?_⟩
 ·intro e he;rcases jD.1 he with he | rfl
  ·exact h.ks e he
  ·exact ⟨k,hk,hs⟩
 ·intro e he j hj hkj;rcases jD.1 he with he | rfl
  ·exact h.ty e he j hj hkj
  ·have:=h.nd j k hj hk (hkj.trans hs.symm);subst this;exact ht
 ·intro j hj a
  dsimp only at hj ⊢
  rw [w1 j]
  have hold:=h.wr j hj a
  by_cases e:j=k
  ·subst e
   rw [if_pos rfl]
   constructor
   ·rintro ⟨m,hm,he⟩;rcases Nat.lt_or_ge m (idx b.wrote (j:Int)).length with h1 | h1
    ·rw [mI h1] at he
     obtain ⟨e,he',r⟩:=hold.1 ⟨m,h1,he⟩;exact ⟨e,jD.2 (.inl he'),r⟩
    ·simp at hm
     rw [lL (by omega)] at he
     exact ⟨(c,w),jD.2 (.inr rfl),hs.symm,a0,he⟩
   ·rintro ⟨e,he,r⟩;rcases jD.1 he with he | rfl
    ·obtain ⟨m,hm,hh⟩:=hold.2 ⟨e,he,r⟩;exact ⟨m,by simp; omega,(mI hm).trans hh⟩
    ·exact ⟨_,by simp,(lL rfl).trans r.2.2⟩
  ·rw [if_neg e,hold]
   constructor
   ·rintro ⟨e,he,r⟩; exact ⟨e,jD.2 (.inl he),r⟩
   ·rintro ⟨e',he,r⟩;rcases jD.1 he with he | rfl
    ·exact ⟨e',he,r⟩
    ·exact absurd (h.nd j k hj hk (r.1.symm.trans hs.symm)) e
 ·intro j hj
  dsimp only at hj ⊢
  rw [w1 j]
  have:=h.wn j hj
  split
  ·rename_i e; subst e; simp; omega
  ·simp; omega
 ·intro j hj; rw [hws]; exact h.ic j hj
 ·intro j hj; rw [hws]; exact h.i8 j hj
 ·intro s hs'; rw [hws]; exact h.io s hs'
 ·intro j hj; rw [hws]; exact h.la j hj
theorem BookInv0.inc {E:List (Call×Int)} {b:aN} {c:Call} {w:Int} {k:Nat} (h:BookInv0 E b) (hk:k < b.keys.length) (hs:idx b.keys (k:Int)=c.Key) (ht:idx b.types (k:Int)=typ c.Kind)
  (h4:c.Kind=4) (hw:uf (ou E c.Key) c w c.Key=ou E c.Key++[w]) (h8:(ou E c.Key).length + 1≤8) :
  BookInv0 (E++[(c,w)]) ⟨b.keys,b.types,b.wrote,b.incs.set k (idx b.incs (k:Int) + 1),b.last_.set k w⟩:=by
 have hws:∀ s,ou (E++[(c,w)]) s=if c.Key=s then ou E s++[w] else ou E s:=fun s=>by
  rw [Dp]
  by_cases e:c.Key=s
  ·rw [if_pos e,← e]; exact hw
  ·rw [if_neg e]; exact wE (fun hh=>e hh.2)
 have i1:∀ j:Nat,idx (b.incs.set k (idx b.incs (k:Int) + 1)) (j:Int)=if j=k then idx b.incs (k:Int) + 1 else idx b.incs (j:Int):=fun j=>vv (by rw [h.il]; exact hk);have l1:∀ j:Nat,idx (b.last_.set k w) (j:Int)=if j=k then w else idx b.last_ (j:Int):=fun j=>vv (by rw [h.ll]; exact hk);have hne:∀ j:Nat,j < b.keys.length→(c.Key=idx b.keys (j:Int)↔j=k):=fun j hj=>⟨fun e=>h.nd j k hj hk (e.symm.trans hs.symm),fun e=>by rw [e,hs]⟩
 refine ⟨h.tl,h.wl,by simp [h.il],by simp [h.ll],h.nd,?_,?_,?_,?_,?_,?_,?_,?_⟩
 ·intro e he;rcases jD.1 he with he | rfl
  ·exact h.ks e he
  ·exact ⟨k,hk,hs⟩
 ·intro e he j hj hkj;rcases jD.1 he with he | rfl
  ·exact h.ty e he j hj hkj
  ·have:=h.nd j k hj hk (hkj.trans hs.symm);subst this;exact ht
 ·intro j hj a
  dsimp only at hj ⊢
  rw [h.wr j hj a]
  constructor
  ·rintro ⟨e,he,r⟩; exact ⟨e,jD.2 (.inl he),r⟩
  ·rintro ⟨e,he,r⟩;rcases jD.1 he with he | rfl
   ·exact ⟨e,he,r⟩
   ·have:=r.2.1; dsimp only at this; omega
 ·intro j hj;have:=h.wn j hj
  simp; omega
 ·intro j hj
  dsimp only at hj ⊢
  have:=h.ic j hj
  rw [hws,i1 j]
  by_cases e:j=k
  ·rw [if_pos e,if_pos ((hne j hj).2 e)]; subst e; simp; omega
  ·rw [if_neg e,if_neg (fun hh=>e ((hne j hj).1 hh))]; exact this
 ·intro j hj
  dsimp only at hj ⊢
  rw [hws]
  by_cases e:j=k
  ·rw [if_pos ((hne j hj).2 e)]; subst e; rw [hs]; simp; omega
  ·rw [if_neg (fun hh=>e ((hne j hj).1 hh))]; exact h.i8 j hj
 ·intro s hs'
  dsimp only at hs'
  rw [hws,if_neg (fun e=>hs' k hk (hs.trans e))]
  exact h.io s hs'
 ·intro j hj
  dsimp only at hj ⊢
  rw [hws,l1 j]
  by_cases e:j=k
  ·rw [if_pos e,if_pos ((hne j hj).2 e)]
   refine ⟨fun h0=>by simp at h0,fun _ => ?_⟩
   rw [lL (by simp)]
  ·rw [if_neg e,if_neg (fun hh=>e ((hne j hj).1 hh))]; exact h.la j hj
theorem Lf {E:List (Call×Int)} {b:aN} {c:Call} {w:Int} {k:Nat} (h:BookInv0 E b) (hk:k < b.keys.length) (hs:idx b.keys (k:Int)=c.Key) (ht:idx b.types (k:Int)=typ c.Kind)
  (h1:1≤c.Kind) (h8:c.Kind≤8) (hw:0≤w) (hE:E.length≤4096) :
  Tri (eO c w b.keys b.types b.wrote b.incs b.last_ (k:Int)) (fun r=>(r.1=0↔NU E c w)∧(r.1=0→BookInv0 (E++[(c,w)]) r.2∧r.2.keys=b.keys∧r.2.types=b.types)):=by
 have hin:=h.ic k hk;have a0:=h.i8 k hk;have hla:=h.la k hk;have hwr:=h.wr k hk c.Arg;have hwn:=h.wn k hk
 rw [hs] at hin a0 hla hwr
 refine fT (Ht (who:=w) hk h.tl h.wl h.il h.ll (by omega) (by omega) h1 h8) (fun r hr => ?_);have stay:∀ {l:List Int},uf (ou E c.Key) c w c.Key=l→l=if c.Kind=4∧((ou E c.Key).length=0∨idx (ou E c.Key) (((ou E c.Key).length - 1:Nat):Int)≠w) then ou E c.Key++[w] else ou E c.Key:=by
  rintro l rfl;unfold uf
  simp
 have st:=stay rfl;rcases hr with ⟨a,rfl⟩ | ⟨_,b1,b2,rfl⟩ | ⟨_,b1,b2,rfl⟩ | ⟨_,b1,b2,b3,b4⟩ | ⟨_,b1,b2,b3,rfl⟩ | ⟨_,b1,b2,rfl⟩ | ⟨_,b1,b2,b3,rfl⟩
 ·exact absurd ht a
 ·refine ⟨⟨fun h=>by simp at h,fun hh => ?_⟩,fun h=>by simp at h⟩
  obtain ⟨e,he,r1,r2,r3⟩:=hwr.1 b2;exact absurd r3 (hh.1 b1 e he r1 r2)
 ·refine ⟨⟨fun _=>⟨fun _ e he r1 r2 r3=>b2 (hwr.2 ⟨e,he,r1,r2,r3⟩),fun h4=>by omega⟩,fun _=>rfl⟩,fun _=>⟨h.write hk hs ht b1,rfl,rfl⟩⟩
 ·have hne:(ou E c.Key).length=0∨idx (ou E c.Key) (((ou E c.Key).length - 1:Nat):Int)≠w:=by grind
  rw [if_pos ⟨b1,hne⟩] at st
  refine ⟨⟨fun h0=>by omega,fun hh => ?_⟩,fun h0=>by omega⟩
  have:=hh.2 b1
  rw [st] at this
  simp at this
  omega
 ·have hne:(ou E c.Key).length=0∨idx (ou E c.Key) (((ou E c.Key).length - 1:Nat):Int)≠w:=by grind
  rw [if_pos ⟨b1,hne⟩] at st
  refine ⟨⟨fun _=>⟨fun h=>by omega,fun _=>by rw [st]; simp; omega⟩,fun _=>rfl⟩,fun _=>⟨h.inc hk hs ht b1 st (by omega),rfl,rfl⟩⟩
 ·have hne:¬ ((ou E c.Key).length=0∨idx (ou E c.Key) (((ou E c.Key).length - 1:Nat):Int)≠w):=by grind
  rw [if_neg (fun hh=>hne hh.2)] at st
  refine ⟨⟨fun _=>⟨fun h=>by omega,fun _=>by rw [st]; exact a0⟩,fun _=>rfl⟩,fun _=>⟨h.same hk hs ht (by omega) (by omega) st,rfl,rfl⟩⟩
 ·rw [if_neg (fun hh=>b3 hh.1)] at st
  refine ⟨⟨fun _=>⟨fun h=>by omega,fun h=>by omega⟩,fun _=>rfl⟩,fun _=>⟨h.same hk hs ht b1 b2 st,rfl,rfl⟩⟩
structure ug (E:List (Call×Int)) (b:aN):Prop extends BookInv0 E b where
 len:b.keys.length≤32
 kex:∀ j:Nat,j < b.keys.length→∃ e ∈ E,e.1.Key=idx b.keys (j:Int)
theorem ug.start:ug [] ⟨[],[],[],[],[]⟩:=⟨BookInv0.start,by simp,fun j hj=>by simp at hj⟩
theorem Ma {E:List (Call×Int)} {b:aN} {c:Call} {w:Int} (h:ug E b) (hroom:b.keys.length=32→∃ j:Nat,j < b.keys.length∧idx b.keys (j:Int)=c.Key)
  (h1:1≤c.Kind) (h8:c.Kind≤8) (hw:0≤w) (hE:E.length≤4096) :
  Tri (ak b c w) (fun r=>(r.1=0↔Ld E c w)∧(r.1=0→ug (E++[(c,w)]) r.2)):=by
 have hl:=h.len;have t1:=h.tl;have t2:=h.wl;have t3:=h.il;have t4:=h.ll;obtain ⟨r0,a5,hf⟩:=Dm (l:=b.keys) (s:=c.Key) (by omega);unfold ak
 rw [a5]
 refine dh ?_;rcases hf with ⟨rfl,hno⟩ | ⟨k,rfl,a0,a1,_⟩
 ·refine aA (fun _ => ?_) (fun hh=>by omega);refine aA (fun a4 => ?_) (fun a4 => ?_)
  ·obtain ⟨j,hj,he⟩:=hroom (by omega);exact absurd he (hno j hj)
  ·have hn:=h.toBookInv0.new (s:=c.Key) (t:=typ c.Kind) hno;have hat:=Lf (w:=w) hn (k:=b.keys.length) (by simp) (lL rfl) (lL t1.symm) h1 h8 hw hE;have hne:∀ e ∈ E,e.1.Key≠c.Key:=fun e he hs=>by
    obtain ⟨j,hj,hk⟩:=h.ks e he;exact hno j hj (hk.trans hs)
   unfold jm jl
   simp only [AQ h1 h8]
   refine ai (by omega) (dh (ai (by omega) (ai (by omega) (ai (by omega) (ai (by omega) ?_)))));refine fT hat (fun r hr => ?_);refine ⟨hr.1.trans ⟨fun hh=>⟨fun e he hs=>absurd hs (hne e he),hh⟩,fun hh=>hh.2⟩,fun h0 => ?_⟩;obtain ⟨q1,q2,q3⟩:=hr.2 h0;refine ⟨q1,by rw [q2]; simp; omega,fun j hj => ?_⟩
   rw [q2] at hj ⊢
   have hj:j < b.keys.length + 1:=by simpa using hj
   rcases (by omega:j < b.keys.length∨j=b.keys.length) with hj' | hj'
   ·obtain ⟨e,he,hk⟩:=h.kex j hj';exact ⟨e,jD.2 (.inl he),by rw [hk]; exact (mI hj').symm⟩
   ·subst hj';exact ⟨(c,w),jD.2 (.inr rfl),(lL rfl).symm⟩
 ·refine aA (fun hh=>by omega) (fun _ => ?_);obtain ⟨e0,a2,a3⟩:=h.kex k a0;have hty:=h.ty e0 a2 k a0 a3.symm
  by_cases ht:idx b.types (k:Int)=typ c.Kind
  ·have hat:=Lf (w:=w) h.toBookInv0 a0 a1 ht h1 h8 hw hE;refine fT hat (fun r hr => ?_);refine ⟨hr.1.trans ⟨fun hh=>⟨fun e he hs => ?_,hh⟩,fun hh=>hh.2⟩,fun h0 => ?_⟩
   ·exact (h.ty e he k a0 (a1.trans hs.symm)).symm.trans ht
   ·obtain ⟨q1,q2,q3⟩:=hr.2 h0;refine ⟨q1,by rw [q2]; exact hl,fun j hj => ?_⟩
    rw [q2] at hj ⊢
    obtain ⟨e,he,hk⟩:=h.kex j hj;exact ⟨e,jD.2 (.inl he),hk⟩
  ·have hin:=h.ic k a0;have a6:=h.i8 k a0;have hwn:=h.wn k a0;refine fT (Ht (who:=w) a0 t1 t2 t3 t4 (by omega) (by omega) h1 h8) (fun r hr => ?_);have hno:¬ Ld E c w:=fun hh=>ht (hty.trans (hh.1 e0 a2 (a3.trans a1)));rcases hr with ⟨a,rfl⟩ | ⟨a,_⟩ | ⟨a,_⟩ | ⟨a,_⟩ | ⟨a,_⟩ | ⟨a,_⟩ | ⟨a,_⟩
   ·exact ⟨⟨fun h=>by simp at h,fun hh=>absurd hh hno⟩,fun h=>by simp at h⟩
   all_goals exact absurd a ht
def BF (h:History) (i:Nat):List (Call×Int):=(dO h (idx h.Txns (i:Int))).map (fun c=>(c,(i:Int)))
def vK (h:History) (k:Nat):List (Call×Int):=(List.range k).flatMap (BF h)
theorem wF {h:History} {k:Nat}:vK h (k + 1)=vK h k++BF h k:=by
 unfold vK; rw [List.range_succ,List.flatMap_append]; simp
def sw (E L:List (Call×Int)):Prop:=∀ j:Nat,j < L.length→Ld (E++L.take j) (idx L (j:Int)).1 (idx L (j:Int)).2
theorem sw.append {E L M:List (Call×Int)}:sw E (L++M)↔sw E L∧sw (E++L) M:=by
 constructor
 ·intro h;refine ⟨fun j hj => ?_,fun j hj => ?_⟩
  ·have:=h j (by simp; omega)
   rwa [mI hj,List.take_append_of_le_length (by omega)] at this
  ·have:=h (L.length + j) (by simp; omega)
   rw [List.take_append,List.take_of_length_le (by omega),show L.length + j - L.length=j by omega,← List.append_assoc] at this
   rwa [show idx (L++M) ((L.length + j:Nat):Int)=idx M (j:Int) from by
    rw [dE rfl (by simp; omega),dE rfl hj,List.getElem_append_right (by omega)]; congr 1; omega] at this
 ·rintro ⟨h1,h2⟩ j hj;rcases Nat.lt_or_ge j L.length with h3 | h3
  ·rw [mI h3,List.take_append_of_le_length (by omega)]; exact h1 j h3
  ·obtain ⟨i,rfl⟩:∃ i,j=L.length + i:=⟨j - L.length,by omega⟩
   have hi:i < M.length:=by simp at hj; omega
   have:=h2 i hi
   rw [List.take_append,List.take_of_length_le (by omega),show L.length + i - L.length=i by omega,← List.append_assoc]
   rwa [show idx (L++M) ((L.length + i:Nat):Int)=idx M (i:Int) from by
    rw [dE rfl (by simp; omega),dE rfl hi,List.getElem_append_right (by omega)]; congr 1; omega]
theorem room {K l:List ByteArray} {s:ByteArray} (hK:K.length≤32) (hl:l.length=32) (nd:∀ i j:Nat,i < l.length→j < l.length→idx l (i:Int)=idx l (j:Int)→i=j)
  (hs:s ∈ K) (hsub:∀ x ∈ l,x ∈ K):∃ j:Nat,j < l.length∧idx l (j:Int)=s:=by
 have hnd:l.Nodup:=by
  rw [List.nodup_iff_pairwise_ne,List.pairwise_iff_getElem]
  intro i j hi hj hij he;have:=nd i j hi hj (by rw [dE rfl hi,dE rfl hj]; exact he)
  omega
 by_cases h:s ∈ l
 ·obtain ⟨j,hj,he⟩:=List.getElem_of_mem h;exact ⟨j,hj,(dE rfl hj).trans he⟩
 ·have h1:(s::l).Nodup:=List.nodup_cons.2 ⟨h,hnd⟩;have h2:=h1.length_le_of_subset (l₂:=K) (fun x hx=>by
   rcases List.mem_cons.1 hx with rfl | hx
   ·exact hs
   ·exact hsub x hx)
  simp at h2
  omega
def InK (K:List ByteArray) (E:List (Call×Int)):Prop:=∀ e ∈ E,e.1.Key ∈ K
theorem ug.sub {K:List ByteArray} {E:List (Call×Int)} {b:aN} (h:ug E b) (hE:InK K E):∀ x ∈ b.keys,x ∈ K:=by
 intro x hx;obtain ⟨j,hj,rfl⟩:=List.getElem_of_mem hx;obtain ⟨e,he,hk⟩:=h.kex j hj;have:=hE e he
 rw [hk,dE rfl hj] at this
 exact this
theorem Kg {K:List ByteArray} {E:List (Call×Int)} {b:aN} {i:Nat} {l:List Call} (h:ug E b) (hK:K.length≤32) (hEK:InK K E) (hlK:∀ c ∈ l,c.Key ∈ K) (hl:l.length≤16) (hi:i < 64) (hn:E.length≤1024)
  (hc:wY l (fun c=>1≤c.Kind∧c.Kind≤8)) :
  Tri (iter (gJ (i:Int) l) (Cu b 0)) (fun x=>(sw E (l.map (fun c=>(c,(i:Int))))→∃ b',x = .inr (.inl (Cu b' ((i + 1:Nat):Int)))∧ug (E++l.map (fun c=>(c,(i:Int)))) b') ∧
   (¬ sw E (l.map (fun c=>(c,(i:Int))))→x = .inr (.inr 1))):=by
 generalize hm:l.map (fun c=>(c,(i:Int)))=m;have hml:m.length=l.length:=by rw [← hm]; simp
 have hmi:∀ k:Nat,k < l.length→idx m (k:Int)=(idx l (k:Int),(i:Int)):=fun k hk=>by rw [← hm,za hk]
 refine bY (k0:=0) l.length (fun k s=>∃ b',s=Cu b' (k:Int)∧ug (E++m.take k) b'∧∀ j:Nat,j < k→Ld (E++m.take j) (idx m (j:Int)).1 (idx m (j:Int)).2) (Nat.zero_le _) ⟨b,rfl,by simpa using h,fun j hj=>absurd hj (Nat.not_lt_zero _)⟩ ?_
 rintro k s hk ⟨b',rfl,hb,hJ⟩;unfold gJ Cu
 dsimp only
 refine aA (fun a2 => ?_) (fun a2 => ?_)
 ·have a0:k < l.length:=by omega
  have hin:InK K (E++m.take k):=fun e he=>by
   rcases List.mem_append.1 he with he | he
   ·exact hEK e he
   ·have:=List.mem_of_mem_take he
    rw [← hm] at this
    obtain ⟨c,hc,rfl⟩:=List.mem_map.1 this;exact hlK c hc
  have hcK:(idx l (k:Int)).Key ∈ K:=hlK _ (by rw [dE rfl a0]; exact List.getElem_mem a0);have hw:w64 ((k:Int) + 1)=((k + 1:Nat):Int):=aZ (by omega);obtain ⟨r,hr,q1,q2⟩:=Ma (c:=idx l (k:Int)) (w:=(i:Int)) hb (fun a1=>room hK a1 hb.nd hcK (hb.sub hin)) (hc k a0).1 (hc k a0).2 (by omega) (by simp; omega);refine ai (by omega) (bB hr ?_);refine aA (fun h0 => ?_) (fun h0 => ?_)
  ·refine aB (aB (aB (ag ⟨fun hall => ?_,fun _=>rfl⟩)));have:=hall k (by omega)
   rw [hmi k a0] at this
   exact absurd (q1.2 this) h0
  ·refine ag ⟨a0,r.2,?_,?_,?_⟩
   ·rw [hw]
   ·rw [oN (by omega),hmi k a0,← List.append_assoc]
    exact q2 (by omega)
   ·intro j hj;rcases Nat.lt_or_ge j k with h1 | h1
    ·exact hJ j h1
    ·rw [show j=k by omega,hmi k a0]; exact q1.1 (by omega)
 ·have hw:w64 ((i:Int) + 1)=((i + 1:Nat):Int):=aZ (by omega)
  rw [hw]
  have hfull:m.take k=m:=List.take_of_length_le (by omega)
  rw [hfull] at hb
  refine aB (aB (ag ⟨fun _=>⟨b',rfl,hb⟩,fun hno=>absurd (fun j hj=>hJ j (by omega)) hno⟩))
structure fJ (h:History):Prop where
 names:tZ h.Keys
 len:h.Txns.length≤32
 txn:∀ i:Nat,i < h.Txns.length→Cv h i
 ents:sw [] (vK h h.Txns.length)
theorem keys_in {h:History} {i:Nat} (hi:yR h (idx h.Txns (i:Int))):∀ c ∈ dO h (idx h.Txns (i:Int)),c.Key ∈ h.Keys:=by
 intro c hc;obtain ⟨o,ho,rfl⟩:=List.mem_map.1 hc;have:=(Aq.1 hi) o ho
 show idx h.Keys o.Key ∈ h.Keys
 rw [dE (n:=o.Key.toNat) (by omega) (by omega)]
 exact List.getElem_mem _
theorem Mc {h:History} {i:Nat} (hi:Cv h i):(BF h i).length≤16:=by
 have:=hi.2.2.2.2.1
 simpa [BF,BB,dO] using this
theorem Em {h:History} (hs:uK h):Tri (ay h) (fun v=>(v=0↔fJ h)∧(v=0∨v=1)):=by
 obtain ⟨a4,a5,a3⟩:=hs;obtain ⟨y,hy,hn⟩:=EU (l:=h.Keys) (by omega);unfold ay iK
 simp only [cond_true,cond_false]
 repeat' (first | contradiction | with_reducible refine aA (fun hq => ?_) (fun hq => ?_) | with_reducible refine ai (by first | omega | grind [cu]) ?_ | with_reducible refine aB ?_ | with_reducible refine dh ?_ | with_reducible refine dG ?_ | with_reducible refine dH ?_ | with_reducible refine dI ?_ | with_reducible refine ag ?_ | refine bB hy ?_)
 ·exact ⟨⟨fun h=>absurd h (by decide),fun hS=>absurd (hn.2 hS.names) ‹¬y=true›⟩,.inr rfl⟩
 ·exact ⟨⟨fun h=>absurd h (by decide),fun hS=>absurd hS.len (by omega)⟩,.inr rfl⟩
 ·have hN:tZ h.Keys:=hn.1 (Decidable.of_not_not ‹¬¬y=true›);have a2:h.Txns.length≤32:=by omega
  refine bY (k0:=0) h.Txns.length (fun k s=>∃ b,s=Cu b (k:Int)∧ug (vK h k) b∧InK h.Keys (vK h k)∧(vK h k).length≤16 * k∧sw [] (vK h k)∧∀ j:Nat,j < k→Cv h j) (Nat.zero_le _)
   ⟨⟨[],[],[],[],[]⟩,rfl,ug.start,fun e he=>by simp [vK] at he,by simp [vK],fun j hj=>by simp [vK] at hj,fun j hj=>absurd hj (Nat.not_lt_zero _)⟩ ?_
  rintro k s hk ⟨b,rfl,hb,hin,hlen,hents,hJ⟩;unfold jT jS Cu
  simp only [cond_true,cond_false]
  have hbad:(k < h.Txns.length → ¬ Cv h k)→k < h.Txns.length → ¬ fJ h:=fun h1 h2 hS=>h1 h2 (hS.txn k h2);refine aA (fun a1 => ?_) (fun a1 => ?_)
  ·have a0:k < h.Txns.length:=by omega
   obtain ⟨p',hp',hp1'⟩:=zo (l:=h.Txns) a0 (by omega);have hco:BP (BB h (idx h.Txns (k:Int)))→(idx h.Txns (k:Int)).Ops.length≤16:=fun he=>by
    have:=he.2.2.1
    simpa [BB,dO] using this
   repeat' (first | contradiction | with_reducible refine aA (fun hq => ?_) (fun hq => ?_) | with_reducible refine ai (by first | omega | grind [cu]) ?_ | with_reducible refine aB ?_ | with_reducible refine dh ?_ | with_reducible refine dG ?_ | with_reducible refine dH ?_ | with_reducible refine dI ?_ | with_reducible refine ag ?_ | refine bB hp' ?_)
   ·exact ⟨⟨fun h=>absurd h (by decide),fun hS=>absurd (hp1'.2 (hS.txn k a0).1) ‹¬p'=true›⟩,.inr rfl⟩
   ·exact ⟨⟨fun h=>absurd h (by decide),fun hS=>absurd (hco (hS.txn k a0).2.2) (by omega)⟩,.inr rfl⟩
   ·refine Hu (b:=b) a0 (a3 k a0) (by omega) (fun hno => ?_) (fun hKo hEv => ?_)
    ·exact ⟨⟨fun h=>absurd h (by decide),fun hS=>absurd ⟨(hS.txn k a0).2.1,(hS.txn k a0).2.2⟩ hno⟩,.inr rfl⟩
    ·have hok:Cv h k:=⟨hp1'.1 (Decidable.of_not_not ‹¬¬p'=true›),hKo,hEv⟩;have hc:wY (dO h (idx h.Txns (k:Int))) (fun c=>1≤c.Kind∧c.Kind≤8):=fun j hj=>⟨(hEv.2.2.2 j hj).1,(hEv.2.2.2 j hj).2.1⟩;refine fT (Kg (i:=k) hb hN.1 hin (keys_in hKo) hEv.2.2.1 (by omega) (by omega) hc) (fun x hx => ?_)
     by_cases hall:sw (vK h k) (BF h k)
     ·obtain ⟨b',rfl,hb'⟩:=hx.1 hall;refine ⟨a0,b',rfl,by rw [wF]; exact hb',?_,?_,?_,?_⟩
      ·rw [wF]
       intro e he;rcases List.mem_append.1 he with he | he
       ·exact hin e he
       ·obtain ⟨c,hc,rfl⟩:=List.mem_map.1 he;exact keys_in hKo c hc
      ·have:=Mc hok
       rw [wF,List.length_append]; omega
      ·rw [wF]
       exact sw.append.2 ⟨hents,hall⟩
      ·intro j hj;rcases Nat.lt_or_ge j k with h1 | h1
       ·exact hJ j h1
       ·rw [show j=k by omega]; exact hok
     ·rw [hx.2 hall]
      refine ⟨⟨fun h=>absurd h (by decide),fun hS=>absurd ?_ hall⟩,.inr rfl⟩;have hsp:∀ n:Nat,k + 1≤n→sw [] (vK h n)→sw (vK h k) (BF h k):=by
       intro n
       induction n with
       | zero=>intro h; omega
       | succ n ih =>
        intro hn hE
        rw [wF,sw.append] at hE
        rcases Nat.lt_or_ge k n with h1 | h1
        ·exact ih (by omega) hE.1
        ·rw [show n=k by omega] at hE
         exact hE.2
      exact hsp _ a0 hS.ents
  ·have a0:k=h.Txns.length:=by omega
   repeat' (first | contradiction | with_reducible refine aA (fun hq => ?_) (fun hq => ?_) | with_reducible refine ai (by first | omega | grind [cu]) ?_ | with_reducible refine aB ?_ | with_reducible refine dh ?_ | with_reducible refine dG ?_ | with_reducible refine dH ?_ | with_reducible refine dI ?_ | with_reducible refine ag ?_)
   rw [a0] at hents hJ
   exact ⟨⟨fun _=>⟨hN,a2,hJ,hents⟩,fun _=>rfl⟩,.inl rfl⟩
theorem Kh {h:History} (hs:uK h):∃ v,aK h=some v∧ay h=some v∧(v=0∨v=1)∧(v=0↔fJ h):=by
 obtain ⟨v,hv,v',hv',rfl,a0⟩:=Dn hs;obtain ⟨w,hw,h1,h2⟩:=Em hs;have:v=w:=Option.some.inj (hv'.symm.trans hw);subst this;exact ⟨v,hv,hv',a0,h1⟩
end Go.Proofs.YtfpeabnehpclnaaGreatT
namespace Go.Proofs.YtfpeabnehpclnaaGreatT
open Go Go.Proofs Go.Proofs.YtfpeabnehpclnaaGreatE
set_option linter.unusedVariables false
set_option linter.unusedSimpArgs false
def vR (ops:List Op) (key:Int) (p:Nat):List Int:=((ops.take p).filter (fun o=>decide (o.Key=key∧o.Kind≤4))).map (·.Arg)
theorem AR {ops:List Op} {key:Int} {p:Nat} (h:p < ops.length):vR ops key (p + 1)=if (idx ops (p:Int)).Key=key∧(idx ops (p:Int)).Kind≤4 then vR ops key p++[(idx ops (p:Int)).Arg] else vR ops key p:=by
 unfold vR
 rw [oN h,List.filter_append,List.map_append]
 by_cases e:(idx ops (p:Int)).Key=key∧(idx ops (p:Int)).Kind≤4
 ·simp [e]
 ·rw [if_neg e]
  simp only [List.filter_cons,List.filter_nil,decide_eq_true_eq,if_neg e]
  simp
theorem yx {ops:List Op} {key:Int} {p:Nat}:(vR ops key p).length≤ops.length:=by
 unfold vR
 rw [List.length_map]
 exact Nat.le_trans (List.length_filter_le _ _) (by simp; omega)
def DV (ops:List Op) (t:Int) (p:Nat):List Ask :=
 let o:=idx ops (p:Int)
 let mine:=vR ops o.Key p
 if o.Kind≤4 then [] else if mine=[] then [⟨t,p,o.Key,o.Vals⟩] else if (before (o.Kind - 4) o.Vals mine).2=true∧o.Kind≠5 then [⟨t,p,o.Key,(before (o.Kind - 4) o.Vals mine).1⟩] else []
def Dq (ops:List Op) (t:Int) (p:Nat):List ib :=
 let o:=idx ops (p:Int)
 let mine:=vR ops o.Key p
 if o.Kind≤4 then [] else if mine=[] then [] else if (before (o.Kind - 4) o.Vals mine).2=true then [] else [⟨t,p⟩]
def wG (ops:List Op) (t:Int) (k:Nat):List Ask:=(List.range k).flatMap (DV ops t)
def vT (ops:List Op) (t:Int) (k:Nat):List ib:=(List.range k).flatMap (Dq ops t)
theorem Ag {ops:List Op} {t:Int} {k:Nat}:wG ops t (k + 1)=wG ops t k++DV ops t k:=by
 unfold wG; rw [List.range_succ,List.flatMap_append]; simp
theorem yS {ops:List Op} {t:Int} {k:Nat}:vT ops t (k + 1)=vT ops t k++Dq ops t k:=by
 unfold vT; rw [List.range_succ,List.flatMap_append]; simp
theorem BR {ops:List Op} {t:Int} {k:Nat}:(wG ops t k).length≤k:=by
 induction k with
 | zero=>simp [wG]
 | succ k ih =>
  rw [Ag,List.length_append]
  have:(DV ops t k).length≤1:=by
   unfold DV
   dsimp only
   split
   ·simp
   ·split
    ·simp
    ·split <;> simp
  omega
theorem Ah {ops:List Op} {t:Int} {k:Nat}:(vT ops t k).length≤k:=by
 induction k with
 | zero=>simp [vT]
 | succ k ih =>
  rw [yS,List.length_append]
  have:(Dq ops t k).length≤1:=by
   unfold Dq
   dsimp only
   split
   ·simp
   ·split
    ·simp
    ·split <;> simp
  omega
def wH (h:History) (t:Int):List Ask:=if (idx h.Txns t).Status=1 then wG (idx h.Txns t).Ops t (idx h.Txns t).Ops.length else []
def xk (h:History) (t:Int):List ib:=if (idx h.Txns t).Status=1 then vT (idx h.Txns t).Ops t (idx h.Txns t).Ops.length else []
def Lg (ops:List Op):Prop:=ops.length≤16∧wY ops (fun o=>1≤o.Kind∧o.Kind≤8∧o.Vals.length≤64)
theorem Cv.ops {h:History} {i:Nat} (hi:Cv h i):Lg (idx h.Txns (i:Int)).Ops:=by
 obtain ⟨_,_,_,_,h1,h2⟩:=hi;refine ⟨by simpa [BB,dO] using h1,fun j hj => ?_⟩
 have:=h2 j (by simpa [BB,dO] using hj)
 dsimp only [BB,dO] at this
 rw [za hj] at this
 unfold vF xU at this
 dsimp only at this
 grind
theorem Md {h:History} {t:Nat} {f:fB} (ht:t < h.Txns.length) (ho:Lg (idx h.Txns (t:Int)).Ops) (ha:f.asks.length≤1000000) (hb:f.bad.length≤1000000) :
  Tri (bG f h (t:Int)) (fun r=>r=⟨f.asks++wH h (t:Int),f.bad++xk h (t:Int)⟩):=by
 unfold bG wH xk;refine ai (by omega) ?_;refine aA (fun h1 => ?_) (fun h1 => ?_)
 ·rw [if_neg h1,if_neg h1]
  exact ag (by simp)
 ·have h1:(idx h.Txns (t:Int)).Status=1:=Decidable.of_not_not h1
  rw [if_pos h1,if_pos h1]
  generalize hx:(idx h.Txns (t:Int)).Ops=ops at ho ⊢;obtain ⟨a3,hall⟩:=ho;refine bY (k0:=0) ops.length (fun k s=>s.1=f.asks++wG ops (t:Int) k∧s.2.1=f.bad++vT ops (t:Int) k∧(∀ key,mat s.2.2.1 key=vR ops key k)∧s.2.2.2=(k:Int)) (Nat.zero_le _)
   ⟨by simp [wG],by simp [vT],fun key=>rfl,rfl⟩ ?_
  rintro k ⟨l1,l2,m,x⟩ hk ⟨e1,e2,hm,e4⟩
  dsimp only at e1 e2 hm e4
  subst e1 e2 e4;unfold qY mZ mY ja
  simp only [cond_true,cond_false,hx,hm]
  have hw:w64 ((k:Int) + 1)=((k + 1:Nat):Int):=aZ (by omega);have l1:=BR (ops:=ops) (t:=(t:Int)) (k:=k);have l2:=Ah (ops:=ops) (t:=(t:Int)) (k:=k);have l3:=yx (ops:=ops) (key:=(idx ops (k:Int)).Key) (p:=k);have hn:∀ key,k < ops.length→vR ops key (k + 1)=_:=fun key hk=>AR hk
  rw [hw]
  refine aA (fun a2 => ?_) (fun a2 => ?_)
  ·have a0:k < ops.length:=by omega
   obtain ⟨o1,o2,o3⟩:=hall k a0;have a1:w64 ((idx ops (k:Int)).Kind - 4)=(idx ops (k:Int)).Kind - 4:=cu (by omega) (by omega);have hbf:=Cs ((idx ops (k:Int)).Kind - 4) (s:=(idx ops (k:Int)).Vals) (args:=vR ops (idx ops (k:Int)).Key k) (by omega) (by omega);have hcl:gG (idx ops (k:Int)).Vals=some (idx ops (k:Int)).Vals:=kz _ (by omega)
   rw [a1,hbf,hcl]
   simp only [List.length_append]
   have hA:=Ag (ops:=ops) (t:=(t:Int)) (k:=k);have hB:=yS (ops:=ops) (t:=(t:Int)) (k:=k);have hnil:∀ l:List Int,l=[]↔l.length=0:=fun l=>List.length_eq_zero_iff.symm;unfold DV at hA;unfold Dq at hB
   dsimp only at hA hB
   repeat' (first | contradiction | with_reducible refine aA (fun hq => ?_) (fun hq => ?_) | with_reducible refine ai (by first | omega | grind [cu]) ?_ | with_reducible refine aB ?_ | with_reducible refine dh ?_ | with_reducible refine dG ?_ | with_reducible refine dH ?_ | with_reducible refine dI ?_ | with_reducible refine ag ?_)
   all_goals (refine ⟨a0,?_,?_,fun key => ?_,rfl⟩ <;> dsimp only)
   all_goals grind [vY]
  ·have:k=ops.length:=by omega
   subst this
   repeat' (first | contradiction | with_reducible refine aA (fun hq => ?_) (fun hq => ?_) | with_reducible refine ai (by first | omega | grind [cu]) ?_ | with_reducible refine aB ?_ | with_reducible refine dh ?_ | with_reducible refine dG ?_ | with_reducible refine dH ?_ | with_reducible refine dI ?_ | with_reducible refine ag ?_)
   rfl
theorem NV {k:Int} (h1:5≤k) (h8:k≤8):typ k=k - 4:=by unfold typ; omega
theorem Ja {h:History} {t:Nat} (ht:t < h.Txns.length) (ho:Lg (idx h.Txns (t:Int)).Ops) :
  bv h (t:Int)=some (wH h (t:Int),xk h (t:Int)):=by
 refine dS.1 ?_;unfold bv wH xk;refine ai (by omega) ?_;refine aA (fun h1 => ?_) (fun h1 => ?_)
 ·rw [if_neg h1,if_neg h1]
  exact ag rfl
 ·have h1:(idx h.Txns (t:Int)).Status=1:=Decidable.of_not_not h1
  rw [if_pos h1,if_pos h1]
  generalize hx:(idx h.Txns (t:Int)).Ops=ops at ho ⊢;obtain ⟨a3,hall⟩:=ho;refine bY (k0:=0) ops.length (fun k s=>s=(wG ops (t:Int) k,vT ops (t:Int) k,(k:Int))) (Nat.zero_le _) rfl ?_;rintro k s hk rfl;have l1:=BR (ops:=ops) (t:=(t:Int)) (k:=k);have l2:=Ah (ops:=ops) (t:=(t:Int)) (k:=k);have l3:=yx (ops:=ops) (key:=(idx ops (k:Int)).Key) (p:=k);have hw:w64 ((k:Int) + 1)=((k + 1:Nat):Int):=aZ (by omega);unfold tH gM
  simp only [hx]
  refine aA (fun a2 => ?_) (fun a2 => ?_)
  ·have a0:k < ops.length:=by omega
   obtain ⟨o1,o2,o3⟩:=hall k a0;have hA:=Ag (ops:=ops) (t:=(t:Int)) (k:=k);have hB:=yS (ops:=ops) (t:=(t:Int)) (k:=k);unfold DV at hA;unfold Dq at hB
   dsimp only at hA hB
   refine ai (by omega) (dh (aA (fun a1 => ?_) (fun a1 => ?_)))
   ·unfold iV
    rw [hw]
    refine ag ⟨a0,?_⟩
    grind
   ·refine bY (k0:=0) k (fun j s=>s=(vR ops (idx ops (k:Int)).Key j,(j:Int))) (Nat.zero_le _) rfl ?_;rintro j s hj rfl;have l4:=yx (ops:=ops) (key:=(idx ops (k:Int)).Key) (p:=j);have hwj:w64 ((j:Int) + 1)=((j + 1:Nat):Int):=aZ (by omega);have hn:j < ops.length→vR ops (idx ops (k:Int)).Key (j + 1)=_:=fun hk=>AR hk;have hbf:=Eh ((idx ops (k:Int)).Kind - 4) (s:=(idx ops (k:Int)).Vals) (args:=vR ops (idx ops (k:Int)).Key j) (by omega) (by omega);have hty:iA (idx ops (k:Int)).Kind=some ((idx ops (k:Int)).Kind - 4):=by rw [AQ o1 o2,NV (by omega) o2]
    unfold tF pX pY pW iV gM
    simp only [cond_true,cond_false,hx,hw,hwj,hty,hbf,List.nil_append]
    have hnil:∀ l:List Int,l=[]↔l.length=0:=fun l=>List.length_eq_zero_iff.symm
    repeat' (first | contradiction | with_reducible refine aA (fun hq => ?_) (fun hq => ?_) | with_reducible refine ai (by first | omega | grind [cu]) ?_ | with_reducible refine aB ?_ | with_reducible refine dh ?_ | with_reducible refine dG ?_ | with_reducible refine dH ?_ | with_reducible refine dI ?_ | with_reducible refine ag ?_ | refine bB hbf ?_)
    all_goals grind [Upm]
  ·have:k=ops.length:=by omega
   subst this
   repeat' (first | contradiction | with_reducible refine aA (fun hq => ?_) (fun hq => ?_) | with_reducible refine ai (by first | omega | grind [cu]) ?_ | with_reducible refine aB ?_ | with_reducible refine dh ?_ | with_reducible refine dG ?_ | with_reducible refine dH ?_ | with_reducible refine dI ?_ | with_reducible refine ag ?_)
   rfl
end Go.Proofs.YtfpeabnehpclnaaGreatT
namespace Go.Proofs.YtfpeabnehpclnaaGreatT
open Go Go.Proofs Go.Proofs.YtfpeabnehpclnaaGreatE
set_option linter.unusedVariables false
set_option linter.unusedSimpArgs false
theorem FZ {a b:List Int} (ha:a.length < 2 ^ 62):cB a b=some (decide (a=b)):=by
 refine xn.1 ?_;unfold cB;refine aA (fun h => ?_) (fun h => ?_)
 ·refine ag ?_;have:a≠b:=by rintro rfl; exact h rfl
  simp [this]
 ·have hl:a.length=b.length:=by grind
  refine qW a.length (fun j=>idx a (j:Int)=idx b (j:Int)) ?_;intro k hk hJ;have hw:w64 ((k:Int) + 1)=((k + 1:Nat):Int):=aZ (by omega);have hx:(∀ j:Nat,j < a.length→idx a (j:Int)=idx b (j:Int))→a=b:=fun h=>Jr hl h;unfold jX
  dsimp only
  rw [hw]
  repeat' (first | contradiction | with_reducible refine aA (fun hq => ?_) (fun hq => ?_) | with_reducible refine ai (by first | omega | grind [cu]) ?_ | with_reducible refine aB ?_ | with_reducible refine dh ?_ | with_reducible refine dG ?_ | with_reducible refine dH ?_ | with_reducible refine dI ?_ | with_reducible refine ag ?_)
  ·show false=true↔a=b
   grind
  ·exact ⟨rfl,by omega,by grind⟩
  ·show true=true↔a=b
   grind
end Go.Proofs.YtfpeabnehpclnaaGreatT
namespace Go.Proofs.YtfpeabnehpclnaaGreatT
open Go Go.Proofs Go.Proofs.YtfpeabnehpclnaaGreatE
set_option linter.unusedVariables false
set_option linter.unusedSimpArgs false
abbrev OG (y:Op):Prop:=((Lit.int .i64 (y).Kind).wf=true)∧((Lit.int .i64 (y).Key).wf=true)∧((Lit.int .i64 (y).Arg).wf=true)∧(True)∧((∀ z ∈ (y).Vals,(Lit.int .i64 z).wf=true)∧((y).Vals).length * 8≤140737488351232)
abbrev TG (y:Txn):Prop:=((Lit.int .i64 (y).Proc).wf=true)∧((Lit.int .i64 (y).Status).wf=true)∧((Lit.int .i64 (y).From).wf=true)∧((Lit.int .i64 (y).To).wf=true)∧((∀ z ∈ (y).Ops,OG z)∧((y).Ops).length * 56≤140737488351232)
abbrev HG (K:ByteArray→Prop) (x:History):Prop:=((∀ y ∈ (x).Keys,K y)∧((x).Keys).length * 16≤140737488351232)∧((∀ y ∈ (x).Txns,TG y)∧((x).Txns).length * 56≤140737488351232)
theorem HG.small {K:ByteArray→Prop} {h:History} (g:HG K h):uK h :=
 ⟨g.1.2,g.2.2,Aq.2 fun t ht=>⟨(g.2.1 t ht).2.2.2.2.2,Aq.2 fun o ho=>((g.2.1 t ht).2.2.2.2.1 o ho).2.2.2.2.2⟩⟩
theorem Cw {h:History} {t:Nat} (ho:Lg (idx h.Txns (t:Int)).Ops):(wH h (t:Int)).length≤16∧(xk h (t:Int)).length≤16∧wY (wH h (t:Int)) (fun x=>x.Base.length < 2 ^ 62):=by
 have h1:=BR (ops:=(idx h.Txns (t:Int)).Ops) (t:=(t:Int)) (k:=(idx h.Txns (t:Int)).Ops.length);have h2:=Ah (ops:=(idx h.Txns (t:Int)).Ops) (t:=(t:Int)) (k:=(idx h.Txns (t:Int)).Ops.length);have h3:=ho.1;refine ⟨?_,?_,?_⟩
 ·unfold wH; split
  ·omega
  ·simp
 ·unfold xk; split
  ·omega
  ·simp
 ·rw [Aq]
  intro x hx;unfold wH at hx
  split at hx
  ·unfold wG at hx
   rw [List.mem_flatMap] at hx
   obtain ⟨p,hp,hx⟩:=hx;have hp:p < _:=List.mem_range.1 hp;have hv:=(ho.2 p hp).2.2;have hb:=Hr ((idx (idx h.Txns (t:Int)).Ops (p:Int)).Kind - 4) (idx (idx h.Txns (t:Int)).Ops (p:Int)).Vals (vR (idx h.Txns (t:Int)).Ops (idx (idx h.Txns (t:Int)).Ops (p:Int)).Key p);unfold DV at hx
   dsimp only at hx
   split at hx
   ·simp at hx
   ·split at hx
    ·simp at hx; subst hx; dsimp only; omega
    ·split at hx
     ·simp at hx; subst hx; dsimp only; omega
     ·simp at hx
  ·simp at hx
end Go.Proofs.YtfpeabnehpclnaaGreatT
namespace Go.Proofs.YtfpeabnehpclnaaGreatT
open Go Go.Proofs Go.Proofs.YtfpeabnehpclnaaGreatE
set_option linter.unusedVariables false
set_option linter.unusedSimpArgs false
def aV (h:History) (k:Nat):List Ask:=(List.range k).flatMap (fun t=>wH h ((t:Nat):Int))
def mH (h:History) (k:Nat):List ib:=(List.range k).flatMap (fun t=>xk h ((t:Nat):Int))
theorem yT {h:History} {k:Nat}:aV h (k + 1)=aV h k++wH h (k:Int):=by
 unfold aV; rw [List.range_succ,List.flatMap_append]; simp
theorem xV {h:History} {k:Nat}:mH h (k + 1)=mH h k++xk h (k:Int):=by
 unfold mH; rw [List.range_succ,List.flatMap_append]; simp
theorem sH {h:History} (hS:fJ h):∀ k:Nat,k≤h.Txns.length→(aV h k).length≤16 * k∧(mH h k).length≤16 * k∧wY (aV h k) (fun x=>x.Base.length < 2 ^ 62):=by
 intro k
 induction k with
 | zero=>intro _; simp [aV,mH,wY]
 | succ k ih =>
  intro hk;obtain ⟨i1,i2,i3⟩:=ih (by omega);obtain ⟨b1,b2,b3⟩:=Cw (hS.txn k (by omega)).ops
  rw [yT,xV,List.length_append,List.length_append]
  refine ⟨by omega,by omega,?_⟩
  rw [Aq] at i3 b3 ⊢
  intro x hx;rcases List.mem_append.1 hx with hx | hx
  ·exact i3 x hx
  ·exact b3 x hx
theorem Jb {h:History} (hs:uK h) (hS:fJ h) (hc:aK h=some 0):nE h=some (⟨aV h h.Txns.length,mH h h.Txns.length⟩,0):=by
 have a2:=hS.len;refine dS.1 ?_;unfold nE;refine bB hc ?_
 rw [bne_self_eq_false,cond_false]
 refine bY (k0:=0) h.Txns.length (fun k s=>s=(aV h k,mH h k,(k:Int))) (Nat.zero_le _) rfl ?_;rintro k s hk rfl;have hw:w64 ((k:Int) + 1)=((k + 1:Nat):Int):=aZ (by omega);obtain ⟨i1,i2,i3⟩:=sH hS k hk;unfold yG
 dsimp only
 refine aA (fun a1 => ?_) (fun a1 => ?_)
 ·have a0:k < h.Txns.length:=by omega
  refine fq (Md a0 (hS.txn k a0).ops (by dsimp only; omega) (by dsimp only; omega)) (fun r hr => ?_);subst hr;refine ag ⟨a0,?_⟩
  dsimp only
  rw [hw,yT,xV]
 ·have:k=h.Txns.length:=by omega
  subst this;exact aB (ag rfl)
theorem Jc {h:History} (hs:uK h) (hS:fJ h):gQ h=some (aV h h.Txns.length,mH h h.Txns.length):=by
 have a2:=hS.len;refine dS.1 ?_;unfold gQ;refine bY (k0:=0) h.Txns.length (fun k s=>s=(aV h k,mH h k,(k:Int))) (Nat.zero_le _) rfl ?_;rintro k s hk rfl;have hw:w64 ((k:Int) + 1)=((k + 1:Nat):Int):=aZ (by omega);obtain ⟨i1,i2,i3⟩:=sH hS k hk;unfold rY
 dsimp only
 refine aA (fun a1 => ?_) (fun a1 => ?_)
 ·have a0:k < h.Txns.length:=by omega
  have ho:=(hS.txn k a0).ops;obtain ⟨b1,b2,b3⟩:=Cw ho;refine bB (Ja a0 ho) ?_
  dsimp only
  refine ai (by omega) (ai (by omega) (ag ⟨a0,?_⟩))
  dsimp only
  rw [hw,yT,xV]
 ·have:k=h.Txns.length:=by omega
  subst this;exact aB (ag rfl)
end Go.Proofs.YtfpeabnehpclnaaGreatT
namespace Go.Proofs.YtfpeabnehpclnaaGreatT
open Go Go.Proofs Go.Proofs.YtfpeabnehpclnaaGreatE
set_option linter.unusedVariables false
set_option linter.unusedSimpArgs false
def gY (h:History) (t:Int) (key:Int):List Int:=vR (idx h.Txns t).Ops key (idx h.Txns t).Ops.length
theorem DW {h:History} {t key:Int}:(gY h t key).length≤(idx h.Txns t).Ops.length:=yx
theorem EW {x:Txn} {key:Int} (ho:x.Ops.length≤16):eD x key=some (vR x.Ops key x.Ops.length):=by
 refine dS.1 ?_;unfold eD;refine bY (k0:=0) x.Ops.length (fun k s=>s=(vR x.Ops key k,(k:Int))) (Nat.zero_le _) rfl ?_;rintro k s hk rfl;have hw:w64 ((k:Int) + 1)=((k + 1:Nat):Int):=aZ (by omega);have l3:=yx (ops:=x.Ops) (key:=key) (p:=k);have hn:k < x.Ops.length→vR x.Ops key (k + 1)=_:=fun hk=>AR hk;unfold ww sU sS
 dsimp only
 rw [hw]
 refine aA (fun a1 => ?_) (fun a1 => ?_)
 ·have a0:k < x.Ops.length:=by omega
  replace hn:=hn a0
  repeat' (first | contradiction | with_reducible refine aA (fun hq => ?_) (fun hq => ?_) | with_reducible refine ai (by first | omega | grind [cu]) ?_ | with_reducible refine aB ?_ | with_reducible refine dh ?_ | with_reducible refine dG ?_ | with_reducible refine dH ?_ | with_reducible refine dI ?_ | with_reducible refine ag ?_)
  all_goals (refine ⟨a0,?_⟩; dsimp only; grind)
 ·have:k=x.Ops.length:=by omega
  subst this
  repeat' (first | contradiction | with_reducible refine aA (fun hq => ?_) (fun hq => ?_) | with_reducible refine ai (by first | omega | grind [cu]) ?_ | with_reducible refine aB ?_ | with_reducible refine dh ?_ | with_reducible refine dG ?_ | with_reducible refine dH ?_ | with_reducible refine dI ?_ | with_reducible refine ag ?_)
  all_goals rfl
theorem wI {h:History} {t key:Int} (ht:0≤t∧t < (h.Txns.length:Int)) (ho:(idx h.Txns t).Ops.length≤16):aQ h t key=some (gY h t key):=by
 refine dS.1 ?_;unfold aQ gY;generalize hx:(idx h.Txns t).Ops=ops at ho ⊢;refine bY (k0:=0) ops.length (fun k s=>s=(vR ops key k,(k:Int))) (Nat.zero_le _) rfl ?_;rintro k s hk rfl;have hw:w64 ((k:Int) + 1)=((k + 1:Nat):Int):=aZ (by omega);have l3:=yx (ops:=ops) (key:=key) (p:=k);have hn:k < ops.length→vR ops key (k + 1)=_:=fun hk=>AR hk;unfold qD mF mE gM
 simp only [hx,hw,Option.bind_some]
 refine ai ht ?_;refine aA (fun a1 => ?_) (fun a1 => ?_)
 ·have a0:k < ops.length:=by omega
  replace hn:=hn a0
  repeat' (first | contradiction | with_reducible refine aA (fun hq => ?_) (fun hq => ?_) | with_reducible refine ai (by first | omega | grind [cu]) ?_ | with_reducible refine aB ?_ | with_reducible refine dh ?_ | with_reducible refine dG ?_ | with_reducible refine dH ?_ | with_reducible refine dI ?_ | with_reducible refine ag ?_)
  all_goals (refine ⟨a0,?_⟩; dsimp only; grind)
 ·have:k=ops.length:=by omega
  subst this
  repeat' (first | contradiction | with_reducible refine aA (fun hq => ?_) (fun hq => ?_) | with_reducible refine ai (by first | omega | grind [cu]) ?_ | with_reducible refine aB ?_ | with_reducible refine dh ?_ | with_reducible refine dG ?_ | with_reducible refine dH ?_ | with_reducible refine dI ?_ | with_reducible refine ag ?_)
  all_goals rfl
def EX (h:History) (key:Int) (t:Nat):Bool:=decide ((idx h.Txns (t:Int)).Status≠2∧0 < (gY h (t:Int) key).length)
def fG (h:History) (key:Int) (k:Nat):List Int:=((List.range k).filter (EX h key)).map (fun t:Nat=>(t:Int))
def kW (h:History) (a:Ask) (k:Nat):List Int:=(fG h a.Key k).filter (fun t=>decide (t≠a.Txn))
theorem wJ {h:History} {key:Int} {k:Nat}:fG h key (k + 1)=if EX h key k then fG h key k++[(k:Int)] else fG h key k:=by
 unfold fG
 rw [List.range_succ,List.filter_append,List.map_append]
 by_cases hw:EX h key k=true <;> simp [hw]
theorem oM {h:History} {key:Int} {k:Nat}:(fG h key k).length≤k:=by
 unfold fG
 rw [List.length_map]
 exact Nat.le_trans (List.length_filter_le _ _) (by simp)
theorem Ga {h:History} {a:Ask} {k:Nat}:kW h a (k + 1)=if EX h a.Key k∧(k:Int)≠a.Txn then kW h a k++[(k:Int)] else kW h a k:=by
 unfold kW
 rw [wJ]
 by_cases hw:EX h a.Key k=true <;> by_cases hn:(k:Int)=a.Txn <;> simp [hw,hn]
theorem vU {h:History} {a:Ask} {k:Nat}:(kW h a k).length≤k:=Nat.le_trans (List.length_filter_le _ _) oM
theorem Ai {h:History} {key:Int} {k:Nat} {t:Int}:t ∈ fG h key k↔0≤t∧t < (k:Int)∧(idx h.Txns t).Status≠2∧0 < (gY h t key).length:=by
 unfold fG
 simp only [List.mem_map,List.mem_filter,List.mem_range,EX,decide_eq_true_eq]
 constructor
 ·rintro ⟨n,⟨hn,h1,h2⟩,rfl⟩;exact ⟨by omega,by omega,h1,h2⟩
 ·rintro ⟨h0,h1,h2,h3⟩;refine ⟨t.toNat,⟨by omega,?_⟩,by omega⟩
  rw [show ((t.toNat:Nat):Int)=t by omega]
  exact ⟨h2,h3⟩
theorem uL {h:History} {a:Ask} {k:Nat} {t:Int}:t ∈ kW h a k↔(0≤t∧t < (k:Int)∧(idx h.Txns t).Status≠2∧0 < (gY h t a.Key).length)∧t≠a.Txn:=by
 unfold kW
 rw [List.mem_filter,Ai,decide_eq_true_eq]
theorem Cx {h:History} (hS:fJ h) (hc:aK h=some 0) {key:Int}:dN h key=some (fG h key h.Txns.length):=by
 have a2:=hS.len;refine dS.1 ?_;unfold dN;refine bB hc ?_
 rw [bne_self_eq_false,cond_false]
 refine bY (k0:=0) h.Txns.length (fun k s=>s=(fG h key k,(k:Int))) (Nat.zero_le _) rfl ?_;rintro k s hk rfl;have hw:w64 ((k:Int) + 1)=((k + 1:Nat):Int):=aZ (by omega);have l3:=oM (h:=h) (key:=key) (k:=k);have hn:=wJ (h:=h) (key:=key) (k:=k);unfold EX gY at hn;unfold uF qO qN
 dsimp only
 rw [hw]
 refine aA (fun a1 => ?_) (fun a1 => ?_)
 ·have a0:k < h.Txns.length:=by omega
  have hwt:=EW (x:=idx h.Txns (k:Int)) (key:=key) (hS.txn k a0).ops.1
  simp only [hwt,Option.bind_some]
  repeat' (first | contradiction | with_reducible refine aA (fun hq => ?_) (fun hq => ?_) | with_reducible refine ai (by first | omega | grind [cu]) ?_ | with_reducible refine aB ?_ | with_reducible refine dh ?_ | with_reducible refine dG ?_ | with_reducible refine dH ?_ | with_reducible refine dI ?_ | with_reducible refine ag ?_)
  all_goals (refine ⟨a0,?_⟩; dsimp only; grind)
 ·have:k=h.Txns.length:=by omega
  subst this
  repeat' (first | contradiction | with_reducible refine aA (fun hq => ?_) (fun hq => ?_) | with_reducible refine ai (by first | omega | grind [cu]) ?_ | with_reducible refine aB ?_ | with_reducible refine dh ?_ | with_reducible refine dG ?_ | with_reducible refine dH ?_ | with_reducible refine dI ?_ | with_reducible refine ag ?_)
  all_goals rfl
theorem Aj {h:History} (hS:fJ h) {a:Ask}:bf h a=some (kW h a h.Txns.length):=by
 have a2:=hS.len;refine dS.1 ?_;unfold bf;refine bY (k0:=0) h.Txns.length (fun k s=>s=(kW h a k,(k:Int))) (Nat.zero_le _) rfl ?_;rintro k s hk rfl;have hw:w64 ((k:Int) + 1)=((k + 1:Nat):Int):=aZ (by omega);have l3:=vU (h:=h) (a:=a) (k:=k);have hn:=Ga (h:=h) (a:=a) (k:=k);unfold EX at hn;unfold pg jB lC
 dsimp only
 rw [hw]
 refine aA (fun a1 => ?_) (fun a1 => ?_)
 ·have a0:k < h.Txns.length:=by omega
  have hwt:=wI (h:=h) (t:=(k:Int)) (key:=a.Key) ⟨by omega,by omega⟩ (hS.txn k a0).ops.1
  simp only [hwt,Option.bind_some]
  repeat' (first | contradiction | with_reducible refine aA (fun hq => ?_) (fun hq => ?_) | with_reducible refine ai (by first | omega | grind [cu]) ?_ | with_reducible refine aB ?_ | with_reducible refine dh ?_ | with_reducible refine dG ?_ | with_reducible refine dH ?_ | with_reducible refine dI ?_ | with_reducible refine ag ?_)
  all_goals (refine ⟨a0,?_⟩; dsimp only; grind)
 ·have:k=h.Txns.length:=by omega
  subst this
  repeat' (first | contradiction | with_reducible refine aA (fun hq => ?_) (fun hq => ?_) | with_reducible refine ai (by first | omega | grind [cu]) ?_ | with_reducible refine aB ?_ | with_reducible refine dh ?_ | with_reducible refine dG ?_ | with_reducible refine dH ?_ | with_reducible refine dI ?_ | with_reducible refine ag ?_)
  all_goals rfl
theorem Ki {h:History} (hS:fJ h) (hc:aK h=some 0) {t key:Int}:gX h t key =
  some (if 0≤t∧t < (h.Txns.length:Int) then (gY h t key,decide (0 < (gY h t key).length)) else ([],false)):=by
 refine dS.1 ?_;unfold gX qm
 simp only [hc,Option.bind_some]
 by_cases ht:0≤t∧t < (h.Txns.length:Int)
 ·have h2:t=((t.toNat:Nat):Int):=by omega
  have ho:=(hS.txn t.toNat (by omega)).ops.1
  rw [← h2] at ho
  have hwt:=EW (x:=idx h.Txns t) (key:=key) ho
  simp only [hwt,Option.bind_some]
  rw [if_pos ht]
  unfold gY
  repeat' (first | contradiction | with_reducible refine aA (fun hq => ?_) (fun hq => ?_) | with_reducible refine ai (by first | omega | grind [cu]) ?_ | with_reducible refine aB ?_ | with_reducible refine dh ?_ | with_reducible refine dG ?_ | with_reducible refine dH ?_ | with_reducible refine dI ?_ | with_reducible refine ag ?_)
  all_goals (first | omega | simp)
 ·rw [if_neg ht]
  repeat' (first | contradiction | with_reducible refine aA (fun hq => ?_) (fun hq => ?_) | with_reducible refine ai (by first | omega | grind [cu]) ?_ | with_reducible refine aB ?_ | with_reducible refine dh ?_ | with_reducible refine dG ?_ | with_reducible refine dH ?_ | with_reducible refine dI ?_ | with_reducible refine ag ?_)
  all_goals (first | omega | rfl | simp)
def Ak (h:History) (a:Ask) (l:List Int):List aX:=l.map (fun t=>⟨t,gY h t a.Key⟩)
theorem Al {h:History} (hS:fJ h) (hc:aK h=some 0) {a:Ask}:cO h a=some (Ak h a (kW h a h.Txns.length)):=by
 have a2:=hS.len;refine dS.1 ?_;unfold cO;refine bB (Cx hS hc) ?_;obtain ⟨W,hW⟩:∃ W,W=fG h a.Key h.Txns.length:=⟨_,rfl⟩;have hWl:=oM (h:=h) (key:=a.Key) (k:=h.Txns.length);have hWm:∀ j:Nat,j < W.length→idx W (j:Int) ∈ fG h a.Key h.Txns.length:=by
  intro j hj
  rw [← hW,dE (n:=j) (by omega) (by omega)]
  exact List.getElem_mem _
 unfold kW
 rw [← hW] at hWl ⊢
 refine bY (k0:=0) W.length (fun k s=>s=(Ak h a ((W.take k).filter (fun t=>decide (t≠a.Txn))),(k:Int))) (Nat.zero_le _) (by simp [Ak]) ?_;rintro k s hk rfl;have hw:w64 ((k:Int) + 1)=((k + 1:Nat):Int):=aZ (by omega);have l3:(Ak h a ((W.take k).filter (fun t=>decide (t≠a.Txn)))).length≤32:=by
  unfold Ak
  rw [List.length_map]
  exact Nat.le_trans (List.length_filter_le _ _) (by rw [List.length_take]; omega)
 unfold uG qQ qP
 dsimp only
 rw [hw]
 refine aA (fun a1 => ?_) (fun a1 => ?_)
 ·have a0:k < W.length:=by omega
  have hm:=Ai.1 (hWm k a0);have hn:Ak h a ((W.take (k + 1)).filter (fun t=>decide (t≠a.Txn)))=if idx W (k:Int)≠a.Txn then Ak h a ((W.take k).filter (fun t=>decide (t≠a.Txn)))++[⟨idx W (k:Int),gY h (idx W (k:Int)) a.Key⟩] else Ak h a ((W.take k).filter (fun t=>decide (t≠a.Txn))):=by
   rw [List.take_succ_eq_append_getElem a0,List.filter_append]
   have:W[k]=idx W (k:Int):=(dE (n:=k) (by omega) a0).symm
   rw [this]
   unfold Ak
   by_cases hq:idx W (k:Int)=a.Txn <;> simp [hq]
  simp only [Ki hS hc,Option.bind_some,if_pos (show 0≤idx W (k:Int)∧idx W (k:Int) < (h.Txns.length:Int) from ⟨hm.1,hm.2.1⟩)]
  repeat' (first | contradiction | with_reducible refine aA (fun hq => ?_) (fun hq => ?_) | with_reducible refine ai (by first | omega | grind [cu]) ?_ | with_reducible refine aB ?_ | with_reducible refine dh ?_ | with_reducible refine dG ?_ | with_reducible refine dH ?_ | with_reducible refine dI ?_ | with_reducible refine ag ?_)
  all_goals (refine ⟨a0,?_⟩; dsimp only; grind)
 ·have:k=W.length:=by omega
  subst this
  repeat' (first | contradiction | with_reducible refine aA (fun hq => ?_) (fun hq => ?_) | with_reducible refine ai (by first | omega | grind [cu]) ?_ | with_reducible refine aB ?_ | with_reducible refine dh ?_ | with_reducible refine dG ?_ | with_reducible refine dH ?_ | with_reducible refine dI ?_ | with_reducible refine ag ?_)
  all_goals exact (by rw [List.take_length]:Ak h a ((W.take W.length).filter (fun t=>decide (t≠a.Txn)))=Ak h a (W.filter (fun t=>decide (t≠a.Txn))))
end Go.Proofs.YtfpeabnehpclnaaGreatT
namespace Go.Proofs.YtfpeabnehpclnaaGreatT
open Go Go.Proofs Go.Proofs.YtfpeabnehpclnaaGreatE
set_option linter.unusedVariables false
set_option linter.unusedSimpArgs false
def opAt (h:History) (t p:Int):Op:=idx (idx h.Txns t).Ops p
theorem Lh {h:History} {n t p:Nat} (ht:t < n) (hp:p < (idx h.Txns (t:Int)).Ops.length):(xU h (opAt h (t:Int) (p:Int)),(t:Int)) ∈ vK h n:=by
 unfold vK BF dO opAt
 rw [List.mem_flatMap]
 refine ⟨t,List.mem_range.2 ht,?_⟩
 rw [List.map_map,List.mem_map]
 refine ⟨idx (idx h.Txns (t:Int)).Ops (p:Int),?_,rfl⟩
 rw [dE (n:=p) rfl hp]
 exact List.getElem_mem _
theorem NW {L:List (Call×Int)} (h:sw [] L) {e f:Call×Int} (he:e ∈ L) (hf:f ∈ L) (hk:e.1.Key=f.1.Key):typ e.1.Kind=typ f.1.Kind:=by
 obtain ⟨i,hi,rfl⟩:=List.getElem_of_mem he;obtain ⟨j,hj,rfl⟩:=List.getElem_of_mem hf;rcases Nat.lt_trichotomy i j with hij | hij | hij
 ·have:=(h j hj).1 L[i] (by rw [List.nil_append]; exact List.mem_take_iff_getElem.2 ⟨i,by omega,rfl⟩) (by rw [dE (n:=j) rfl hj]; exact hk)
  rwa [dE (n:=j) rfl hj] at this
 ·subst hij; rfl
 ·have:=(h i hi).1 L[j] (by rw [List.nil_append]; exact List.mem_take_iff_getElem.2 ⟨j,by omega,rfl⟩) (by rw [dE (n:=i) rfl hi]; exact hk.symm)
  rw [dE (n:=i) rfl hi] at this
  exact this.symm
theorem Jd {h:History} (hS:fJ h) {t p t' p':Nat} (ht:t < h.Txns.length) (hp:p < (idx h.Txns (t:Int)).Ops.length) (ht':t' < h.Txns.length) (hp':p' < (idx h.Txns (t':Int)).Ops.length)
  (hk:(opAt h (t:Int) (p:Int)).Key=(opAt h (t':Int) (p':Int)).Key):typ (opAt h (t:Int) (p:Int)).Kind=typ (opAt h (t':Int) (p':Int)).Kind :=
 NW hS.ents (Lh ht hp) (Lh ht' hp') (by show idx h.Keys _=idx h.Keys _; rw [hk])
theorem AU {h:History} (hS:fJ h) {t p:Nat} (ht:t < h.Txns.length) (hp:p < (idx h.Txns (t:Int)).Ops.length):1≤(opAt h (t:Int) (p:Int)).Kind∧(opAt h (t:Int) (p:Int)).Kind≤8:=by
 obtain ⟨h1,h2⟩:=(hS.txn t ht).ops;have:=h2 p hp;exact ⟨this.1,this.2.1⟩
theorem Gx {h:History} (hS:fJ h) {a:Ask} {t p:Nat} (ht:t < h.Txns.length) (hp:p < (idx h.Txns (t:Int)).Ops.length) (e1:a.Txn=(t:Int)) (e2:a.Place=(p:Int)) :
  kN h a=some (typ (opAt h (t:Int) (p:Int)).Kind):=by
 obtain ⟨k1,k2⟩:=AU hS ht hp;refine dS.1 ?_;unfold kN
 rw [e1,e2]
 refine ai (by omega) (ai (by omega) ?_);exact bB (AQ k1 k2) (ag rfl)
theorem AV {h:History} (hS:fJ h) (hc:aK h=some 0) {key:Int} {t0 p0:Nat} (a3:t0 < h.Txns.length) (a5:p0 < (idx h.Txns (t0:Int)).Ops.length) (a4:(opAt h (t0:Int) (p0:Int)).Key=key) :
  fC h key=some (typ (opAt h (t0:Int) (p0:Int)).Kind):=by
 have b0:=hS.len;refine dS.1 ?_;unfold fC;refine bB hc ?_
 rw [bne_self_eq_false,cond_false]
 refine bY (k0:=0) h.Txns.length (fun k s=>s=(k:Int)∧∀ t p:Nat,t < k→p < (idx h.Txns (t:Int)).Ops.length→(opAt h (t:Int) (p:Int)).Key≠key) (Nat.zero_le _) ⟨rfl,fun t p h=>absurd h (Nat.not_lt_zero _)⟩ ?_;rintro k s hk ⟨rfl,hno⟩;have hw:w64 ((k:Int) + 1)=((k + 1:Nat):Int):=aZ (by omega);unfold xC;refine aA (fun a6 => ?_) (fun a6 => ?_)
 ·have a0:k < h.Txns.length:=by omega
  refine ai (by omega) ?_;have a9:=(hS.txn k a0).ops.1;refine bY (k0:=0) (idx h.Txns (k:Int)).Ops.length (fun m s=>s=(m:Int)∧∀ p:Nat,p < m→(opAt h (k:Int) (p:Int)).Key≠key) (Nat.zero_le _) ⟨rfl,fun p h=>absurd h (Nat.not_lt_zero _)⟩ ?_;rintro m s hm ⟨rfl,a2⟩;have a8:w64 ((m:Int) + 1)=((m + 1:Nat):Int):=aZ (by omega);unfold xB
  dsimp only
  rw [hw,a8]
  refine aA (fun a7 => ?_) (fun a7 => ?_)
  ·have a1:m < (idx h.Txns (k:Int)).Ops.length:=by omega
   refine ai (by omega) ?_;refine aA (fun he => ?_) (fun he => ?_)
   ·obtain ⟨k1,k2⟩:=AU hS a0 a1;refine bB (Af k1 k2) (aB (aB (ag ?_)));exact Jd hS a0 a1 a3 a5 ((show (opAt h (k:Int) (m:Int)).Key=key from he).trans a4.symm)
   ·refine ag ⟨a1,rfl,fun p hp => ?_⟩;rcases Nat.lt_or_ge p m with h1 | h1
    ·exact a2 p h1
    ·have:p=m:=by omega
     subst this;exact he
  ·have:m=(idx h.Txns (k:Int)).Ops.length:=by omega
   subst this;refine aB (ag ⟨a0,rfl,fun t p ht hp => ?_⟩);rcases Nat.lt_or_ge t k with h1 | h1
   ·exact hno t p h1 hp
   ·have:t=k:=by omega
    subst this;exact a2 p hp
 ·have:k=h.Txns.length:=by omega
  subst this;exact absurd a4 (hno t0 p0 a3 a5)
end Go.Proofs.YtfpeabnehpclnaaGreatT
