import Derived.Test.YtfpeabnehpclnaaGreatTD
import Derived.Test.YtfpeabnehpclnaaGreatXA
import Derived.Test.YtfpeabnehpclnaaGreatY
import Derived.Test.YtfpeabnehpclnaaGreatTF
namespace Go.Proofs.YtfpeabnehpclnaaGreatT
open Go Go.Proofs Go.Proofs.YtfpeabnehpclnaaGreatE
set_option linter.unusedVariables false
set_option linter.unusedSimpArgs false
def Upm {S Ω:Type} (n k:Nat) (J:Nat→S→Prop) (Q:Ω→Prop):S ⊕ Ω→Prop
 | .inl s'=>k < n∧J (k + 1) s'
 | .inr o=>Q o
theorem dP {S Ω:Type} {step:S→Option (S ⊕ Ω)} {Q:Ω→Prop} (n:Nat) (J:Nat→S→Prop) {s0:S} {k0:Nat} (a1:k0≤n) (h0:J k0 s0)
  (hs:∀ (k:Nat) (s:S),k≤n→J k s→Tri (step s) (Upm n k J Q)):Tri (iter step s0) Q:=by
 generalize hd:n - k0=d
 induction d using Nat.strongRecOn generalizing k0 s0 with
 | ind d ih =>
  obtain ⟨x,hx,hr⟩:=hs k0 s0 a1 h0
  rw [uO,hx]
  cases x with
  | inl s'=>exact ih (n - (k0 + 1)) (by have:=hr.1; omega) (k0:=k0 + 1) (by have:=hr.1; omega) hr.2 rfl
  | inr o=>exact ⟨o,rfl,hr⟩
def Asc (s:List Int):Prop:=∀ k:Nat,k + 1 < s.length→idx s (k:Int) < idx s ((k + 1:Nat):Int)
instance (s:List Int):Decidable (Asc s):=by
 unfold Asc;exact decidable_of_iff (∀ k,k < s.length→k + 1 < s.length→idx s (k:Int) < idx s ((k + 1:Nat):Int)) ⟨fun h k hk=>h k (by omega) hk,fun h k _ hk=>h k hk⟩
theorem nC {s:List Int} {k:Nat} (h:k < s.length):idx s (k:Int)=s[k]:=dE rfl h
theorem Be {s:List Int}:Asc s↔s.Pairwise (· < ·):=by
 rw [List.pairwise_iff_getElem]
 constructor
 ·intro h i j hi hj hij
  induction j with
  | zero=>omega
  | succ j ih =>
   have h1:=h j hj
   rw [nC (by omega),nC hj] at h1
   rcases Nat.lt_or_ge i j with h2 | h2
   ·exact Int.lt_trans (ih (by omega) h2) h1
   ·have:i=j:=by omega
    subst this;exact h1
 ·intro h k hk
  rw [nC (by omega),nC hk]
  exact h k (k + 1) (by omega) hk (by omega)
def SOk (t:Int) (s:List Int):Bool:=(t == 1 && decide (s.length≤1)) || (t == 2 && decide (s.length≤64)) || (t == 3 && decide (Asc s) && decide (s.length≤64)) || (t == 4 && s.length == 1)
def chk (t:Int) (s:List Int):Int:=if 1≤t∧t≤4 then (if SOk t s then 0 else 80) else 1
theorem nO {k:Nat} (h:k < 2 ^ 62) (h1:1≤k):w64 ((k:Int) - 1)=((k - 1:Nat):Int):=by
 rw [ou (by omega) (by omega)]; omega
theorem FT {s:List Int} (hs:s.length < 2 ^ 62):iD () s=some (decide (Asc s) && decide (s.length≤64)):=by
 unfold iD;refine fw.1 ?_;refine dP (k0:=1) (s.length + 1) (fun k x=>x=(k:Int)∧1≤k∧∀ j:Nat,j + 1 < k→j + 1 < s.length→idx s (j:Int) < idx s ((j + 1:Nat):Int)) (by omega) ⟨rfl,Nat.le_refl _,fun j h=>by omega⟩ ?_
 rintro k x hk ⟨rfl,a1,hJ⟩;unfold qZ;refine eO (fun h => ?_) (fun h => ?_)
 ·have h:(k:Int) < s.length:=of_decide_eq_true h;have e:=nO (k:=k) (by omega) a1;refine ak (by rw [e]; omega) (ak (by omega) (eO (fun h2 => ?_) (fun h2 => ?_)))
  ·have h2:idx s (k:Int)≤idx s (w64 ((k:Int) - 1)):=of_decide_eq_true h2
   rw [e] at h2
   refine aB (ah ?_)
   show false=_
   have hn:¬ Asc s:=by
    intro hA;have:=hA (k - 1) (by omega)
    rw [show k - 1 + 1=k by omega] at this
    omega
   simp [hn]
  ·have h2:¬ idx s (k:Int)≤idx s (w64 ((k:Int) - 1)):=of_decide_eq_false h2
   rw [e] at h2
   refine ⟨_,rfl,by omega,bA (by omega),by omega,fun j hj hl => ?_⟩
   rcases Nat.lt_or_ge (j + 1) k with h3 | h3
   ·exact hJ j h3 hl
   ·have:j=k - 1:=by omega
    subst this
    rw [show k - 1 + 1=k by omega]
    omega
 ·have h:¬ (k:Int) < s.length:=of_decide_eq_false h;refine aB (ah ?_)
  show decide ((s.length:Int)≤64)=_
  have hA:Asc s:=fun j hj=>hJ j (by omega) hj
  simp only [hA,decide_true,Bool.true_and]
  congr 1
  exact propext ⟨fun h=>by omega,fun h=>by omega⟩
theorem OJ {t:Int} {s:List Int} (h:1≤t∧t≤4):chk t s=if SOk t s then 0 else 80:=if_pos h
theorem four {t:Int} (h:1≤t∧t≤4):t=1∨t=2∨t=3∨t=4:=by omega
theorem Vb {s:List Int} {n:Nat}:decide ((s.length:Int)≤(n:Int))=decide (s.length≤n):=by
 congr 1
 exact propext ⟨fun h=>by omega,fun h=>by omega⟩
theorem Ji {t:Int} (h:¬ (1≤t∧t≤4)):lh t=some (-1):=by
 have e1:(t == 1)=false:=by rw [beq_eq_false_iff_ne]; omega
 have e2:(t == 2)=false:=by rw [beq_eq_false_iff_ne]; omega
 have e3:(t == 3)=false:=by rw [beq_eq_false_iff_ne]; omega
 have e4:(t == 4)=false:=by rw [beq_eq_false_iff_ne]; omega
 simp [lh,e1,e2,e3,e4]
theorem DV (t:Int) {s:List Int} (hs:s.length < 2 ^ 62):lq t s=some (chk t s):=by
 by_cases ht:1≤t∧t≤4
 ·rw [OJ ht]
  rcases four ht with rfl | rfl | rfl | rfl
  ·have:=Vb (s:=s) (n:=1)
   simp only [Int.cast_ofNat_Int] at this
   simp [lq,lh,lm,SOk]
   by_cases h:s.length≤1
   ·have h':(s.length:Int)≤1:=by omega
    simp [h,h']
   ·have h':¬ (s.length:Int)≤1:=by omega
    simp [h,h']
  ·simp [lq,lh,pX,SOk]
   by_cases h:s.length≤64
   ·have h':(s.length:Int)≤64:=by omega
    simp [h,h']
   ·have h':¬ (s.length:Int)≤64:=by omega
    simp [h,h']
  ·simp [lq,lh,FT hs,SOk]
   by_cases h:Asc s <;> by_cases h':s.length≤64 <;> simp [h,h']
  ·simp [lq,lh,mi,SOk]
   by_cases h:s.length=1
   ·have h':(s.length:Int)=1:=by omega
    simp [h,h']
   ·have h':((s.length:Int) == 1)=false:=by rw [beq_eq_false_iff_ne]; omega
    simp [h,h']
 ·rw [chk,if_neg ht]
  simp [lq,Ji ht]
def lb (s:List Int) (a:Int):Nat:=s.findIdx (fun x=>decide (a≤x))
def hit (s:List Int) (a:Int):Bool:=decide (lb s a < s.length) && (idx s (lb s a:Int) == a)
def ins (s:List Int) (a:Int):List Int:=s.take (lb s a)++((if hit s a then [] else [a])++s.drop (lb s a))
theorem Qy (s:List Int) (a:Int):lb s a≤s.length:=List.findIdx_le_length
theorem UF {s:List Int} {a:Int} {k:Nat} (h:k < lb s a):idx s (k:Int) < a:=by
 have h1:k < s.length:=Nat.lt_of_lt_of_le h (Qy s a)
 rw [nC h1]
 have:=List.not_of_lt_findIdx (p:=fun x=>decide (a≤x)) (xs:=s) h
 simpa using this
theorem UG {s:List Int} {a:Int} (h:lb s a < s.length):a≤idx s (lb s a:Int):=by
 rw [nC h]
 have:=List.findIdx_getElem (p:=fun x=>decide (a≤x)) (xs:=s) (w:=h);exact of_decide_eq_true this
theorem TQ {s:List Int} {a:Int} {i:Nat} (hi:i≤s.length) (h1:∀ k:Nat,k < i→idx s (k:Int) < a) (h2:i < s.length→a≤idx s (i:Int)):lb s a=i:=by
 rcases Nat.lt_trichotomy (lb s a) i with h | h | h
 ·have:=UG (s:=s) (a:=a) (by omega);have:=h1 _ h
  omega
 ·exact h
 ·have h3:=UF h;have:=h2 (by have:=Qy s a; omega)
  omega
theorem SG {i j:Nat} (hi:i < 2 ^ 62) (hj:j < 2 ^ 62):w64 (fP .u64 (IntKind.wrap .u64 (w64 ((i:Int) + (j:Int)))) (1:Int))=(((i + j) / 2:Nat):Int):=by
 have e1:w64 ((i:Int) + (j:Int))=((i + j:Nat):Int):=by rw [ou (by omega) (by omega)]; omega
 rw [e1,wrap_u64 (by omega),Ls (n:=1) (i:=(1:Int)) rfl (by omega),ou (by omega) (by omega)]
 simp [Nat.shiftRight_eq_div_pow]
theorem OL (a b:Int):oW a b=some (decide (a < b)):=by simp [oW,nK]
theorem Kt {s:List Int} (a:Int) (hA:Asc s) (hs:s.length < 2 ^ 62):cz s a=some ((lb s a:Int),hit s a):=by
 unfold cz;refine fw.1 ?_;have hP:=List.pairwise_iff_getElem.1 (Be.1 hA);have hmono:∀ p q:Nat,p≤q→q < s.length→idx s (p:Int)≤idx s (q:Int):=by
  intro p q hpq hq;rcases Nat.lt_or_ge p q with h | h
  ·rw [nC (by omega),nC hq]
   exact Int.le_of_lt (hP p q (by omega) hq h)
  ·have:p=q:=by omega
   subst this;exact Int.le_refl _
 refine pR (fun x:Int×Int=>∃ i j:Nat,x=((i:Int),(j:Int))∧i≤j∧j≤s.length∧(∀ k:Nat,k < i→idx s (k:Int) < a)∧(j < s.length→a≤idx s (j:Int))) (fun x=>x.2.toNat - x.1.toNat)
  ⟨0,s.length,rfl,by omega,by omega,fun k h=>by omega,fun h=>by omega⟩ ?_
 rintro _ ⟨i,j,rfl,hij,hj,h1,h2⟩;unfold jM;refine eO (fun h => ?_) (fun h => ?_)
 ·have h:(i:Int) < j:=of_decide_eq_true h;have e:=SG (i:=i) (j:=j) (by omega) (by omega)
  rw [e]
  refine ak (by decide) (ak (by omega) ?_)
  rw [OL]
  show Tri (bif decide _ then _ else _) _
  have hm:(i + j) / 2 < j:=by omega
  have a1:i≤(i + j) / 2:=by omega
  generalize (i + j) / 2=m at hm a1;refine eO (fun h3 => ?_) (fun h3 => ?_)
  ·have h3:idx s (m:Int) < a:=of_decide_eq_true h3;refine ⟨_,rfl,⟨m + 1,j,by rw [bA (by omega)],by omega,hj,fun k hk => ?_,h2⟩,?_⟩
   ·exact Int.lt_of_le_of_lt (hmono k m (by omega) (by omega)) h3
   ·rw [bA (by omega)]; simp only [Int.toNat_natCast]; omega
  ·have h3:¬ idx s (m:Int) < a:=of_decide_eq_false h3;refine ⟨_,rfl,⟨i,m,rfl,a1,by omega,h1,fun _=>by omega⟩,?_⟩
   simp only [Int.toNat_natCast]; omega
 ·have h:¬ (i:Int) < j:=of_decide_eq_false h;have hji:j=i:=by omega
  subst hji;have hl:lb s a=j:=TQ hj h1 h2;refine eO (fun h3 => ?_) (fun h3 => ?_)
  ·have h3:(j:Int) < s.length:=of_decide_eq_true h3;have hlt:j < s.length:=by omega
   refine ak (by omega) (eO (fun h4 => ?_) (fun h4 => ?_))
   ·refine aB (ah ?_)
    simp [Rnd,hl,hit,hlt,h4]
   ·simp only [ko,Option.bind_some,bne_self_eq_false,cond_false]
    refine aB (ah ?_)
    simp [Rnd,hl,hit,hlt,h4]
  ·have h3:¬ (j:Int) < s.length:=of_decide_eq_false h3;have hlt:¬ j < s.length:=by omega
   refine aB (ah ?_)
   simp [Rnd,hl,hit,hlt]
theorem SH {s:List Int} {a:Int} (hA:Asc s):hit s a=true↔a ∈ s:=by
 unfold hit
 simp only [Bool.and_eq_true,decide_eq_true_eq,beq_iff_eq]
 constructor
 ·rintro ⟨h1,h2⟩
  rw [nC h1] at h2
  exact h2 ▸ List.getElem_mem h1
 ·intro h;obtain ⟨k,hk,e⟩:=List.getElem_of_mem h;have hP:=List.pairwise_iff_getElem.1 (Be.1 hA);have:lb s a=k:=by
   refine TQ (by omega) (fun j hj => ?_) (fun _ => ?_)
   ·rw [nC (by omega),← e]; exact hP j k (by omega) hk hj
   ·rw [nC hk,e]; exact Int.le_refl _
  rw [this]
  exact ⟨hk,by rw [nC hk,e]⟩
def next (t:Int) (s:List Int) (a:Int):List Int:=if t=1 then [a] else if t=2 then s++[a] else if t=3 then ins s a else [w64 (idx s 0 + a)]
def app (t:Int) (s:List Int) (a:Int):List Int×Int :=
 if chk t s≠0 then ([],chk t s) else if (next t s a).length > 64 then ([],2) else (next t s a,0)
theorem Ua {t:Int} {s:List Int} (h:chk t s=0):1≤t∧t≤4∧SOk t s=true:=by
 unfold chk at h
 split at h
 ·rename_i h1
  split at h
  ·exact ⟨h1.1,h1.2,by assumption⟩
  ·cases h
 ·cases h
theorem Ub {t:Int} {s:List Int} (h:SOk t s=true):s.length≤64:=by
 simp only [SOk,Bool.or_eq_true,Bool.and_eq_true,decide_eq_true_eq,beq_iff_eq] at h
 omega
theorem Uc {s:List Int} (h:SOk 3 s=true):Asc s:=by
 simp [SOk] at h
 exact h.1
theorem ok_one {s:List Int} (h:SOk 4 s=true):s.length=1:=by
 simp [SOk] at h
 exact h
def start (t:Int):List Int×Int:=if 1≤t∧t≤4 then (if t=4 then [0] else [],0) else ([],1)
def step (t:Int) (x:List Int×Int) (a:Int):List Int×Int:=if x.2=0 then app t x.1 a else x
theorem OM {a b:List Int} (ha:a.length < 2 ^ 62):eT a b=some (decide (a=b)):=by
 unfold eT
 by_cases hl:a.length=b.length
 ·have:((a.length:Int) != (b.length:Int))=false:=by simp; omega
  rw [this,cond_false]
  refine fw.1 ?_;refine MP a.length (fun k=>∀ j:Nat,j < k→idx a (j:Int)=idx b (j:Int)) (fun j h=>by omega) (fun k hk hJ => ?_);unfold mR;refine eO (fun h => ?_) (fun h => ?_)
  ·have h:(k:Int) < a.length:=of_decide_eq_true h;refine ak (by omega) (ak (by omega) (eO (fun h2 => ?_) (fun h2 => ?_)))
   ·have h2:idx a (k:Int)≠idx b (k:Int):=by simpa using h2
    refine aB (ah ?_)
    show false=_
    have:a≠b:=fun e=>h2 (by rw [e])
    simp [this]
   ·have h2:idx a (k:Int)=idx b (k:Int):=by simpa using h2
    refine ⟨_,rfl,bA (by omega),by omega,fun j hj => ?_⟩
    rcases Nat.lt_or_ge j k with h3 | h3
    ·exact hJ j h3
    ·have:j=k:=by omega
     subst this;exact h2
  ·have h:¬ (k:Int) < a.length:=of_decide_eq_false h;refine aB (ah ?_)
   show true=_
   have:a=b:=Lr hl (fun j hj=>hJ j (by omega))
   simp [this]
 ·have:((a.length:Int) != (b.length:Int))=true:=by simp; omega
  rw [this,cond_true]
  have:a≠b:=fun e=>hl (by rw [e])
  simp [this]
end Go.Proofs.YtfpeabnehpclnaaGreatT
namespace Go.Proofs.YtfpeabnehpclnaaGreatT
open Go Go.Proofs Go.Proofs.YtfpeabnehpclnaaGreatE
set_option linter.unusedVariables false
set_option linter.unusedSimpArgs false
theorem Ce {a b:List Int} (ha:a.length < 2 ^ 62):gp a b=some (decide (a=b)):=by
 rw [← OM ha]
 rfl
def Fit (s args:List Int):Prop:=∀ k:Nat,k < args.length→idx args (k:Int) ∈ s∧idx args (k:Int) ∉ args.take k
instance (s args:List Int):Decidable (Fit s args):=by unfold Fit; infer_instance
def before (t:Int) (s args:List Int):List Int×Bool :=
 if chk t s≠0∨args=[] then ([],false)
 else if t=1 then ([],decide (s.length=1∧idx s 0=idx args ((args.length - 1:Nat):Int)))
 else if t=2 then (if args.length≤s.length∧s.drop (s.length - args.length)=args then (s.take (s.length - args.length),true) else ([],false))
 else if t=3 then (if Fit s args then (s.filter (fun x=>decide (x ∉ args)),true) else ([],false))
 else ([args.foldl (fun v a=>w64 (v - a)) (idx s 0)],true)
theorem Jj {s args:List Int} (hs:args.length < 2 ^ 62) (v:Int):iter (jm args) (v,0)=some ([args.foldl (fun v a=>w64 (v - a)) v],true):=by
 refine fw.1 ?_;refine tF args.length (fun k x=>x=(args.take k).foldl (fun v a=>w64 (v - a)) v) rfl (fun k x hk hJ => ?_);subst hJ;unfold jm;refine eO (fun h => ?_) (fun h => ?_)
 ·have h:(k:Int) < args.length:=of_decide_eq_true h;have hks:k < args.length:=by omega
  refine ak (by omega) ⟨_,rfl,bA (by omega),hks,?_⟩
  show _=List.foldl _ _ _
  rw [List.take_add_one,List.getElem?_eq_getElem hks,List.foldl_append,nC hks]
  rfl
 ·have h:¬ (k:Int) < args.length:=of_decide_eq_false h;refine aB (ah ?_)
  show ([_],true)=_
  rw [List.take_of_length_le (by omega)]
theorem CO {s args:List Int} (hs:s.length < 2 ^ 43) (ha:args.length < 2 ^ 62):eX () s args=some (if args.length≤s.length∧s.drop (s.length - args.length)=args then (s.take (s.length - args.length),true) else ([],false)):=by
 unfold eX
 by_cases hm:args.length≤s.length
 ·have e1:w64 ((s.length:Int) - (args.length:Int))=((s.length - args.length:Nat):Int):=by rw [ou (by omega) (by omega)]; omega
  have hlt:decide (w64 ((s.length:Int) - (args.length:Int)) < 0)=false:=decide_eq_false (by rw [e1]; omega)
  rw [hlt,cond_false,jg _ (by rw [e1]; omega),e1]
  have hsl:kP s ((s.length - args.length:Nat):Int) (s.length:Int)=s.drop (s.length - args.length):=by simp [kP]
  have a1:kP s (0:Int) ((s.length - args.length:Nat):Int)=s.take (s.length - args.length):=by simp [kP]
  rw [hsl,Ce (by simp; omega)]
  simp only [Option.bind_some]
  unfold jd
  rw [e1,a1,jg _ (by omega)]
  have hc:gQ (s.take (s.length - args.length))=some (s.take (s.length - args.length)):=jg _ (by simp; omega)
  rw [hc]
  by_cases he:s.drop (s.length - args.length)=args
  ·simp [he,hm]
  ·simp [he]
 ·have hlt:decide (w64 ((s.length:Int) - (args.length:Int)) < 0)=true:=decide_eq_true (by rw [ou (by omega) (by omega)]; omega)
  rw [hlt,cond_true,jd,cond_true,if_neg (fun h=>hm h.1)]
theorem Mh {s:List Int} (p:Int→Bool) (h:Asc s):Asc (s.filter p):=Be.2 ((Be.1 h).filter p)
theorem OO {args:List Int} {k:Nat} (h:k < args.length):args.take (k + 1)=args.take k++[idx args (k:Int)]:=by
 rw [List.take_add_one,List.getElem?_eq_getElem h,nC h]; rfl
theorem Ku {s args:List Int} {k:Nat} (h:k < args.length):s.filter (fun x=>decide (x ∉ args.take (k + 1)))=(s.filter (fun x=>decide (x ∉ args.take k))).filter (fun x=>decide (x≠idx args (k:Int))):=by
 rw [List.filter_filter]
 apply List.filter_congr
 intro x _
 rw [OO h]
 simp only [List.mem_append,List.mem_singleton,not_or]
 rw [Bool.eq_iff_iff]
 simp only [decide_eq_true_eq,Bool.and_eq_true]
 exact ⟨fun h=>⟨h.2,h.1⟩,fun h=>⟨h.2,h.1⟩⟩
theorem Mi {l:List Int} {a:Int} (hA:Asc l) (h:hit l a=true):l.take (lb l a)++l.drop (lb l a + 1)=l.filter (fun x=>decide (x≠a)):=by
 have hP:=List.pairwise_iff_getElem.1 (Be.1 hA)
 simp only [hit,Bool.and_eq_true,decide_eq_true_eq,beq_iff_eq] at h
 obtain ⟨h1,h2⟩:=h
 rw [nC h1] at h2
 generalize lb l a=i at h1 h2
 conv=>rhs; rw [← List.take_append_drop i l,List.drop_eq_getElem_cons h1,List.filter_append,List.filter_cons,h2]
 rw [if_neg (by simp)]
 congr 1
 ·symm
  rw [List.filter_eq_self]
  intro x hx;obtain ⟨j,hj,rfl⟩:=List.getElem_of_mem hx;have hj':j < i:=by simp at hj; omega
  have:=hP j i (by omega) h1 hj'
  rw [List.getElem_take,decide_eq_true_eq]
  omega
 ·symm
  rw [List.filter_eq_self]
  intro x hx;obtain ⟨j,hj,rfl⟩:=List.getElem_of_mem hx;have hj':i + 1 + j < l.length:=by simp at hj; omega
  have:=hP i (i + 1 + j) h1 hj' (by omega)
  rw [List.getElem_drop,decide_eq_true_eq]
  omega
theorem DW {s args:List Int} (hA:Asc s) (hs:s.length < 2 ^ 43) (ha:args.length < 2 ^ 62):fQ () s args=some (if Fit s args then (s.filter (fun x=>decide (x ∉ args)),true) else ([],false)):=by
 unfold fQ;have hc:gQ s=some s:=jg _ (by omega)
 rw [hc]
 refine fw.1 ?_
 show Tri (iter (lu args) (s,0)) _
 refine tF args.length (fun k l=>l=s.filter (fun x=>decide (x ∉ args.take k))∧∀ j:Nat,j < k→idx args (j:Int) ∈ s∧idx args (j:Int) ∉ args.take j) ⟨by simp; exact (List.filter_eq_self.2 (fun _ _=>rfl)).symm,fun j h=>by omega⟩ (fun k l hk hJ => ?_)
 obtain ⟨hl,hJ⟩:=hJ;have hAl:Asc l:=by rw [hl]; exact Mh _ hA
 have hll:l.length≤s.length:=by rw [hl]; exact List.length_filter_le _ _
 unfold lu;refine eO (fun h => ?_) (fun h => ?_)
 ·have h:(k:Int) < args.length:=of_decide_eq_true h;have hks:k < args.length:=by omega
  refine ak (by omega) ?_
  rw [Kt _ hAl (by omega)]
  have hm:=SH (s:=l) (a:=idx args (k:Int)) hAl
  show Tri (bif !hit l (idx args (k:Int)) then _ else _) _
  cases hh:hit l (idx args (k:Int))
  ·simp only [Bool.not_false,cond_true]
   refine aB (ah ?_)
   show ([],false)=_
   have hn:¬ Fit s args:=by
    intro hF;have h1:=hF k hks;have:idx args (k:Int) ∈ l:=by rw [hl,List.mem_filter]; exact ⟨h1.1,by simpa using h1.2⟩
    rw [hm.2 this] at hh
    cases hh
   rw [if_neg hn]
  ·simp only [Bool.not_true,cond_false]
   have hi:=Qy l (idx args (k:Int));have hlt:lb l (idx args (k:Int)) < l.length:=by
    simp only [hit,Bool.and_eq_true,decide_eq_true_eq] at hh
    exact hh.1
   have hd:jN l (lb l (idx args (k:Int)):Int) (w64 ((lb l (idx args (k:Int)):Int) + 1))=some (l.filter (fun x=>decide (x≠idx args (k:Int)))):=by
    unfold jN
    rw [bA (by omega),jg _ ⟨by omega,by omega,by omega⟩,Int.toNat_natCast,Int.toNat_natCast,Mi hAl hh]
   rw [hd]
   refine ⟨_,rfl,bA (by omega),hks,?_,fun j hj => ?_⟩
   ·rw [Ku hks,← hl]
   ·rcases Nat.lt_or_ge j k with h3 | h3
    ·exact hJ j h3
    ·have:j=k:=by omega
     subst this;have hmem:=hm.1 hh
     rw [hl,List.mem_filter] at hmem
     exact ⟨hmem.1,by simpa using hmem.2⟩
 ·have h:¬ (k:Int) < args.length:=of_decide_eq_false h;have hF:Fit s args:=fun j hj=>hJ j (by omega);refine aB (ah ?_)
  show (l,true)=_
  rw [if_pos hF,hl,List.take_of_length_le (by omega)]
theorem Qz {s args:List Int} (ha:args.length < 2 ^ 62) (h0:args≠[]):iQ () s args=some ([],decide (s.length=1∧idx s 0=idx args ((args.length - 1:Nat):Int))):=by
 unfold iQ;have hp:0 < args.length:=List.length_pos_iff.2 h0;have e1:w64 ((args.length:Int) - 1)=((args.length - 1:Nat):Int):=nO ha hp
 rw [e1]
 by_cases h1:s.length=1
 ·have h2:((s.length:Int) == 1)=true:=by rw [beq_iff_eq]; omega
  rw [h2,cond_true,jg _ (by omega),jg _ (by omega)]
  simp [h1]
  rw [Bool.eq_iff_iff]; simp
 ·have h2:((s.length:Int) == 1)=false:=by rw [beq_eq_false_iff_ne]; omega
  rw [h2,cond_false]
  simp [h1]
theorem CP (t:Int) {s args:List Int} (hs:s.length < 2 ^ 62) (ha:args.length < 2 ^ 62):iE t s args=some (before t s args):=by
 unfold iE before
 rw [DV t hs]
 by_cases hc:chk t s=0
 ·obtain ⟨h1,h2,h3⟩:=Ua hc;have hl:=Ub h3
  simp only [hc,Option.bind_some,bne_self_eq_false,cond_false,ne_eq,not_true,false_or]
  by_cases h0:args=[]
  ·subst h0
   simp [kX]
  ·have hp:((args.length:Int) == 0)=false:=by
    have:0 < args.length:=List.length_pos_iff.2 h0
    rw [beq_eq_false_iff_ne]; omega
   rw [hp,if_neg h0]
   unfold kX;rcases four ⟨h1,h2⟩ with rfl | rfl | rfl | rfl
   ·simp [lh,Qz ha h0]
   ·simp [lh,CO (s:=s) (by omega) ha]
   ·simp [lh,DW (Uc h3) (by omega) ha]
   ·have:=ok_one h3
    simp [lh,eY]
    rw [jg _ (by omega),Jj (s:=s) ha]
    simp
 ·have:(chk t s != 0)=true:=by simpa using hc
  simp [hc,this,kX]
theorem Jk (t:Int) (s args:List Int):(before t s args).1.length≤s.length + 1:=by
 unfold before
 split
 ·simp
 ·split
  ·simp
  ·split
   ·split <;> simp <;> omega
   ·split
    ·split
     ·exact Nat.le_trans (List.length_filter_le _ _) (by omega)
     ·simp
    ·simp
end Go.Proofs.YtfpeabnehpclnaaGreatT
namespace Go.Proofs.YtfpeabnehpclnaaGreatT
open Go Go.Proofs Go.Proofs.YtfpeabnehpclnaaGreatE
set_option linter.unusedVariables false
set_option linter.unusedSimpArgs false
def vG (c:Call) (k:Int):Prop :=
 1≤c.Kind∧c.Kind≤8∧1≤c.Key.size∧c.Key.size≤32 ∧
  (c.Kind≤4→c.Got=false∧c.Vals.length=0∧(c.Kind=4 → -1048576≤c.Arg∧c.Arg≤1048576)) ∧
  (5≤c.Kind→c.Arg=0∧(c.Got=true↔k=1)∧(c.Got=false→c.Vals.length=0) ∧
   (c.Got=true→(c.Kind=5→c.Vals.length≤1)∧(c.Kind=8→c.Vals.length=1)∧(c.Kind=7→Asc c.Vals)∧c.Vals.length≤64))
theorem Ij {k:ByteArray}:k=(⟨#[]⟩:ByteArray)↔k.size=0:=by
 constructor
 ·rintro rfl; rfl
 ·intro h;obtain ⟨a⟩:=k;have:a = #[]:=Array.eq_empty_of_size_eq_zero h
  rw [this]
theorem QA {c:Call} (hs:c.Vals.length < 2 ^ 61):Tri (iter (uC c) 1) (fun r=>r=true↔(c.Kind=7→Asc c.Vals)):=by
 refine dP (k0:=1) (c.Vals.length + 1) (fun k x=>x=(k:Int)∧1≤k∧∀ j:Nat,j + 1 < k→j + 1 < c.Vals.length→idx c.Vals (j:Int) < idx c.Vals ((j + 1:Nat):Int)) (by omega) ⟨rfl,Nat.le_refl _,fun j h=>by omega⟩ ?_
 rintro k x hk ⟨rfl,a1,hJ⟩;unfold uC uB
 dsimp only
 have e:=nO (k:=k) (by omega) a1;have e2:=bA (k:=k) (by omega)
 rw [e,e2]
 repeat' (first | contradiction | with_reducible refine aA (fun hq => ?_) (fun hq => ?_) | with_reducible refine ak (by first | omega | grind [bI]) ?_ | with_reducible refine aB ?_ | with_reducible refine cK ?_ | with_reducible refine dV ?_ | with_reducible refine dW ?_ | with_reducible refine dX ?_ | with_reducible refine ah ?_)
 ·show false=true↔_
  have hl:¬ Asc c.Vals:=by
   intro hA;have:=hA (k - 1) (by omega)
   rw [show k - 1 + 1=k by omega] at this
   omega
  grind
 ·refine ⟨by omega,rfl,by omega,fun j hj hl => ?_⟩
  rcases Nat.lt_or_ge (j + 1) k with h3 | h3
  ·exact hJ j h3 hl
  ·have:j=k - 1:=by omega
   subst this
   rw [show k - 1 + 1=k by omega]
   omega
 ·show true=true↔_
  have hl:Asc c.Vals:=fun j hj=>hJ j (by omega) hj
  grind
 ·show true=true↔_
  grind
theorem EY (c:Call) (k:Int) (hs:c.Vals.length < 2 ^ 61):Tri (dJ c k) (fun r=>r=true↔vG c k):=by
 unfold dJ nR uE uD yM vG
 simp only [cond_true,cond_false]
 have he:=Ij (k:=c.Key)
 repeat' (first | contradiction | with_reducible refine aA (fun hq => ?_) (fun hq => ?_) | with_reducible refine ak (by first | omega | grind [bI]) ?_ | with_reducible refine aB ?_ | with_reducible refine cK ?_ | with_reducible refine dV ?_ | with_reducible refine dW ?_ | with_reducible refine dX ?_ | with_reducible refine ah ?_ | refine gJ (QA hs) (fun r hr => ?_))
 all_goals grind
theorem SI {c:Call} (hs:c.Vals.length < 2 ^ 61) (hc:c.Kind=7):Tri (iter (qB c) 1) (fun r=>r=true↔(Asc c.Vals∧c.Vals.length≤64)):=by
 refine dP (k0:=1) (c.Vals.length + 1) (fun k x=>x=(k:Int)∧1≤k∧∀ j:Nat,j + 1 < k→j + 1 < c.Vals.length→idx c.Vals (j:Int) < idx c.Vals ((j + 1:Nat):Int)) (by omega) ⟨rfl,Nat.le_refl _,fun j h=>by omega⟩ ?_
 rintro k x hk ⟨rfl,a1,hJ⟩;unfold qB mr
 dsimp only
 have e:=nO (k:=k) (by omega) a1;have e2:=bA (k:=k) (by omega)
 rw [e,e2]
 repeat' (first | contradiction | with_reducible refine aA (fun hq => ?_) (fun hq => ?_) | with_reducible refine ak (by first | omega | grind [bI]) ?_ | with_reducible refine aB ?_ | with_reducible refine cK ?_ | with_reducible refine dV ?_ | with_reducible refine dW ?_ | with_reducible refine dX ?_ | with_reducible refine ah ?_)
 ·show false=true↔_
  have hl:¬ Asc c.Vals:=by
   intro hA;have:=hA (k - 1) (by omega)
   rw [show k - 1 + 1=k by omega] at this
   omega
  grind
 ·refine ⟨by omega,rfl,by omega,fun j hj hl => ?_⟩
  rcases Nat.lt_or_ge j (k - 1) with h3 | h3
  ·exact hJ j (by omega) hl
  ·have:j=k - 1:=by omega
   subst this
   rw [show k - 1 + 1=k by omega]
   omega
 ·show decide _=true↔_
  have hl:Asc c.Vals:=fun j hj=>hJ j (by omega) hj
  grind
theorem Hu (c:Call) (k:Int) (hs:c.Vals.length < 2 ^ 61):Tri (bP c k) (fun r=>r=true↔vG c k):=by
 unfold bP jP jO mr vG
 simp only [cond_true,cond_false]
 have ha:c.Vals.length=0→Asc c.Vals:=fun h j hj=>by omega
 repeat' (first | contradiction | with_reducible refine aA (fun hq => ?_) (fun hq => ?_) | with_reducible refine ak (by first | omega | grind [bI]) ?_ | with_reducible refine aB ?_ | with_reducible refine cK ?_ | with_reducible refine dV ?_ | with_reducible refine dW ?_ | with_reducible refine dX ?_ | with_reducible refine ah ?_ | refine gJ (SI hs (by assumption)) (fun r hr => ?_))
 all_goals grind
def Small (l:List Call):Prop:=l.length < 2 ^ 61∧xx l (fun c=>c.Vals.length < 2 ^ 61)
theorem QB {l:List Call} {e:Event} (hs:Small l):Tri (eF l e) (fun r=>r=true ↔ ¬ xx l (fun c=>vG c e.Kind)):=by
 have h1:Tri (cB l e) (fun r=>0≤r ↔ ¬ xx l (fun c=>vG c e.Kind)):=by
  have hl:=hs.1;unfold cB;refine qm l.length (fun j=>vG (idx l (j:Int)) e.Kind) ?_;intro k hk hJ;unfold gX vT
  dsimp only
  repeat' (first | contradiction | with_reducible refine aA (fun hq => ?_) (fun hq => ?_) | with_reducible refine ak (by first | omega | grind [bI]) ?_ | with_reducible refine aB ?_ | with_reducible refine cK ?_ | with_reducible refine dV ?_ | with_reducible refine dW ?_ | with_reducible refine dX ?_ | with_reducible refine ah ?_ | refine dK (EY _ _ (hs.2 k (by omega))) (fun r hr => ?_))
  all_goals grind [Nxt,xx,bI]
 unfold eF;refine dK h1 (fun r hr => ?_)
 repeat' (first | contradiction | with_reducible refine aA (fun hq => ?_) (fun hq => ?_) | with_reducible refine ak (by first | omega | grind [bI]) ?_ | with_reducible refine aB ?_ | with_reducible refine cK ?_ | with_reducible refine dV ?_ | with_reducible refine dW ?_ | with_reducible refine dX ?_ | with_reducible refine ah ?_)
 grind
def Cf (e:Event):Prop:=0≤e.Kind∧e.Kind≤3∧e.Calls.length≤16∧xx e.Calls (fun c=>vG c e.Kind)
theorem EZ {e:Event} (hs:Small e.Calls):Tri (iG [e]) (fun r=>(r=0↔Cf e)∧(r=0∨r=1)):=by
 unfold iG;refine aA (fun h => ?_) (fun h => ?_)
 ·simp at h
 ·refine qm 1 (fun j=>Cf e) ?_;intro k hk hJ;unfold xP qF
  dsimp only
  have hi:k=0→idx [e] (k:Int)=e:=by rintro rfl; rfl
  simp only [cond_true,cond_false]
  have hc:=fun h:k=0=>QB (l:=e.Calls) (e:=e) hs
  by_cases h0:k=0
  ·rw [hi h0]
   repeat' (first | contradiction | with_reducible refine aA (fun hq => ?_) (fun hq => ?_) | with_reducible refine ak (by first | omega | grind [bI]) ?_ | with_reducible refine aB ?_ | with_reducible refine cK ?_ | with_reducible refine dV ?_ | with_reducible refine dW ?_ | with_reducible refine dX ?_ | with_reducible refine ah ?_ | refine dK (hc h0) (fun r hr => ?_))
   all_goals grind [Nxt,Cf,bI]
  ·repeat' (first | contradiction | with_reducible refine aA (fun hq => ?_) (fun hq => ?_) | with_reducible refine ak (by first | omega | grind [bI]) ?_ | with_reducible refine aB ?_ | with_reducible refine cK ?_ | with_reducible refine dV ?_ | with_reducible refine dW ?_ | with_reducible refine dX ?_ | with_reducible refine ah ?_ | refine dK (hc (by grind)) (fun r hr => ?_))
   all_goals grind [Nxt,Cf,bI]
theorem FU {e:Event} (hs:Small e.Calls):Tri (eG e) (fun r=>r=true↔Cf e):=by
 unfold eG lJ
 simp only [cond_true,cond_false]
 have hl:=hs.1;have h1:Tri (iter (pI e) 0) (fun r=>r=true↔xx e.Calls (fun c=>vG c e.Kind)):=by
  refine qm e.Calls.length (fun j=>vG (idx e.Calls (j:Int)) e.Kind) ?_;intro k hk hJ;unfold pI
  dsimp only
  repeat' (first | contradiction | with_reducible refine aA (fun hq => ?_) (fun hq => ?_) | with_reducible refine ak (by first | omega | grind [bI]) ?_ | with_reducible refine aB ?_ | with_reducible refine cK ?_ | with_reducible refine dV ?_ | with_reducible refine dW ?_ | with_reducible refine dX ?_ | with_reducible refine ah ?_ | refine dK (Hu _ _ (hs.2 k (by omega))) (fun r hr => ?_))
  all_goals grind [Nxt,xx,bI]
 repeat' (first | contradiction | with_reducible refine aA (fun hq => ?_) (fun hq => ?_) | with_reducible refine ak (by first | omega | grind [bI]) ?_ | with_reducible refine aB ?_ | with_reducible refine cK ?_ | with_reducible refine dV ?_ | with_reducible refine dW ?_ | with_reducible refine dX ?_ | with_reducible refine ah ?_ | refine gJ h1 (fun r hr => ?_))
 all_goals grind [Cf]
theorem Fa {e:Event} (hs:Small e.Calls):Tri (jH [e]) (fun r=>(r=0↔Cf e)∧(r=0∨r=1)):=by
 unfold jH;refine aA (fun h => ?_) (fun h => ?_)
 ·simp at h
 ·refine qm 1 (fun j=>Cf e) ?_;intro k hk hJ;unfold uS
  dsimp only
  have hi:k=0→idx [e] (k:Int)=e:=by rintro rfl; rfl
  have hc:k=0→Tri (eG (idx [e] (k:Int))) (fun r=>r=true↔Cf e):=fun h0=>by rw [hi h0]; exact FU hs
  repeat' (first | contradiction | with_reducible refine aA (fun hq => ?_) (fun hq => ?_) | with_reducible refine ak (by first | omega | grind [bI]) ?_ | with_reducible refine aB ?_ | with_reducible refine cK ?_ | with_reducible refine dV ?_ | with_reducible refine dW ?_ | with_reducible refine dX ?_ | with_reducible refine ah ?_ | refine dK (hc (by grind)) (fun r hr => ?_))
  all_goals grind [Nxt,bI]
def yf (h:History) (o:Op):Call:=⟨o.Kind,idx h.Keys o.Key,o.Arg,o.Got,o.Vals⟩
def eu (h:History) (t:Txn):List Call:=t.Ops.map (yf h)
def BC (h:History) (t:Txn):Event:=⟨0,t.Status,eu h t⟩
def zb (h:History) (t:Txn):Prop:=xx t.Ops (fun o=>0≤o.Key∧o.Key < (h.Keys.length:Int))
def FV (t:Txn):Prop:=t.Ops.length * 56≤140737488351232∧xx t.Ops (fun o=>o.Vals.length * 8≤140737488351232)
theorem FV.small {h:History} {t:Txn} (hs:FV t) (k:Nat):Small ((eu h t).take k):=by
 have h1:=hs.1;refine ⟨by simp [eu]; omega,fun j hj => ?_⟩
 have hj':j < k∧j < t.Ops.length:=by simp [eu] at hj; omega
 rw [AO hj'.1,eu,zo hj'.2]
 have:=hs.2 j hj'.2
 show (idx t.Ops (j:Int)).Vals.length < _
 omega
theorem DX {h:History} {t:Txn} (hs:FV t):Tri (fK h t) (fun r=>(r.2=true↔zb h t∧Cf (BC h t))∧(r.2=true→r.1=BC h t)):=by
 unfold fK;have hl:=hs.1;refine tF t.Ops.length (fun k l=>l=(eu h t).take k∧∀ j:Nat,j < k→0≤(idx t.Ops (j:Int)).Key∧(idx t.Ops (j:Int)).Key < (h.Keys.length:Int)) ⟨rfl,by omega⟩ ?_
 rintro k l hk ⟨rfl,hJ⟩;have hlen:((eu h t).take k).length=k:=by simp [eu]; omega
 unfold wE rV wD
 simp only [cond_true,cond_false,hlen]
 have hsm:=EZ (e:=⟨0,t.Status,(eu h t).take k⟩) (hs.small k);have hfull:k=t.Ops.length→(eu h t).take k=eu h t:=fun e=>List.take_of_length_le (by simp [eu]; omega);have hnext:k < t.Ops.length→(eu h t).take (k + 1)=(eu h t).take k++[yf h (idx t.Ops (k:Int))]:=fun hk=>by
  rw [nT (by simpa [eu] using hk),eu,zo hk]
 repeat' (first | contradiction | with_reducible refine aA (fun hq => ?_) (fun hq => ?_) | with_reducible refine ak (by first | omega | grind [bI]) ?_ | with_reducible refine aB ?_ | with_reducible refine cK ?_ | with_reducible refine dV ?_ | with_reducible refine dW ?_ | with_reducible refine dX ?_ | with_reducible refine ah ?_ | refine dK hsm (fun r hr => ?_))
 all_goals grind [Up2,zb,xx,bI,yf,BC]
def Ik (l:List Txn) (i:Nat):Prop:=∀ j:Nat,j < i → ¬ ((idx l (j:Int)).Proc=(idx l (i:Int)).Proc∧((idx l (j:Int)).To = -1∨(idx l (j:Int)).To ≥ (idx l (i:Int)).From))
def Ah (l:List Txn) (i:Nat):Prop :=
 1≤(idx l (i:Int)).Status∧(idx l (i:Int)).Status≤3∧0≤(idx l (i:Int)).From∧((idx l (i:Int)).To = -1→(idx l (i:Int)).Status=3) ∧
  ((idx l (i:Int)).To ≠ -1→(idx l (i:Int)).From < (idx l (i:Int)).To)∧(0 < i→(idx l ((i - 1:Nat):Int)).From < (idx l (i:Int)).From)∧Ik l i
theorem OP {l:List Txn} {i:Nat} (hi:i < l.length) (hl:l.length < 2 ^ 61):Tri (eB (kP l 0 (i:Int)) (idx l (i:Int))) (fun r=>r=true ↔ ¬ Ik l i):=by
 have h1:Tri (bS (kP l 0 (i:Int)) (idx l (i:Int))) (fun r=>0≤r ↔ ¬ Ik l i):=by
  rw [pU (by omega)]
  unfold bS;have ht:(l.take i).length=i:=by simp; omega
  refine qm i (fun j => ¬ ((idx l (j:Int)).Proc=(idx l (i:Int)).Proc∧((idx l (j:Int)).To = -1∨(idx l (j:Int)).To ≥ (idx l (i:Int)).From))) ?_;intro k hk hJ;unfold gP rW
  dsimp only
  rw [ht]
  have hx:k < i→idx (l.take i) (k:Int)=idx l (k:Int):=fun h=>AO h
  repeat' (first | contradiction | with_reducible refine aA (fun hq => ?_) (fun hq => ?_) | with_reducible refine ak (by first | omega | grind [bI]) ?_ | with_reducible refine aB ?_ | with_reducible refine cK ?_ | with_reducible refine dV ?_ | with_reducible refine dW ?_ | with_reducible refine dX ?_ | with_reducible refine ah ?_)
  all_goals grind [Nxt,Ik,bI]
 unfold eB;refine dK h1 (fun r hr => ?_)
 repeat' (first | contradiction | with_reducible refine aA (fun hq => ?_) (fun hq => ?_) | with_reducible refine ak (by first | omega | grind [bI]) ?_ | with_reducible refine aB ?_ | with_reducible refine cK ?_ | with_reducible refine dV ?_ | with_reducible refine dW ?_ | with_reducible refine dX ?_ | with_reducible refine ah ?_)
 grind
theorem CQ {l:List Txn} {i:Nat} (hi:i < l.length) (hl:l.length < 2 ^ 61):Tri (dF (kP l 0 (i:Int)) (idx l (i:Int))) (fun r=>r=true↔Ah l i):=by
 have hf:=OP hi hl;have hlen:(kP l 0 (i:Int)).length=i:=by rw [pU (by omega)]; simp; omega
 have hx:0 < i→idx (kP l 0 (i:Int)) (w64 ((i:Int) - 1))=idx l ((i - 1:Nat):Int):=fun h=>by
  rw [nO (by omega) (by omega),pU (by omega),AO (by omega)]
 have hw:0 < i→w64 ((i:Int) - 1)=((i - 1:Nat):Int):=fun h=>nO (by omega) (by omega);unfold dF qW qV qU nJ Ah
 simp only [cond_true,cond_false,hlen]
 repeat' (first | contradiction | with_reducible refine aA (fun hq => ?_) (fun hq => ?_) | with_reducible refine ak (by first | omega | grind [bI]) ?_ | with_reducible refine aB ?_ | with_reducible refine cK ?_ | with_reducible refine dV ?_ | with_reducible refine dW ?_ | with_reducible refine dX ?_ | with_reducible refine ah ?_ | refine dK hf (fun r hr => ?_))
 all_goals grind
theorem zF {l:List Txn} {i:Nat} (hi:i < l.length) (hl:l.length < 2 ^ 61):Tri (aX l (i:Int)) (fun r=>r=true↔Ah l i):=by
 have h1:Tri (iter (nW l (i:Int)) 0) (fun r=>r=true↔Ik l i):=by
  refine qm i (fun j => ¬ ((idx l (j:Int)).Proc=(idx l (i:Int)).Proc∧((idx l (j:Int)).To = -1∨(idx l (j:Int)).To ≥ (idx l (i:Int)).From))) ?_;intro k hk hJ;unfold nW kI
  simp only [cond_true,cond_false]
  repeat' (first | contradiction | with_reducible refine aA (fun hq => ?_) (fun hq => ?_) | with_reducible refine ak (by first | omega | grind [bI]) ?_ | with_reducible refine aB ?_ | with_reducible refine cK ?_ | with_reducible refine dV ?_ | with_reducible refine dW ?_ | with_reducible refine dX ?_ | with_reducible refine ah ?_)
  all_goals grind [Nxt,Ik,bI]
 have hw:0 < i→w64 ((i:Int) - 1)=((i - 1:Nat):Int):=fun h=>nO (by omega) (by omega);unfold aX eZ nX Ah
 simp only [cond_true,cond_false]
 repeat' (first | contradiction | with_reducible refine aA (fun hq => ?_) (fun hq => ?_) | with_reducible refine ak (by first | omega | grind [bI]) ?_ | with_reducible refine aB ?_ | with_reducible refine cK ?_ | with_reducible refine dV ?_ | with_reducible refine dW ?_ | with_reducible refine dX ?_ | with_reducible refine ah ?_ | refine gJ h1 (fun r hr => ?_))
 all_goals grind
def NC (l:List ByteArray) (s:ByteArray) (r:Int):Prop :=
 (r = -1∧∀ j:Nat,j < l.length→idx l (j:Int)≠s)∨(∃ k:Nat,r=(k:Int)∧k < l.length∧idx l (k:Int)=s∧∀ j:Nat,j < k→idx l (j:Int)≠s)
theorem DY {l:List ByteArray} {s:ByteArray} (hl:l.length < 2 ^ 61):Tri (iJ l s) (NC l s):=by
 unfold iJ;refine qm l.length (fun j=>idx l (j:Int)≠s) ?_;intro k hk hJ;unfold vJ
 dsimp only
 repeat' (first | contradiction | with_reducible refine aA (fun hq => ?_) (fun hq => ?_) | with_reducible refine ak (by first | omega | grind [bI]) ?_ | with_reducible refine aB ?_ | with_reducible refine cK ?_ | with_reducible refine dV ?_ | with_reducible refine dW ?_ | with_reducible refine dX ?_ | with_reducible refine ah ?_)
 ·exact .inr ⟨k,rfl,by omega,by assumption,hJ⟩
 ·grind [Nxt,bI]
 ·exact .inl ⟨rfl,fun j hj=>hJ j (by omega)⟩
def Cg (l:List ByteArray) (i:Nat):Prop:=1≤(idx l (i:Int)).size∧(idx l (i:Int)).size≤32∧∀ j:Nat,j < i→idx l (j:Int)≠idx l (i:Int)
def sZ (l:List ByteArray):Prop:=l.length≤32∧∀ i:Nat,i < l.length→Cg l i
theorem Hw {l:List ByteArray} {s:ByteArray} (hl:l.length < 2 ^ 61):Tri (slices_Contains_string l s) (fun r=>r=true↔∃ j:Nat,j < l.length∧idx l (j:Int)=s):=by
 have h1:Tri (slices_Index_string l s) (fun r=>0≤r↔∃ j:Nat,j < l.length∧idx l (j:Int)=s):=by
  unfold slices_Index_string;refine qm l.length (fun j=>idx l (j:Int)≠s) ?_;intro k hk hJ;unfold ng
  dsimp only
  repeat' (first | contradiction | with_reducible refine aA (fun hq => ?_) (fun hq => ?_) | with_reducible refine ak (by first | omega | grind [bI]) ?_ | with_reducible refine aB ?_ | with_reducible refine cK ?_ | with_reducible refine dV ?_ | with_reducible refine dW ?_ | with_reducible refine dX ?_ | with_reducible refine ah ?_)
  all_goals grind [Nxt,bI]
 unfold slices_Contains_string;refine dK h1 (fun r hr => ?_)
 repeat' (first | contradiction | with_reducible refine aA (fun hq => ?_) (fun hq => ?_) | with_reducible refine ak (by first | omega | grind [bI]) ?_ | with_reducible refine aB ?_ | with_reducible refine cK ?_ | with_reducible refine dV ?_ | with_reducible refine dW ?_ | with_reducible refine dX ?_ | with_reducible refine ah ?_)
 grind
theorem FW {l:List ByteArray} (hl:l.length < 2 ^ 61):Tri (fF l) (fun r=>r=true↔sZ l):=by
 unfold fF;refine qm l.length (Cg l) ?_;intro k hk hJ;unfold uR lI
 simp only [cond_true,cond_false]
 have hf:Tri (iJ (kP l 0 (k:Int)) (idx l (k:Int))) (fun r=>0≤r↔∃ j:Nat,j < k∧idx l (j:Int)=idx l (k:Int)):=by
  rw [pU (by omega)]
  refine gJ (DY (by simp; omega)) (fun r hr => ?_);have ht:(l.take k).length=k:=by simp; omega
  have hx:∀ j:Nat,j < k→idx (l.take k) (j:Int)=idx l (j:Int):=fun j h=>AO h;unfold NC at hr
  rw [ht] at hr
  grind
 have hN:sZ l→k < l.length→Cg l k:=fun h hk=>h.2 k hk
 repeat' (first | contradiction | with_reducible refine aA (fun hq => ?_) (fun hq => ?_) | with_reducible refine ak (by first | omega | grind [bI]) ?_ | with_reducible refine aB ?_ | with_reducible refine cK ?_ | with_reducible refine dV ?_ | with_reducible refine dW ?_ | with_reducible refine dX ?_ | with_reducible refine ah ?_ | refine dK hf (fun r hr => ?_))
 all_goals (have hNk:Cg l k↔(1≤(idx l (k:Int)).size∧(idx l (k:Int)).size≤32∧∀ j:Nat,j < k→idx l (j:Int)≠idx l (k:Int)):=Iff.rfl)
 all_goals grind [Nxt,sZ,bI]
end Go.Proofs.YtfpeabnehpclnaaGreatT
namespace Go.Proofs.YtfpeabnehpclnaaGreatT
open Go Go.Proofs Go.Proofs.YtfpeabnehpclnaaGreatE
set_option linter.unusedVariables false
set_option linter.unusedSimpArgs false
def typ (k:Int):Int:=(k - 1) % 4 + 1
theorem Ai {k:Int} (h1:1≤k) (h2:k≤8):pW k=some (typ k):=by
 have:k=1∨k=2∨k=3∨k=4∨k=5∨k=6∨k=7∨k=8:=by omega
 rcases this with h | h | h | h | h | h | h | h <;> subst h <;> decide
theorem Fw {k:Int} (h1:1≤k) (h2:k≤8):sO k=some (typ k):=by
 have:k=1∨k=2∨k=3∨k=4∨k=5∨k=6∨k=7∨k=8:=by omega
 rcases this with h | h | h | h | h | h | h | h <;> subst h <;> decide
structure Sim (g:bM) (b:aQ) (n:Nat):Prop where
 keys:g.keys=b.keys
 types:g.types=b.types
 len:b.keys.length≤32
 tl:b.types.length=b.keys.length
 wl:b.wrote.length=b.keys.length
 il:b.incs.length=b.keys.length
 ll:b.last_.length=b.keys.length
 nd:∀ i j:Nat,i < b.keys.length→j < b.keys.length→idx b.keys (i:Int)=idx b.keys (j:Int)→i=j
 has:∀ s,gL g.at_ s=true↔∃ j:Nat,j < b.keys.length∧idx b.keys (j:Int)=s
 at_:∀ j:Nat,j < b.keys.length→mat g.at_ (idx b.keys (j:Int))=(j:Int)
 facts:∀ j:Nat,j < b.keys.length→∀ a,gL g.facts ⟨idx b.keys (j:Int),a⟩=true↔∃ m:Nat,m < (idx b.wrote (j:Int)).length∧idx (idx b.wrote (j:Int)) (m:Int)=a
 fout:∀ s a,gL g.facts ⟨s,a⟩=true→∃ j:Nat,j < b.keys.length∧idx b.keys (j:Int)=s
 wn:∀ j:Nat,j < b.keys.length→(idx b.wrote (j:Int)).length≤n
 incs:∀ j:Nat,j < b.keys.length→((mat g.incs (idx b.keys (j:Int))).length:Int)=idx b.incs (j:Int)
 i8:∀ j:Nat,j < b.keys.length→(mat g.incs (idx b.keys (j:Int))).length≤8
 iout:∀ s,(∀ j:Nat,j < b.keys.length→idx b.keys (j:Int)≠s)→mat g.incs s=[]
 last:∀ j:Nat,j < b.keys.length→((mat g.incs (idx b.keys (j:Int))).length=0→idx b.last_ (j:Int) = -1) ∧
  (0 < (mat g.incs (idx b.keys (j:Int))).length→idx b.last_ (j:Int)=idx (mat g.incs (idx b.keys (j:Int))) (((mat g.incs (idx b.keys (j:Int))).length - 1:Nat):Int))
theorem Sim.start:Sim ⟨[],[],[],[],[]⟩ ⟨[],[],[],[],[]⟩ 0:=by
 refine ⟨rfl,rfl,by simp,rfl,rfl,rfl,rfl,?_,?_,?_,?_,?_,?_,?_,?_,?_,?_⟩
 all_goals simp [GM,Tz]
 rfl
theorem Sim.mono {g:bM} {b:aQ} {n m:Nat} (h:Sim g b n) (hm:n≤m):Sim g b m :=
 { h with wn:=fun j hj=>Nat.le_trans (h.wn j hj) hm }
theorem Sim.new {g:bM} {b:aQ} {n:Nat} (h:Sim g b n) {s:ByteArray} {t:Int} (hn:∀ j:Nat,j < b.keys.length→idx b.keys (j:Int)≠s) (a2:b.keys.length < 32) :
  Sim ⟨g.keys++[s],fJ g.at_ s (g.keys.length:Int),g.types++[t],g.facts,g.incs⟩ ⟨b.keys++[s],b.types++[t],b.wrote++[[]],b.incs++[0],b.last_++[-1]⟩ n:=by
 have hk:=h.keys;have hl:(b.keys++[s]).length=b.keys.length + 1:=by simp
 have k1:∀ j:Nat,j < b.keys.length→idx (b.keys++[s]) (j:Int)=idx b.keys (j:Int):=fun j hj=>lV hj;have k2:idx (b.keys++[s]) ((b.keys.length:Nat):Int)=s:=kM rfl;have w1:∀ j:Nat,j < b.keys.length→idx (b.wrote++[[]]) (j:Int)=idx b.wrote (j:Int):=fun j hj=>lV (by rw [h.wl]; exact hj);have w2:idx (b.wrote++[[]]) ((b.keys.length:Nat):Int)=[]:=kM h.wl.symm;have i1:∀ j:Nat,j < b.keys.length→idx (b.incs++[0]) (j:Int)=idx b.incs (j:Int):=fun j hj=>lV (by rw [h.il]; exact hj);have i2:idx (b.incs++[0]) ((b.keys.length:Nat):Int)=0:=kM h.il.symm;have l1:∀ j:Nat,j < b.keys.length→idx (b.last_++[-1]) (j:Int)=idx b.last_ (j:Int):=fun j hj=>lV (by rw [h.ll]; exact hj);have l2:idx (b.last_++[-1]) ((b.keys.length:Nat):Int) = -1:=kM h.ll.symm;have a1:=h.iout s hn;have cut:∀ j:Nat,j < b.keys.length + 1→j < b.keys.length∨j=b.keys.length:=by omega
 refine ⟨by simp [hk],by simp [h.types],by simp; omega,by simp [h.tl],by simp [h.wl],by simp [h.il],by simp [h.ll],?_,?_,?_,?_,?_,?_,?_,?_,?_,?_⟩
 ·intro i j hi hj he
  dsimp only at hi hj he
  rw [hl] at hi hj
  have:=h.nd i j;rcases cut i hi with hi' | hi' <;> rcases cut j hj with hj' | hj' <;> grind
 ·intro x
  dsimp only
  rw [mX,hl,h.has]
  constructor
  ·rintro (rfl | ⟨j,hj,he⟩)
   ·exact ⟨_,Nat.lt_succ_self _,k2⟩
   ·exact ⟨j,by omega,(k1 j hj).trans he⟩
  ·rintro ⟨j,hj,he⟩;rcases cut j hj with hj' | hj'
   ·exact .inr ⟨j,hj',(k1 j hj') ▸ he⟩
   ·subst hj'; exact .inl (k2.symm.trans he).symm
 ·intro j hj
  dsimp only at hj ⊢
  rw [hl] at hj
  rw [qY,hk]
  rcases cut j hj with hj' | hj'
  ·rw [k1 j hj',if_neg (hn j hj')]; exact h.at_ j hj'
  ·subst hj'; rw [k2,if_pos rfl]
 ·intro j hj a
  dsimp only at hj ⊢
  rw [hl] at hj
  rcases cut j hj with hj' | hj'
  ·rw [k1 j hj',w1 j hj']; exact h.facts j hj' a
  ·subst hj'
   rw [k2,w2]
   constructor
   ·intro hh;obtain ⟨i,hi,he⟩:=h.fout s a hh;exact absurd he (hn i hi)
   ·rintro ⟨m,hm,_⟩; simp at hm
 ·intro x a hh;obtain ⟨i,hi,he⟩:=h.fout x a hh;exact ⟨i,by simp; omega,(k1 i hi).trans he⟩
 ·intro j hj
  dsimp only at hj ⊢
  rw [hl] at hj
  rcases cut j hj with hj' | hj'
  ·rw [w1 j hj']; exact h.wn j hj'
  ·subst hj'; rw [w2]; simp
 ·intro j hj
  dsimp only at hj ⊢
  rw [hl] at hj
  rcases cut j hj with hj' | hj'
  ·rw [k1 j hj',i1 j hj']; exact h.incs j hj'
  ·subst hj'; rw [k2,i2,a1]; rfl
 ·intro j hj
  dsimp only at hj ⊢
  rw [hl] at hj
  rcases cut j hj with hj' | hj'
  ·rw [k1 j hj']; exact h.i8 j hj'
  ·subst hj'; rw [k2,a1]; simp
 ·intro x hx
  dsimp only at hx ⊢
  rw [hl] at hx
  exact h.iout x (fun j hj=>by rw [← k1 j hj]; exact hx j (by omega))
 ·intro j hj
  dsimp only at hj ⊢
  rw [hl] at hj
  rcases cut j hj with hj' | hj'
  ·rw [k1 j hj',l1 j hj']; exact h.last j hj'
  ·subst hj'; rw [k2,l2,a1]; simp
theorem Sim.write {g:bM} {b:aQ} {n k:Nat} (h:Sim g b n) {s:ByteArray} {a:Int} (hk:k < b.keys.length) (hs:idx b.keys (k:Int)=s) :
  Sim ⟨g.keys,g.at_,g.types,fJ g.facts ⟨s,a⟩ (),g.incs⟩ ⟨b.keys,b.types,b.wrote.set k (idx b.wrote (k:Int)++[a]),b.incs,b.last_⟩ (n + 1):=by
 have w1:∀ j:Nat,idx (b.wrote.set k (idx b.wrote (k:Int)++[a])) (j:Int)=if j=k then idx b.wrote (k:Int)++[a] else idx b.wrote (j:Int):=fun j=>vo (by rw [h.wl]; exact hk);refine ⟨h.keys,h.types,h.len,h.tl,by simp [h.wl],h.il,h.ll,h.nd,h.has,h.at_,?_,?_,?_,h.incs,h.i8,h.iout,h.last⟩
 ·intro j hj x
  dsimp only at hj ⊢
  rw [mX,w1 j,h.facts j hj]
  by_cases e:j=k
  ·subst e
   rw [if_pos rfl,hs]
   constructor
   ·rintro (he | ⟨m,hm,he⟩)
    ·have:x=a:=by injection he
     subst this;exact ⟨_,by simp,kM rfl⟩
    ·exact ⟨m,by simp; omega,(lV hm).trans he⟩
   ·rintro ⟨m,hm,he⟩;rcases Nat.lt_or_ge m (idx b.wrote (j:Int)).length with h1 | h1
    ·exact .inr ⟨m,h1,(lV h1).symm.trans he⟩
    ·simp at hm
     rw [kM (by omega)] at he
     rw [he]; exact .inl rfl
  ·rw [if_neg e]
   constructor
   ·rintro (he | hh)
    ·injection he with h1 h2
     exact absurd (h.nd j k hj hk (h1.trans hs.symm)) e
    ·exact hh
   ·exact .inr
 ·intro x y hh
  dsimp only at hh ⊢
  rcases mX.1 hh with he | hh
  ·injection he with h1 h2
   exact ⟨k,hk,hs.trans h1.symm⟩
  ·exact h.fout x y hh
 ·intro j hj
  dsimp only at hj ⊢
  rw [w1 j]
  have:=h.wn j hj
  split
  ·rename_i e; subst e; simp; omega
  ·omega
theorem Sim.inc {g:bM} {b:aQ} {n k:Nat} (h:Sim g b n) {s:ByteArray} {a:Int} (hk:k < b.keys.length) (hs:idx b.keys (k:Int)=s) (h8:(mat g.incs s).length < 8) :
  Sim ⟨g.keys,g.at_,g.types,g.facts,fJ g.incs s (mat g.incs s++[a])⟩ ⟨b.keys,b.types,b.wrote,b.incs.set k (idx b.incs (k:Int) + 1),b.last_.set k a⟩ n:=by
 have i1:∀ j:Nat,idx (b.incs.set k (idx b.incs (k:Int) + 1)) (j:Int)=if j=k then idx b.incs (k:Int) + 1 else idx b.incs (j:Int):=fun j=>vo (by rw [h.il]; exact hk);have l1:∀ j:Nat,idx (b.last_.set k a) (j:Int)=if j=k then a else idx b.last_ (j:Int):=fun j=>vo (by rw [h.ll]; exact hk);have hne:∀ j:Nat,j < b.keys.length→j≠k→idx b.keys (j:Int)≠s:=fun j hj e he=>e (h.nd j k hj hk (he.trans hs.symm));refine ⟨h.keys,h.types,h.len,h.tl,h.wl,by simp [h.il],by simp [h.ll],h.nd,h.has,h.at_,h.facts,h.fout,h.wn,?_,?_,?_,?_⟩
 ·intro j hj
  dsimp only at hj ⊢
  rw [qY,i1 j]
  by_cases e:j=k
  ·subst e
   rw [if_pos hs,if_pos rfl,← h.incs j hj,hs]; simp
  ·rw [if_neg (hne j hj e),if_neg e]; exact h.incs j hj
 ·intro j hj
  dsimp only at hj ⊢
  rw [qY]
  by_cases e:j=k
  ·subst e
   rw [if_pos hs]; simp; omega
  ·rw [if_neg (hne j hj e)]; exact h.i8 j hj
 ·intro x hx
  dsimp only at hx ⊢
  rw [qY,if_neg (fun e=>hx k hk (hs.trans e.symm))]
  exact h.iout x hx
 ·intro j hj
  dsimp only at hj ⊢
  rw [qY,l1 j]
  by_cases e:j=k
  ·subst e
   rw [if_pos hs,if_pos rfl]
   refine ⟨fun h0=>by simp at h0,fun _ => ?_⟩
   rw [kM (by simp)]
  ·rw [if_neg (hne j hj e),if_neg e]; exact h.last j hj
theorem Mj {c:Call} {who:Int} {a3:List ByteArray} {a5:List Int} {a1:List (List Int)} {a4 a2:List Int} {k:Nat} {Q:Int×aQ→Prop} (hk:k < a1.length) (hb:(idx a1 (k:Int)).length≤4096)
  (h1:(∃ m:Nat,m < (idx a1 (k:Int)).length∧idx (idx a1 (k:Int)) (m:Int)=c.Arg)→Q (3,⟨a3,a5,a1,a4,a2⟩))
  (h2:(¬ ∃ m:Nat,m < (idx a1 (k:Int)).length∧idx (idx a1 (k:Int)) (m:Int)=c.Arg)→Tri (gZ c who a3 a5 a4 a2 (k:Int) (a1.set k (idx a1 (k:Int)++[c.Arg]))) Q) :
  Tri (iter (kR c who a3 a5 a1 a4 a2 (k:Int)) 0) Q:=by
 refine qm (idx a1 (k:Int)).length (fun m=>idx (idx a1 (k:Int)) (m:Int)≠c.Arg) ?_;intro m hm hJ;unfold kR
 dsimp only
 rw [Int.toNat_natCast]
 repeat' (first | contradiction | with_reducible refine aA (fun hq => ?_) (fun hq => ?_) | with_reducible refine ak (by first | omega | grind [bI]) ?_ | with_reducible refine aB ?_ | with_reducible refine cK ?_ | with_reducible refine dV ?_ | with_reducible refine dW ?_ | with_reducible refine dX ?_ | with_reducible refine ah ?_)
 ·exact h1 ⟨m,by omega,by assumption⟩
 ·grind [Nxt,bI]
 ·exact h2 (by grind)
def Both (r:Int×bM) (n:Nat) (r':Int×aQ):Prop:=r.1=r'.1∧(r.1=0→Sim r.2 r'.2 n)
def Ml (b:aQ) (c:Call) (who:Int) (k:Nat) (r:Int×aQ):Prop :=
 (idx b.types (k:Int)≠typ c.Kind∧r=(50,b)) ∨
 (idx b.types (k:Int)=typ c.Kind∧(c.Kind=2∨c.Kind=3)∧(∃ m:Nat,m < (idx b.wrote (k:Int)).length∧idx (idx b.wrote (k:Int)) (m:Int)=c.Arg)∧r=(3,b)) ∨
 (idx b.types (k:Int)=typ c.Kind∧(c.Kind=2∨c.Kind=3)∧(¬ ∃ m:Nat,m < (idx b.wrote (k:Int)).length∧idx (idx b.wrote (k:Int)) (m:Int)=c.Arg) ∧
  r=(0,⟨b.keys,b.types,b.wrote.set k (idx b.wrote (k:Int)++[c.Arg]),b.incs,b.last_⟩)) ∨
 (idx b.types (k:Int)=typ c.Kind∧c.Kind=4∧idx b.last_ (k:Int)≠who∧idx b.incs (k:Int) + 1 > 8∧r.1=51) ∨
 (idx b.types (k:Int)=typ c.Kind∧c.Kind=4∧idx b.last_ (k:Int)≠who∧idx b.incs (k:Int) + 1≤8 ∧
  r=(0,⟨b.keys,b.types,b.wrote,b.incs.set k (idx b.incs (k:Int) + 1),b.last_.set k who⟩)) ∨
 (idx b.types (k:Int)=typ c.Kind∧c.Kind=4∧idx b.last_ (k:Int)=who∧r=(0,b)) ∨
 (idx b.types (k:Int)=typ c.Kind∧c.Kind≠2∧c.Kind≠3∧c.Kind≠4∧r=(0,b))
theorem Jl {b:aQ} {k:Nat} {c:Call} {who:Int} (hk:k < b.keys.length) (t1:b.types.length=b.keys.length) (t2:b.wrote.length=b.keys.length) (t3:b.incs.length=b.keys.length)
  (t4:b.last_.length=b.keys.length) (hwr:(idx b.wrote (k:Int)).length≤4096) (hin:0≤idx b.incs (k:Int)∧idx b.incs (k:Int)≤8)
  (h1:1≤c.Kind) (h8:c.Kind≤8):Tri (gm c who b.keys b.types b.wrote b.incs b.last_ (k:Int)) (Ml b c who k):=by
 have e1:w64 (idx b.incs (k:Int) + 1)=idx b.incs (k:Int) + 1:=bI (by omega) (by omega);have e2:idx (b.incs.set k (idx b.incs (k:Int) + 1)) (k:Int)=idx b.incs (k:Int) + 1:=by rw [vo (by omega),if_pos rfl]
 unfold gm kS gZ ja iZ
 simp only [cond_true,cond_false,Fw h1 h8,Int.toNat_natCast,e1,e2]
 repeat' (first | contradiction | with_reducible refine aA (fun hq => ?_) (fun hq => ?_) | with_reducible refine ak (by first | omega | grind [bI]) ?_ | with_reducible refine aB ?_ | with_reducible refine cK ?_ | with_reducible refine dV ?_ | with_reducible refine dW ?_ | with_reducible refine dX ?_ | with_reducible refine ah ?_ | refine Mj (by omega) hwr (fun h => ?_) (fun h => ?_))
 all_goals try unfold gZ ja iZ
 all_goals try simp only [cond_true,cond_false,Int.toNat_natCast,e1,e2]
 repeat' (first | contradiction | with_reducible refine aA (fun hq => ?_) (fun hq => ?_) | with_reducible refine ak (by first | omega | grind [bI]) ?_ | with_reducible refine aB ?_ | with_reducible refine cK ?_ | with_reducible refine dV ?_ | with_reducible refine dW ?_ | with_reducible refine dX ?_ | with_reducible refine ah ?_)
 all_goals grind [Ml]
theorem enter_at {g:bM} {b:aQ} {n k:Nat} {a0:bM} {c:Call} {who:Int} (h:Sim g b n) (hf:a0.facts=g.facts) (hi:a0.incs=g.incs) (hk:k < b.keys.length) (hs:idx b.keys (k:Int)=c.Key)
  (h1:1≤c.Kind) (h8:c.Kind≤8) (hw:0≤who) (hn:n≤2048) :
  Tri (jc a0 c who g.keys g.at_ g.types (k:Int)) (fun r=>Tri (gm c who b.keys b.types b.wrote b.incs b.last_ (k:Int)) (Both r (n + 1))):=by
 obtain ⟨gk,ga,gt,gf,gi⟩:=g
 dsimp only at hf hi
 have htl:=h.types;have hkk:=h.keys
 dsimp only at htl hkk ⊢
 subst htl hkk;have t1:=h.tl;have t2:=h.wl;have t3:=h.il;have t4:=h.ll;have hfa:=h.facts k hk c.Arg;have hin:=h.incs k hk;have a1:=h.i8 k hk;have hla:=h.last k hk;have hwr:=h.wn k hk
 rw [hs] at hfa hin a1 hla
 dsimp only at hfa hin a1 hla
 obtain ⟨r',hr',spec⟩:=Jl (who:=who) hk t1 t2 t3 t4 (by omega) (by omega) h1 h8;have s0:=h.mono (Nat.le_succ n);have s1:=h.write (a:=c.Arg) hk hs;have s2:(mat gi c.Key).length < 8→_:=fun hl=>(h.inc (a:=who) hk hs hl).mono (Nat.le_succ n)
 dsimp only at s1 s2
 have e3:0 < (mat gi c.Key).length→w64 (((mat gi c.Key).length:Int) - 1)=(((mat gi c.Key).length - 1:Nat):Int):=fun h=>nO (by omega) (by omega);have m1:mat (fJ gi c.Key (mat gi c.Key++[who])) c.Key=mat gi c.Key++[who]:=by rw [qY,if_pos rfl]
 unfold jc kG nU kF kE jb
 simp only [cond_true,cond_false,Ai h1 h8,hf,hi,m1]
 repeat' (first | contradiction | with_reducible refine aA (fun hq => ?_) (fun hq => ?_) | with_reducible refine ak (by first | omega | grind [bI]) ?_ | with_reducible refine aB ?_ | with_reducible refine cK ?_ | with_reducible refine dV ?_ | with_reducible refine dW ?_ | with_reducible refine dX ?_ | with_reducible refine ah ?_)
 all_goals refine ⟨r',hr',?_⟩
 all_goals unfold Ml at spec
 all_goals simp only [Both]
 all_goals grind
theorem Mm {g:bM} {b:aQ} {n:Nat} {c:Call} {who:Int} (h:Sim g b n) (h1:1≤c.Kind) (h8:c.Kind≤8) (hw:0≤who) (hn:n≤2048) :
  Tri (aK g c who) (fun r=>Tri (az b c who) (Both r (n + 1))):=by
 have hl:=h.len;have t1:=h.tl;have t2:=h.wl;have t3:=h.il;have t4:=h.ll;have hk:=h.keys;have ht:=h.types;obtain ⟨r0,a3,hf⟩:=DY (l:=b.keys) (s:=c.Key) (by omega);rcases hf with ⟨rfl,hno⟩ | ⟨k,rfl,a2,a1,_⟩
 ·have hm:¬ gL g.at_ c.Key=true:=fun hh=>by
   obtain ⟨j,hj,he⟩:=(h.has c.Key).1 hh;exact hno j hj he
  unfold aK az nV
  simp only [a3,Ai h1 h8,hk,ht]
  refine aA (fun _ => ?_) (fun hh=>absurd hm hh);refine aA (fun a4 => ?_) (fun a4 => ?_)
  ·refine ah (cK ?_)
   repeat' (first | contradiction | with_reducible refine aA (fun hq => ?_) (fun hq => ?_) | with_reducible refine ak (by first | omega | grind [bI]) ?_ | with_reducible refine aB ?_ | with_reducible refine cK ?_ | with_reducible refine dV ?_ | with_reducible refine dW ?_ | with_reducible refine dX ?_ | with_reducible refine ah ?_)
   ·exact ⟨rfl,fun h=>by cases h⟩
   ·omega
  ·have hS:=h.new (s:=c.Key) (t:=typ c.Kind) hno (by omega)
   rw [hk,ht] at hS
   have he:=enter_at (a0:=g) (who:=who) hS rfl rfl (k:=b.keys.length) (by simp) (kM rfl) h1 h8 hw hn
   dsimp only at he
   refine ak (by omega) (cK (ak (by omega) ?_));refine gJ he (fun r hr => ?_);unfold kU kT
   simp only [Fw h1 h8]
   repeat' (first | contradiction | with_reducible refine aA (fun hq => ?_) (fun hq => ?_) | with_reducible refine ak (by first | omega | grind [bI]) ?_ | with_reducible refine aB ?_ | with_reducible refine cK ?_ | with_reducible refine dV ?_ | with_reducible refine dW ?_ | with_reducible refine dX ?_ | with_reducible refine ah ?_ | exact hr)
   omega
 ·have hm:gL g.at_ c.Key=true:=(h.has c.Key).2 ⟨k,a2,a1⟩;have hat:mat g.at_ c.Key=(k:Int):=by rw [← a1]; exact h.at_ k a2
  have he:=enter_at (a0:=g) (who:=who) h rfl rfl a2 a1 h1 h8 hw hn;unfold aK az
  simp only [a3,hat]
  refine aA (fun hh=>absurd hm hh) (fun _ => ?_);refine gJ he (fun r hr=>cK ?_)
  repeat' (first | contradiction | with_reducible refine aA (fun hq => ?_) (fun hq => ?_) | with_reducible refine ak (by first | omega | grind [bI]) ?_ | with_reducible refine aB ?_ | with_reducible refine cK ?_ | with_reducible refine dV ?_ | with_reducible refine dW ?_ | with_reducible refine dX ?_ | with_reducible refine ah ?_ | exact hr)
abbrev GS:=List ByteArray×(List (ByteArray×Int))×List Int×(List (dZ×Unit))×(List (ByteArray×(List Int)))×Int
abbrev BS:=List ByteArray×List Int×(List (List Int))×List Int×List Int×Int
def Kv (g:bM) (x:Int):GS:=(g.keys,g.at_,g.types,g.facts,g.incs,x)
def CR (b:aQ) (x:Int):BS:=(b.keys,b.types,b.wrote,b.incs,b.last_,x)
def Go1 (i n:Nat):GS ⊕ (Int ⊕ Int)→(List Call×Int) ⊕ (BS ⊕ Int)→Prop
 | .inl s,.inr (.inl t)=>∃ g b,s=Kv g ((i + 1:Nat):Int)∧t=CR b ((i + 1:Nat):Int)∧Sim g b n
 | .inr (.inr a),.inr (.inr b)=>a=1∧b=1
 | _,_=>False
theorem enters {g:bM} {b:aQ} {n i:Nat} {l:List Call} {y:Event×Bool} (h:Sim g b n) (hy:y.1.Calls=l) (hl:l.length≤16) (hi:i < 64) (hn:n≤1024) (hc:xx l (fun c=>1≤c.Kind∧c.Kind≤8)) :
  Tri (iter (rX (i:Int) y) (Kv g 0)) (fun x=>Tri (iter (iK (i:Int) l) (CR b 0)) (Go1 i (n + 16) x)):=by
 refine Er l.length (fun k s t=>∃ g b,s=Kv g (k:Int)∧t=CR b (k:Int)∧Sim g b (n + k)) (Nat.zero_le _) ⟨g,b,rfl,rfl,h⟩ ?_;rintro k s t hk ⟨g,b,rfl,rfl,hS⟩;unfold rX iK Kv CR
 dsimp only
 rw [hy]
 refine aA (fun h => ?_) (fun h => ?_)
 ·refine ak (by omega) ?_;obtain ⟨r,hr,r',hr',hb⟩:=Mm (who:=(i:Int)) hS (hc k (by omega)).1 (hc k (by omega)).2 (by omega) (by omega);refine aV hr ?_;have hw:w64 ((k:Int) + 1)=((k + 1:Nat):Int):=bA (by omega)
  rw [hw]
  repeat' (first | contradiction | with_reducible refine aA (fun hq => ?_) (fun hq => ?_) | with_reducible refine ak (by first | omega | grind [bI]) ?_ | with_reducible refine aB ?_ | with_reducible refine cK ?_ | with_reducible refine dV ?_ | with_reducible refine dW ?_ | with_reducible refine dX ?_ | with_reducible refine ah ?_ | refine aV hr' ?_)
  ·exact ⟨rfl,rfl⟩
  ·exact absurd (by rw [hb.1]; omega) ‹r.1≠0›
  ·exact absurd (by rw [← hb.1]; omega) ‹r'.1≠0›
  ·exact ⟨by omega,r.2,r'.2,rfl,rfl,hb.2 (by omega)⟩
 ·have hw:w64 ((i:Int) + 1)=((i + 1:Nat):Int):=bA (by omega)
  rw [hw]
  repeat' (first | contradiction | with_reducible refine aA (fun hq => ?_) (fun hq => ?_) | with_reducible refine ak (by first | omega | grind [bI]) ?_ | with_reducible refine aB ?_ | with_reducible refine cK ?_ | with_reducible refine dV ?_ | with_reducible refine dW ?_ | with_reducible refine dX ?_ | with_reducible refine ah ?_)
  exact ⟨g,b,rfl,rfl,hS.mono (by omega)⟩
theorem Jm {h:History} {i:Nat} {b:aQ} {Q:BS ⊕ Int→Prop} (hi:i < h.Txns.length) (hs:FV (idx h.Txns (i:Int))) (a2:(idx h.Txns (i:Int)).Ops.length≤16)
  (h1:¬ (zb h (idx h.Txns (i:Int))∧Cf (BC h (idx h.Txns (i:Int))))→Q (.inr 1))
  (h2:zb h (idx h.Txns (i:Int))→Cf (BC h (idx h.Txns (i:Int)))→Tri (iter (iK (i:Int) (eu h (idx h.Txns (i:Int)))) (CR b 0)) (fun x=>match x with | .inl _=>False | .inr y=>Q y)) :
  Tri (iter (iL h b.keys b.types b.wrote b.incs b.last_ (i:Int)) ([],0)) Q:=by
 generalize ht:idx h.Txns (i:Int)=t at hs a2 h1 h2;refine tF t.Ops.length (fun k l=>l=(eu h t).take k∧∀ j:Nat,j < k→0≤(idx t.Ops (j:Int)).Key∧(idx t.Ops (j:Int)).Key < (h.Keys.length:Int)) ⟨rfl,by omega⟩ ?_
 rintro k l hk ⟨rfl,hJ⟩;have hlen:((eu h t).take k).length=k:=by simp [eu]; omega
 unfold iL pJ uT
 simp only [cond_true,cond_false,hlen,ht]
 have hsm:=Fa (e:=⟨0,t.Status,(eu h t).take k⟩) (hs.small k);have hfull:k=t.Ops.length→(eu h t).take k=eu h t:=fun e=>List.take_of_length_le (by simp [eu]; omega);have hnext:k < t.Ops.length→(eu h t).take (k + 1)=(eu h t).take k++[yf h (idx t.Ops (k:Int))]:=fun hk=>by
  rw [nT (by simpa [eu] using hk),eu,zo hk]
 have hw:w64 ((k:Int) + 1)=((k + 1:Nat):Int):=bA (by omega)
 rw [hw]
 repeat' (first | contradiction | with_reducible refine aA (fun hq => ?_) (fun hq => ?_) | with_reducible refine ak (by first | omega | grind [bI]) ?_ | with_reducible refine aB ?_ | with_reducible refine cK ?_ | with_reducible refine dV ?_ | with_reducible refine dW ?_ | with_reducible refine dX ?_ | with_reducible refine ah ?_ | refine dK hsm (fun r hr => ?_))
 ·grind [Up2,zb,xx]
 ·grind [Up2,zb,xx]
 ·grind [Up2,yf]
 ·have a1:k=t.Ops.length:=by omega
  rw [hfull a1] at hr
  refine h1 (fun hh => ?_);have:=hr.1.2 hh.2
  contradiction
 ·have a1:k=t.Ops.length:=by omega
  rw [hfull a1] at hr ⊢
  have hK:zb _ t:=fun j hj=>hJ j (by omega);refine gJ (h2 hK (hr.1.1 (by omega))) ?_;rintro (x | y) hxy
  ·exact hxy.elim
  ·exact hxy
def CS (h:History) (i:Nat):Prop:=Ah h.Txns i∧zb h (idx h.Txns (i:Int))∧Cf (BC h (idx h.Txns (i:Int)))
def oq (h:History):Prop:=h.Keys.length * 16≤140737488351232∧h.Txns.length * 56≤140737488351232∧xx h.Txns FV
theorem OQ {h:History} (hs:oq h) (hN:sZ h.Keys) (a8:h.Txns.length≤32) :
  Tri (iter (oV h) (Kv ⟨[],[],[],[],[]⟩ 0)) (fun x=>Tri (iter (lL h) (CR ⟨[],[],[],[],[]⟩ 0)) (fun y=>(∃ v,x = .inr v∧v=y)∧(y=0∨y=1))):=by
 obtain ⟨b0,a9,a2⟩:=hs;refine Er h.Txns.length (fun k s t=>∃ g b,s=Kv g (k:Int)∧t=CR b (k:Int)∧Sim g b (k * 16)∧∀ j:Nat,j < k→CS h j) (Nat.zero_le _) ⟨_,_,rfl,rfl,Sim.start,fun j hj=>absurd hj (Nat.not_lt_zero _)⟩ ?_;rintro k s t hk ⟨g,b,rfl,rfl,hS,hJ⟩;unfold oV rY lL lK Kv CR
 simp only [cond_true,cond_false]
 refine aA (fun a6 => ?_) (fun a6 => ?_)
 ·have a1:k < h.Txns.length:=by omega
  obtain ⟨r,hr,a3,a7⟩:=DX (h:=h) (a2 k a1);obtain ⟨p,hp,a4⟩:=CQ (l:=h.Txns) a1 (by omega);obtain ⟨p',hp',hp1'⟩:=zF (l:=h.Txns) a1 (by omega);have hco:Cf (BC h (idx h.Txns (k:Int)))→(idx h.Txns (k:Int)).Ops.length≤16:=fun he=>by
   have:=he.2.2.1
   simpa [BC,eu] using this
  refine ak (by omega) (aV hr ?_)
  by_cases hok:CS h k
  ·have e1:r.2=true:=a3.2 ⟨hok.2.1,hok.2.2⟩;have e2:p=true:=a4.2 hok.1;have e3:p'=true:=hp1'.2 hok.1;have hc:xx (eu h (idx h.Txns (k:Int))) (fun c=>1≤c.Kind∧c.Kind≤8):=fun j hj=>⟨(hok.2.2.2.2.2 j hj).1,(hok.2.2.2.2.2 j hj).2.1⟩;obtain ⟨x,hx,y,hy,hxy⟩:=enters (y:=r) (i:=k) hS (congrArg Event.Calls (a7 e1)) hok.2.2.2.2.1 (by omega) (by omega) hc;refine aA (fun h=>absurd e1 h) (fun _ => ?_);refine ak (by omega) (aV hp ?_);refine aA (fun h=>absurd e2 h) (fun _ => ?_);refine ⟨x,hx,?_⟩
   repeat' (first | contradiction | with_reducible refine aA (fun hq => ?_) (fun hq => ?_) | with_reducible refine ak (by first | omega | grind [bI]) ?_ | with_reducible refine aB ?_ | with_reducible refine cK ?_ | with_reducible refine dV ?_ | with_reducible refine dW ?_ | with_reducible refine dX ?_ | with_reducible refine ah ?_ | refine aV hp' ?_)
   ·exact absurd (hco hok.2.2) (by omega)
   ·refine Jm a1 (a2 k a1) (hco hok.2.2) (fun hn=>absurd ⟨hok.2.1,hok.2.2⟩ hn) (fun _ _=>⟨y,hy,?_⟩);rcases x with s | a | a <;> rcases y with t | t | t
    ·exact hxy.elim
    ·obtain ⟨g',b',rfl,rfl,hS'⟩:=hxy;refine ⟨by omega,g',b',rfl,rfl,(show k * 16 + 16=(k + 1) * 16 by omega) ▸ hS',fun j hj => ?_⟩
     rcases Nat.lt_or_ge j k with h1 | h1
     ·exact hJ j h1
     ·rw [show j=k by omega]; exact hok
    ·exact hxy.elim
    ·exact hxy.elim
    ·exact hxy.elim
    ·exact hxy.elim
    ·exact hxy.elim
    ·exact hxy.elim
    ·obtain ⟨rfl,rfl⟩:=hxy;exact ⟨⟨1,rfl,rfl⟩,.inr rfl⟩
  ·have h1:Tri (iter (iL h b.keys b.types b.wrote b.incs b.last_ (k:Int)) ([],0)) (fun y=>p'=true→(idx h.Txns (k:Int)).Ops.length≤16→y = .inr 1) ∨ ¬ ((idx h.Txns (k:Int)).Ops.length≤16) ∨ ¬ p'=true:=by
    by_cases a5:(idx h.Txns (k:Int)).Ops.length≤16
    ·by_cases h3:p'=true
     ·refine .inl (Jm a1 (a2 k a1) a5 (fun _ _ _=>rfl) (fun q1 q2=>absurd ⟨hp1'.1 h3,q1,q2⟩ hok))
     ·exact .inr (.inr h3)
    ·exact .inr (.inl a5)
   have hend:Tri (aX h.Txns (k:Int)) (fun y=>Tri (bif !y then (out (some 1):Option (BS ⊕ Int)) else bif decide ((((idx h.Txns (k:Int)).Ops).length:Int) > 16) then out (some 1) else iter (iL h b.keys b.types b.wrote b.incs b.last_ (k:Int)) ([],0)) (fun y=>y = .inr 1)):=by
    refine ⟨p',hp',?_⟩
    repeat' (first | contradiction | with_reducible refine aA (fun hq => ?_) (fun hq => ?_) | with_reducible refine ak (by first | omega | grind [bI]) ?_ | with_reducible refine aB ?_ | with_reducible refine cK ?_ | with_reducible refine dV ?_ | with_reducible refine dW ?_ | with_reducible refine dX ?_ | with_reducible refine ah ?_)
    ·rfl
    ·rfl
    ·rcases h1 with h1 | h1 | h1
     ·exact gJ h1 (fun y hy=>hy (Decidable.of_not_not ‹¬¬p'=true›) (by omega))
     ·omega
     ·contradiction
   have hend2:∀ {Q:BS ⊕ Int→Prop},Q (.inr 1)→Tri ((aX h.Txns (k:Int)).bind fun y=>bif !y then (out (some 1):Option (BS ⊕ Int)) else bif decide ((((idx h.Txns (k:Int)).Ops).length:Int) > 16) then out (some 1) else iter (iL h b.keys b.types b.wrote b.incs b.last_ (k:Int)) ([],0)) Q:=by
    intro Q hQ;refine dK hend (fun y hy=>gJ hy ?_);rintro _ rfl;exact hQ
   repeat' (first | contradiction | with_reducible refine aA (fun hq => ?_) (fun hq => ?_) | with_reducible refine ak (by first | omega | grind [bI]) ?_ | with_reducible refine aB ?_ | with_reducible refine cK ?_ | with_reducible refine dV ?_ | with_reducible refine dW ?_ | with_reducible refine dX ?_ | with_reducible refine ah ?_ | refine aV hp ?_)
   ·refine hend2 ?_;exact ⟨⟨1,rfl,rfl⟩,.inr rfl⟩
   ·refine hend2 ?_;exact ⟨⟨1,rfl,rfl⟩,.inr rfl⟩
   ·exact absurd ⟨a4.1 (by grind),a3.1 (by grind)⟩ hok
 ·repeat' (first | contradiction | with_reducible refine aA (fun hq => ?_) (fun hq => ?_) | with_reducible refine ak (by first | omega | grind [bI]) ?_ | with_reducible refine aB ?_ | with_reducible refine cK ?_ | with_reducible refine dV ?_ | with_reducible refine dW ?_ | with_reducible refine dX ?_ | with_reducible refine ah ?_)
  exact ⟨⟨0,rfl,rfl⟩,.inl rfl⟩
theorem DZ {h:History} (hs:oq h):Tri (aF h) (fun v=>Tri (aJ h) (fun v'=>v=v'∧(v=0∨v=1))):=by
 obtain ⟨a5,a4,a3⟩:=hs;obtain ⟨y,hy,hn⟩:=FW (l:=h.Keys) (by omega);have hT:=fun hN a1=>OQ (h:=h) ⟨a5,a4,a3⟩ hN a1;have hfail:¬ (sZ h.Keys∧h.Txns.length≤32)→aJ h=some 1:=by
  intro hno;refine fw.1 ?_;unfold aJ jB
  simp only [cond_true,cond_false]
  repeat' (first | contradiction | with_reducible refine aA (fun hq => ?_) (fun hq => ?_) | with_reducible refine ak (by first | omega | grind [bI]) ?_ | with_reducible refine aB ?_ | with_reducible refine cK ?_ | with_reducible refine dV ?_ | with_reducible refine dW ?_ | with_reducible refine dX ?_ | with_reducible refine ah ?_ | refine aV hy ?_)
  ·rfl
  ·rfl
  ·exact absurd ⟨hn.1 (Decidable.of_not_not ‹¬¬y=true›),by omega⟩ hno
 have hgood:sZ h.Keys→h.Txns.length≤32→Tri (iter (oV h) (Kv ⟨[],[],[],[],[]⟩ 0)) (fun x=>Tri (aJ h) (fun v'=>x = .inr v'∧(v'=0∨v'=1))):=by
  intro hN a1;refine gJ (hT hN a1) (fun x hx => ?_);unfold aJ jB
  simp only [cond_true,cond_false]
  have:=hn.2 hN
  repeat' (first | contradiction | with_reducible refine aA (fun hq => ?_) (fun hq => ?_) | with_reducible refine ak (by first | omega | grind [bI]) ?_ | with_reducible refine aB ?_ | with_reducible refine cK ?_ | with_reducible refine dV ?_ | with_reducible refine dW ?_ | with_reducible refine dX ?_ | with_reducible refine ah ?_ | refine aV hy ?_)
  ·omega
  ·refine gJ hx (fun v hv => ?_);obtain ⟨⟨v2,rfl,rfl⟩,h2⟩:=hv;exact ⟨rfl,h2⟩
 have hbad:¬ (sZ h.Keys∧h.Txns.length≤32)→Tri (aJ h) (fun v'=>(1:Int)=v'∧((1:Int)=0∨(1:Int)=1)):=fun hno=>⟨1,hfail hno,rfl,.inr rfl⟩;unfold aF rZ
 simp only [cond_true,cond_false]
 repeat' (first | contradiction | with_reducible refine aA (fun hq => ?_) (fun hq => ?_) | with_reducible refine ak (by first | omega | grind [bI]) ?_ | with_reducible refine aB ?_ | with_reducible refine cK ?_ | with_reducible refine dV ?_ | with_reducible refine dW ?_ | with_reducible refine dX ?_ | with_reducible refine ah ?_)
 ·exact hbad (fun hh=>by have:=hh.1.1; omega)
 ·exact hbad (fun hh=>by have:=hh.2; omega)
 ·refine qm h.Keys.length (Cg h.Keys) ?_;intro k hk hJ;unfold wF oU
  simp only [cond_true,cond_false]
  have hf:k < h.Keys.length→Tri (slices_Contains_string (kP h.Keys 0 (k:Int)) (idx h.Keys (k:Int))) (fun r=>r=true↔∃ j:Nat,j < k∧idx h.Keys (j:Int)=idx h.Keys (k:Int)):=by
   intro hk'
   rw [pU (by omega)]
   refine gJ (Hw (by simp; omega)) (fun r hr => ?_);have ht:(h.Keys.take k).length=k:=by simp; omega
   have hx:∀ j:Nat,j < k→idx (h.Keys.take k) (j:Int)=idx h.Keys (j:Int):=fun j h=>AO h
   rw [ht] at hr
   grind
  have he:=Ij (k:=idx h.Keys (k:Int));have hw:w64 ((k:Int) + 1)=((k + 1:Nat):Int):=bA (by omega)
  rw [hw]
  have hNk:Cg h.Keys k↔(1≤(idx h.Keys (k:Int)).size∧(idx h.Keys (k:Int)).size≤32∧∀ j:Nat,j < k→idx h.Keys (j:Int)≠idx h.Keys (k:Int)):=Iff.rfl;have hno:k < h.Keys.length → ¬ Cg h.Keys k → ¬ (sZ h.Keys∧h.Txns.length≤32):=fun h1 h2 h3=>h2 (h3.1.2 k h1);refine aA (fun a2 => ?_) (fun a2 => ?_)
  ·refine ak (by omega) ?_
   repeat' (first | contradiction | with_reducible refine aA (fun hq => ?_) (fun hq => ?_) | with_reducible refine ak (by first | omega | grind [bI]) ?_ | with_reducible refine aB ?_ | with_reducible refine cK ?_ | with_reducible refine dV ?_ | with_reducible refine dW ?_ | with_reducible refine dX ?_ | with_reducible refine ah ?_ | refine dK (hf (by omega)) (fun r hr => ?_))
   ·exact hbad (hno (by omega) (by grind))
   ·exact hbad (hno (by omega) (by grind))
   ·exact hbad (hno (by omega) (by grind))
   ·exact ⟨rfl,by omega,by grind⟩
  ·have hN:sZ h.Keys:=⟨by omega,fun i hi=>hJ i (by omega)⟩
   unfold qR;refine cK ?_;obtain ⟨x,hx,v,hv,hq⟩:=hgood hN (by omega);obtain ⟨rfl,h2⟩:=hq;exact ⟨_,hx,v,hv,rfl,h2⟩
end Go.Proofs.YtfpeabnehpclnaaGreatT
namespace Go.Proofs.YtfpeabnehpclnaaGreatT
open Go Go.Proofs Go.Proofs.YtfpeabnehpclnaaGreatE
set_option linter.unusedVariables false
set_option linter.unusedSimpArgs false
def tq (l:List Int) (c:Call) (w:Int) (s:ByteArray):List Int:=if c.Kind=4∧c.Key=s∧(l.length=0∨idx l ((l.length - 1:Nat):Int)≠w) then l++[w] else l
def nD (E:List (Call×Int)) (s:ByteArray):List Int:=E.foldl (fun l e=>tq l e.1 e.2 s) []
theorem Ea {E:List (Call×Int)} {c:Call} {w:Int} {s:ByteArray}:nD (E++[(c,w)]) s=tq (nD E s) c w s:=by
 unfold nD; rw [List.foldl_append]; rfl
theorem wU {l:List Int} {c:Call} {w:Int} {s:ByteArray} (h:¬ (c.Kind=4∧c.Key=s)):tq l c w s=l:=by
 unfold tq; rw [if_neg (fun hh=>h ⟨hh.1,hh.2.1⟩)]
def QC (E:List (Call×Int)) (c:Call) (w:Int):Prop :=
 ((c.Kind=2∨c.Kind=3)→∀ e ∈ E,e.1.Key=c.Key→(e.1.Kind=2∨e.1.Kind=3)→e.1.Arg≠c.Arg)∧(c.Kind=4→(tq (nD E c.Key) c w c.Key).length≤8)
def ND (E:List (Call×Int)) (c:Call) (w:Int):Prop:=(∀ e ∈ E,e.1.Key=c.Key→typ e.1.Kind=typ c.Kind)∧QC E c w
structure BookInv0 (E:List (Call×Int)) (b:aQ):Prop where
 tl:b.types.length=b.keys.length
 wl:b.wrote.length=b.keys.length
 il:b.incs.length=b.keys.length
 ll:b.last_.length=b.keys.length
 nd:∀ i j:Nat,i < b.keys.length→j < b.keys.length→idx b.keys (i:Int)=idx b.keys (j:Int)→i=j
 ks:∀ e ∈ E,∃ j:Nat,j < b.keys.length∧idx b.keys (j:Int)=e.1.Key
 ty:∀ e ∈ E,∀ j:Nat,j < b.keys.length→idx b.keys (j:Int)=e.1.Key→idx b.types (j:Int)=typ e.1.Kind
 wr:∀ j:Nat,j < b.keys.length→∀ a,(∃ m:Nat,m < (idx b.wrote (j:Int)).length∧idx (idx b.wrote (j:Int)) (m:Int)=a)↔∃ e ∈ E,e.1.Key=idx b.keys (j:Int)∧(e.1.Kind=2∨e.1.Kind=3)∧e.1.Arg=a
 wn:∀ j:Nat,j < b.keys.length→(idx b.wrote (j:Int)).length≤E.length
 ic:∀ j:Nat,j < b.keys.length→idx b.incs (j:Int)=((nD E (idx b.keys (j:Int))).length:Int)
 i8:∀ j:Nat,j < b.keys.length→(nD E (idx b.keys (j:Int))).length≤8
 io:∀ s,(∀ j:Nat,j < b.keys.length→idx b.keys (j:Int)≠s)→nD E s=[]
 la:∀ j:Nat,j < b.keys.length→((nD E (idx b.keys (j:Int))).length=0→idx b.last_ (j:Int) = -1) ∧
  (0 < (nD E (idx b.keys (j:Int))).length→idx b.last_ (j:Int)=idx (nD E (idx b.keys (j:Int))) (((nD E (idx b.keys (j:Int))).length - 1:Nat):Int))
theorem BookInv0.start:BookInv0 [] ⟨[],[],[],[],[]⟩:=by
 refine ⟨rfl,rfl,rfl,rfl,?_,?_,?_,?_,?_,?_,?_,?_,?_⟩
 all_goals simp [nD]
theorem BookInv0.new {E:List (Call×Int)} {b:aQ} (h:BookInv0 E b) {s:ByteArray} {t:Int} (hn:∀ j:Nat,j < b.keys.length→idx b.keys (j:Int)≠s) :
  BookInv0 E ⟨b.keys++[s],b.types++[t],b.wrote++[[]],b.incs++[0],b.last_++[-1]⟩:=by
 have hl:(b.keys++[s]).length=b.keys.length + 1:=by simp
 have k1:∀ j:Nat,j < b.keys.length→idx (b.keys++[s]) (j:Int)=idx b.keys (j:Int):=fun j hj=>lV hj;have k2:idx (b.keys++[s]) ((b.keys.length:Nat):Int)=s:=kM rfl;have t1:∀ j:Nat,j < b.keys.length→idx (b.types++[t]) (j:Int)=idx b.types (j:Int):=fun j hj=>lV (by rw [h.tl]; exact hj);have w1:∀ j:Nat,j < b.keys.length→idx (b.wrote++[[]]) (j:Int)=idx b.wrote (j:Int):=fun j hj=>lV (by rw [h.wl]; exact hj);have w2:idx (b.wrote++[[]]) ((b.keys.length:Nat):Int)=[]:=kM h.wl.symm;have i1:∀ j:Nat,j < b.keys.length→idx (b.incs++[0]) (j:Int)=idx b.incs (j:Int):=fun j hj=>lV (by rw [h.il]; exact hj);have i2:idx (b.incs++[0]) ((b.keys.length:Nat):Int)=0:=kM h.il.symm;have l1:∀ j:Nat,j < b.keys.length→idx (b.last_++[-1]) (j:Int)=idx b.last_ (j:Int):=fun j hj=>lV (by rw [h.ll]; exact hj);have l2:idx (b.last_++[-1]) ((b.keys.length:Nat):Int) = -1:=kM h.ll.symm;have ho:=h.io s hn;have hne:∀ e ∈ E,e.1.Key≠s:=fun e he hs=>by
  obtain ⟨j,hj,hk⟩:=h.ks e he;exact hn j hj (hk.trans hs)
 have cut:∀ j:Nat,j < b.keys.length + 1→j < b.keys.length∨j=b.keys.length:=by omega
 refine ⟨by simp [h.tl],by simp [h.wl],by simp [h.il],by simp [h.ll],?_,?_,?_,?_,?_,?_,?_,?_,?_⟩
 ·intro i j hi hj he
  dsimp only at hi hj he
  rw [hl] at hi hj
  have:=h.nd i j;rcases cut i hi with hi' | hi' <;> rcases cut j hj with hj' | hj' <;> grind
 ·intro e he;obtain ⟨j,hj,hk⟩:=h.ks e he;exact ⟨j,by simp; omega,(k1 j hj).trans hk⟩
 ·intro e he j hj hk
  dsimp only at hj hk ⊢
  rw [hl] at hj
  rcases cut j hj with hj' | hj'
  ·rw [k1 j hj'] at hk; rw [t1 j hj']; exact h.ty e he j hj' hk
  ·subst hj'; rw [k2] at hk; exact absurd hk.symm (hne e he)
 ·intro j hj a
  dsimp only at hj ⊢
  rw [hl] at hj
  rcases cut j hj with hj' | hj'
  ·rw [k1 j hj',w1 j hj']; exact h.wr j hj' a
  ·subst hj'
   rw [k2,w2]
   constructor
   ·rintro ⟨m,hm,_⟩; simp at hm
   ·rintro ⟨e,he,hk,_⟩; exact absurd hk (hne e he)
 ·intro j hj
  dsimp only at hj ⊢
  rw [hl] at hj
  rcases cut j hj with hj' | hj'
  ·rw [w1 j hj']; exact h.wn j hj'
  ·subst hj'; rw [w2]; simp
 ·intro j hj
  dsimp only at hj ⊢
  rw [hl] at hj
  rcases cut j hj with hj' | hj'
  ·rw [k1 j hj',i1 j hj']; exact h.ic j hj'
  ·subst hj'; rw [k2,i2,ho]; rfl
 ·intro j hj
  dsimp only at hj ⊢
  rw [hl] at hj
  rcases cut j hj with hj' | hj'
  ·rw [k1 j hj']; exact h.i8 j hj'
  ·subst hj'; rw [k2,ho]; simp
 ·intro x hx
  dsimp only at hx ⊢
  rw [hl] at hx
  exact h.io x (fun j hj=>by rw [← k1 j hj]; exact hx j (by omega))
 ·intro j hj
  dsimp only at hj ⊢
  rw [hl] at hj
  rcases cut j hj with hj' | hj'
  ·rw [k1 j hj',l1 j hj']; exact h.la j hj'
  ·subst hj'; rw [k2,l2,ho]; simp
theorem je {E:List (Call×Int)} {c:Call} {w:Int} {e:Call×Int}:e ∈ E++[(c,w)]↔e ∈ E∨e=(c,w):=by simp
theorem BookInv0.same {E:List (Call×Int)} {b:aQ} {c:Call} {w:Int} {k:Nat} (h:BookInv0 E b) (hk:k < b.keys.length) (hs:idx b.keys (k:Int)=c.Key) (ht:idx b.types (k:Int)=typ c.Kind)
  (h2:c.Kind≠2) (h3:c.Kind≠3) (hw:tq (nD E c.Key) c w c.Key=nD E c.Key):BookInv0 (E++[(c,w)]) b:=by
 have hws:∀ s,nD (E++[(c,w)]) s=nD E s:=fun s=>by
  rw [Ea]
  by_cases e:c.Kind=4∧c.Key=s
  ·rw [← e.2]; exact hw
  ·exact wU e
 refine ⟨h.tl,h.wl,h.il,h.ll,h.nd,?_,?_,?_,?_,?_,?_,?_,?_⟩
 ·intro e he;rcases je.1 he with he | rfl
  ·exact h.ks e he
  ·exact ⟨k,hk,hs⟩
 ·intro e he j hj hkj;rcases je.1 he with he | rfl
  ·exact h.ty e he j hj hkj
  ·have:=h.nd j k hj hk (hkj.trans hs.symm);subst this;exact ht
 ·intro j hj a
  rw [h.wr j hj a]
  constructor
  ·rintro ⟨e,he,r⟩; exact ⟨e,je.2 (.inl he),r⟩
  ·rintro ⟨e,he,r⟩;rcases je.1 he with he | rfl
   ·exact ⟨e,he,r⟩
   ·rcases r.2.1 with r | r <;> contradiction
 ·intro j hj;have:=h.wn j hj
  simp; omega
 ·intro j hj; rw [hws]; exact h.ic j hj
 ·intro j hj; rw [hws]; exact h.i8 j hj
 ·intro s hs'; rw [hws]; exact h.io s hs'
 ·intro j hj; rw [hws]; exact h.la j hj
theorem BookInv0.write {E:List (Call×Int)} {b:aQ} {c:Call} {w:Int} {k:Nat} (h:BookInv0 E b) (hk:k < b.keys.length) (hs:idx b.keys (k:Int)=c.Key) (ht:idx b.types (k:Int)=typ c.Kind)
  (a1:c.Kind=2∨c.Kind=3):BookInv0 (E++[(c,w)]) ⟨b.keys,b.types,b.wrote.set k (idx b.wrote (k:Int)++[c.Arg]),b.incs,b.last_⟩:=by
 have hws:∀ s,nD (E++[(c,w)]) s=nD E s:=fun s=>by
  rw [Ea]
  exact wU (fun e=>by omega)
 have w1:∀ j:Nat,idx (b.wrote.set k (idx b.wrote (k:Int)++[c.Arg])) (j:Int)=if j=k then idx b.wrote (k:Int)++[c.Arg] else idx b.wrote (j:Int):=fun j=>vo (by rw [h.wl]; exact hk);refine ⟨h.tl,by simp [h.wl],h.il,h.ll,h.nd,?_,?_,?_,?_,?_,?_,?_,?_⟩
 ·intro e he;rcases je.1 he with he | rfl
  ·exact h.ks e he
  ·exact ⟨k,hk,hs⟩
 ·intro e he j hj hkj;rcases je.1 he with he | rfl
  ·exact h.ty e he j hj hkj
  ·have:=h.nd j k hj hk (hkj.trans hs.symm);subst this;exact ht
 ·intro j hj a
  dsimp only at hj ⊢
  rw [w1 j]
  have hold:=h.wr j hj a
  by_cases e:j=k
  ·subst e
   rw [if_pos rfl]
   constructor
   ·rintro ⟨m,hm,he⟩;rcases Nat.lt_or_ge m (idx b.wrote (j:Int)).length with h1 | h1
    ·rw [lV h1] at he
     obtain ⟨e,he',r⟩:=hold.1 ⟨m,h1,he⟩;exact ⟨e,je.2 (.inl he'),r⟩
    ·simp at hm
     rw [kM (by omega)] at he
     exact ⟨(c,w),je.2 (.inr rfl),hs.symm,a1,he⟩
   ·rintro ⟨e,he,r⟩;rcases je.1 he with he | rfl
    ·obtain ⟨m,hm,hh⟩:=hold.2 ⟨e,he,r⟩;exact ⟨m,by simp; omega,(lV hm).trans hh⟩
    ·exact ⟨_,by simp,(kM rfl).trans r.2.2⟩
  ·rw [if_neg e,hold]
   constructor
   ·rintro ⟨e,he,r⟩; exact ⟨e,je.2 (.inl he),r⟩
   ·rintro ⟨e',he,r⟩;rcases je.1 he with he | rfl
    ·exact ⟨e',he,r⟩
    ·exact absurd (h.nd j k hj hk (r.1.symm.trans hs.symm)) e
 ·intro j hj
  dsimp only at hj ⊢
  rw [w1 j]
  have:=h.wn j hj
  split
  ·rename_i e; subst e; simp; omega
  ·simp; omega
 ·intro j hj; rw [hws]; exact h.ic j hj
 ·intro j hj; rw [hws]; exact h.i8 j hj
 ·intro s hs'; rw [hws]; exact h.io s hs'
 ·intro j hj; rw [hws]; exact h.la j hj
theorem BookInv0.inc {E:List (Call×Int)} {b:aQ} {c:Call} {w:Int} {k:Nat} (h:BookInv0 E b) (hk:k < b.keys.length) (hs:idx b.keys (k:Int)=c.Key) (ht:idx b.types (k:Int)=typ c.Kind)
  (h4:c.Kind=4) (hw:tq (nD E c.Key) c w c.Key=nD E c.Key++[w]) (h8:(nD E c.Key).length + 1≤8) :
  BookInv0 (E++[(c,w)]) ⟨b.keys,b.types,b.wrote,b.incs.set k (idx b.incs (k:Int) + 1),b.last_.set k w⟩:=by
 have hws:∀ s,nD (E++[(c,w)]) s=if c.Key=s then nD E s++[w] else nD E s:=fun s=>by
  rw [Ea]
  by_cases e:c.Key=s
  ·rw [if_pos e,← e]; exact hw
  ·rw [if_neg e]; exact wU (fun hh=>e hh.2)
 have i1:∀ j:Nat,idx (b.incs.set k (idx b.incs (k:Int) + 1)) (j:Int)=if j=k then idx b.incs (k:Int) + 1 else idx b.incs (j:Int):=fun j=>vo (by rw [h.il]; exact hk);have l1:∀ j:Nat,idx (b.last_.set k w) (j:Int)=if j=k then w else idx b.last_ (j:Int):=fun j=>vo (by rw [h.ll]; exact hk);have hne:∀ j:Nat,j < b.keys.length→(c.Key=idx b.keys (j:Int)↔j=k):=fun j hj=>⟨fun e=>h.nd j k hj hk (e.symm.trans hs.symm),fun e=>by rw [e,hs]⟩
 refine ⟨h.tl,h.wl,by simp [h.il],by simp [h.ll],h.nd,?_,?_,?_,?_,?_,?_,?_,?_⟩
 ·intro e he;rcases je.1 he with he | rfl
  ·exact h.ks e he
  ·exact ⟨k,hk,hs⟩
 ·intro e he j hj hkj;rcases je.1 he with he | rfl
  ·exact h.ty e he j hj hkj
  ·have:=h.nd j k hj hk (hkj.trans hs.symm);subst this;exact ht
 ·intro j hj a
  dsimp only at hj ⊢
  rw [h.wr j hj a]
  constructor
  ·rintro ⟨e,he,r⟩; exact ⟨e,je.2 (.inl he),r⟩
  ·rintro ⟨e,he,r⟩;rcases je.1 he with he | rfl
   ·exact ⟨e,he,r⟩
   ·have:=r.2.1; dsimp only at this; omega
 ·intro j hj;have:=h.wn j hj
  simp; omega
 ·intro j hj
  dsimp only at hj ⊢
  have:=h.ic j hj
  rw [hws,i1 j]
  by_cases e:j=k
  ·rw [if_pos e,if_pos ((hne j hj).2 e)]; subst e; simp; omega
  ·rw [if_neg e,if_neg (fun hh=>e ((hne j hj).1 hh))]; exact this
 ·intro j hj
  dsimp only at hj ⊢
  rw [hws]
  by_cases e:j=k
  ·rw [if_pos ((hne j hj).2 e)]; subst e; rw [hs]; simp; omega
  ·rw [if_neg (fun hh=>e ((hne j hj).1 hh))]; exact h.i8 j hj
 ·intro s hs'
  dsimp only at hs'
  rw [hws,if_neg (fun e=>hs' k hk (hs.trans e))]
  exact h.io s hs'
 ·intro j hj
  dsimp only at hj ⊢
  rw [hws,l1 j]
  by_cases e:j=k
  ·rw [if_pos e,if_pos ((hne j hj).2 e)]
   refine ⟨fun h0=>by simp at h0,fun _ => ?_⟩
   rw [kM (by simp)]
  ·rw [if_neg e,if_neg (fun hh=>e ((hne j hj).1 hh))]; exact h.la j hj
theorem NE {E:List (Call×Int)} {b:aQ} {c:Call} {w:Int} {k:Nat} (h:BookInv0 E b) (hk:k < b.keys.length) (hs:idx b.keys (k:Int)=c.Key) (ht:idx b.types (k:Int)=typ c.Kind)
  (h1:1≤c.Kind) (h8:c.Kind≤8) (hw:0≤w) (hE:E.length≤4096) :
  Tri (gm c w b.keys b.types b.wrote b.incs b.last_ (k:Int)) (fun r=>(r.1=0↔QC E c w)∧(r.1=0→BookInv0 (E++[(c,w)]) r.2∧r.2.keys=b.keys∧r.2.types=b.types)):=by
 have hin:=h.ic k hk;have a1:=h.i8 k hk;have hla:=h.la k hk;have hwr:=h.wr k hk c.Arg;have hwn:=h.wn k hk
 rw [hs] at hin a1 hla hwr
 refine gJ (Jl (who:=w) hk h.tl h.wl h.il h.ll (by omega) (by omega) h1 h8) (fun r hr => ?_);have stay:∀ {l:List Int},tq (nD E c.Key) c w c.Key=l→l=if c.Kind=4∧((nD E c.Key).length=0∨idx (nD E c.Key) (((nD E c.Key).length - 1:Nat):Int)≠w) then nD E c.Key++[w] else nD E c.Key:=by
  rintro l rfl;unfold tq
  simp
 have st:=stay rfl;rcases hr with ⟨a,rfl⟩ | ⟨_,b1,b2,rfl⟩ | ⟨_,b1,b2,rfl⟩ | ⟨_,b1,b2,b3,b4⟩ | ⟨_,b1,b2,b3,rfl⟩ | ⟨_,b1,b2,rfl⟩ | ⟨_,b1,b2,b3,rfl⟩
 ·exact absurd ht a
 ·refine ⟨⟨fun h=>by simp at h,fun hh => ?_⟩,fun h=>by simp at h⟩
  obtain ⟨e,he,r1,r2,r3⟩:=hwr.1 b2;exact absurd r3 (hh.1 b1 e he r1 r2)
 ·refine ⟨⟨fun _=>⟨fun _ e he r1 r2 r3=>b2 (hwr.2 ⟨e,he,r1,r2,r3⟩),fun h4=>by omega⟩,fun _=>rfl⟩,fun _=>⟨h.write hk hs ht b1,rfl,rfl⟩⟩
 ·have hne:(nD E c.Key).length=0∨idx (nD E c.Key) (((nD E c.Key).length - 1:Nat):Int)≠w:=by grind
  rw [if_pos ⟨b1,hne⟩] at st
  refine ⟨⟨fun h0=>by omega,fun hh => ?_⟩,fun h0=>by omega⟩
  have:=hh.2 b1
  rw [st] at this
  simp at this
  omega
 ·have hne:(nD E c.Key).length=0∨idx (nD E c.Key) (((nD E c.Key).length - 1:Nat):Int)≠w:=by grind
  rw [if_pos ⟨b1,hne⟩] at st
  refine ⟨⟨fun _=>⟨fun h=>by omega,fun _=>by rw [st]; simp; omega⟩,fun _=>rfl⟩,fun _=>⟨h.inc hk hs ht b1 st (by omega),rfl,rfl⟩⟩
 ·have hne:¬ ((nD E c.Key).length=0∨idx (nD E c.Key) (((nD E c.Key).length - 1:Nat):Int)≠w):=by grind
  rw [if_neg (fun hh=>hne hh.2)] at st
  refine ⟨⟨fun _=>⟨fun h=>by omega,fun _=>by rw [st]; exact a1⟩,fun _=>rfl⟩,fun _=>⟨h.same hk hs ht (by omega) (by omega) st,rfl,rfl⟩⟩
 ·rw [if_neg (fun hh=>b3 hh.1)] at st
  refine ⟨⟨fun _=>⟨fun h=>by omega,fun h=>by omega⟩,fun _=>rfl⟩,fun _=>⟨h.same hk hs ht b1 b2 st,rfl,rfl⟩⟩
structure tu (E:List (Call×Int)) (b:aQ):Prop extends BookInv0 E b where
 len:b.keys.length≤32
 kex:∀ j:Nat,j < b.keys.length→∃ e ∈ E,e.1.Key=idx b.keys (j:Int)
theorem tu.start:tu [] ⟨[],[],[],[],[]⟩:=⟨BookInv0.start,by simp,fun j hj=>by simp at hj⟩
theorem OT {E:List (Call×Int)} {b:aQ} {c:Call} {w:Int} (h:tu E b) (hroom:b.keys.length=32→∃ j:Nat,j < b.keys.length∧idx b.keys (j:Int)=c.Key)
  (h1:1≤c.Kind) (h8:c.Kind≤8) (hw:0≤w) (hE:E.length≤4096) :
  Tri (az b c w) (fun r=>(r.1=0↔ND E c w)∧(r.1=0→tu (E++[(c,w)]) r.2)):=by
 have hl:=h.len;have t1:=h.tl;have t2:=h.wl;have t3:=h.il;have t4:=h.ll;obtain ⟨r0,a6,hf⟩:=DY (l:=b.keys) (s:=c.Key) (by omega);unfold az
 rw [a6]
 refine cK ?_;rcases hf with ⟨rfl,hno⟩ | ⟨k,rfl,a1,a2,_⟩
 ·refine aA (fun _ => ?_) (fun hh=>by omega);refine aA (fun a5 => ?_) (fun a5 => ?_)
  ·obtain ⟨j,hj,he⟩:=hroom (by omega);exact absurd he (hno j hj)
  ·have hn:=h.toBookInv0.new (s:=c.Key) (t:=typ c.Kind) hno;have hat:=NE (w:=w) hn (k:=b.keys.length) (by simp) (kM rfl) (kM t1.symm) h1 h8 hw hE;have hne:∀ e ∈ E,e.1.Key≠c.Key:=fun e he hs=>by
    obtain ⟨j,hj,hk⟩:=h.ks e he;exact hno j hj (hk.trans hs)
   unfold kU kT
   simp only [Fw h1 h8]
   refine ak (by omega) (cK (ak (by omega) (ak (by omega) (ak (by omega) (ak (by omega) ?_)))));refine gJ hat (fun r hr => ?_);refine ⟨hr.1.trans ⟨fun hh=>⟨fun e he hs=>absurd hs (hne e he),hh⟩,fun hh=>hh.2⟩,fun h0 => ?_⟩;obtain ⟨q1,q2,q3⟩:=hr.2 h0;refine ⟨q1,by rw [q2]; simp; omega,fun j hj => ?_⟩
   rw [q2] at hj ⊢
   have hj:j < b.keys.length + 1:=by simpa using hj
   rcases (by omega:j < b.keys.length∨j=b.keys.length) with hj' | hj'
   ·obtain ⟨e,he,hk⟩:=h.kex j hj';exact ⟨e,je.2 (.inl he),by rw [hk]; exact (lV hj').symm⟩
   ·subst hj';exact ⟨(c,w),je.2 (.inr rfl),(kM rfl).symm⟩
 ·refine aA (fun hh=>by omega) (fun _ => ?_);obtain ⟨e0,a3,a4⟩:=h.kex k a1;have hty:=h.ty e0 a3 k a1 a4.symm
  by_cases ht:idx b.types (k:Int)=typ c.Kind
  ·have hat:=NE (w:=w) h.toBookInv0 a1 a2 ht h1 h8 hw hE;refine gJ hat (fun r hr => ?_);refine ⟨hr.1.trans ⟨fun hh=>⟨fun e he hs => ?_,hh⟩,fun hh=>hh.2⟩,fun h0 => ?_⟩
   ·exact (h.ty e he k a1 (a2.trans hs.symm)).symm.trans ht
   ·obtain ⟨q1,q2,q3⟩:=hr.2 h0;refine ⟨q1,by rw [q2]; exact hl,fun j hj => ?_⟩
    rw [q2] at hj ⊢
    obtain ⟨e,he,hk⟩:=h.kex j hj;exact ⟨e,je.2 (.inl he),hk⟩
  ·have hin:=h.ic k a1;have a7:=h.i8 k a1;have hwn:=h.wn k a1;refine gJ (Jl (who:=w) a1 t1 t2 t3 t4 (by omega) (by omega) h1 h8) (fun r hr => ?_);have hno:¬ ND E c w:=fun hh=>ht (hty.trans (hh.1 e0 a3 (a4.trans a2)));rcases hr with ⟨a,rfl⟩ | ⟨a,_⟩ | ⟨a,_⟩ | ⟨a,_⟩ | ⟨a,_⟩ | ⟨a,_⟩ | ⟨a,_⟩
   ·exact ⟨⟨fun h=>by simp at h,fun hh=>absurd hh hno⟩,fun h=>by simp at h⟩
   all_goals exact absurd a ht
def BK (h:History) (i:Nat):List (Call×Int):=(eu h (idx h.Txns (i:Int))).map (fun c=>(c,(i:Int)))
def vO (h:History) (k:Nat):List (Call×Int):=(List.range k).flatMap (BK h)
theorem wV {h:History} {k:Nat}:vO h (k + 1)=vO h k++BK h k:=by
 unfold vO; rw [List.range_succ,List.flatMap_append]; simp
def rF (E L:List (Call×Int)):Prop:=∀ j:Nat,j < L.length→ND (E++L.take j) (idx L (j:Int)).1 (idx L (j:Int)).2
theorem rF.append {E L M:List (Call×Int)}:rF E (L++M)↔rF E L∧rF (E++L) M:=by
 constructor
 ·intro h;refine ⟨fun j hj => ?_,fun j hj => ?_⟩
  ·have:=h j (by simp; omega)
   rwa [lV hj,List.take_append_of_le_length (by omega)] at this
  ·have:=h (L.length + j) (by simp; omega)
   rw [List.take_append,List.take_of_length_le (by omega),show L.length + j - L.length=j by omega,← List.append_assoc] at this
   rwa [show idx (L++M) ((L.length + j:Nat):Int)=idx M (j:Int) from by
    rw [dE rfl (by simp; omega),dE rfl hj,List.getElem_append_right (by omega)]; congr 1; omega] at this
 ·rintro ⟨h1,h2⟩ j hj;rcases Nat.lt_or_ge j L.length with h3 | h3
  ·rw [lV h3,List.take_append_of_le_length (by omega)]; exact h1 j h3
  ·obtain ⟨i,rfl⟩:∃ i,j=L.length + i:=⟨j - L.length,by omega⟩
   have hi:i < M.length:=by simp at hj; omega
   have:=h2 i hi
   rw [List.take_append,List.take_of_length_le (by omega),show L.length + i - L.length=i by omega,← List.append_assoc]
   rwa [show idx (L++M) ((L.length + i:Nat):Int)=idx M (i:Int) from by
    rw [dE rfl (by simp; omega),dE rfl hi,List.getElem_append_right (by omega)]; congr 1; omega]
theorem room {K l:List ByteArray} {s:ByteArray} (hK:K.length≤32) (hl:l.length=32) (nd:∀ i j:Nat,i < l.length→j < l.length→idx l (i:Int)=idx l (j:Int)→i=j)
  (hs:s ∈ K) (hsub:∀ x ∈ l,x ∈ K):∃ j:Nat,j < l.length∧idx l (j:Int)=s:=by
 have hnd:l.Nodup:=by
  rw [List.nodup_iff_pairwise_ne,List.pairwise_iff_getElem]
  intro i j hi hj hij he;have:=nd i j hi hj (by rw [dE rfl hi,dE rfl hj]; exact he)
  omega
 by_cases h:s ∈ l
 ·obtain ⟨j,hj,he⟩:=List.getElem_of_mem h;exact ⟨j,hj,(dE rfl hj).trans he⟩
 ·have h1:(s::l).Nodup:=List.nodup_cons.2 ⟨h,hnd⟩;have h2:=h1.length_le_of_subset (l₂:=K) (fun x hx=>by
   rcases List.mem_cons.1 hx with rfl | hx
   ·exact hs
   ·exact hsub x hx)
  simp at h2
  omega
def InK (K:List ByteArray) (E:List (Call×Int)):Prop:=∀ e ∈ E,e.1.Key ∈ K
theorem tu.sub {K:List ByteArray} {E:List (Call×Int)} {b:aQ} (h:tu E b) (hE:InK K E):∀ x ∈ b.keys,x ∈ K:=by
 intro x hx;obtain ⟨j,hj,rfl⟩:=List.getElem_of_mem hx;obtain ⟨e,he,hk⟩:=h.kex j hj;have:=hE e he
 rw [hk,dE rfl hj] at this
 exact this
theorem Mo {K:List ByteArray} {E:List (Call×Int)} {b:aQ} {i:Nat} {l:List Call} (h:tu E b) (hK:K.length≤32) (hEK:InK K E) (hlK:∀ c ∈ l,c.Key ∈ K) (hl:l.length≤16) (hi:i < 64) (hn:E.length≤1024)
  (hc:xx l (fun c=>1≤c.Kind∧c.Kind≤8)) :
  Tri (iter (iK (i:Int) l) (CR b 0)) (fun x=>(rF E (l.map (fun c=>(c,(i:Int))))→∃ b',x = .inr (.inl (CR b' ((i + 1:Nat):Int)))∧tu (E++l.map (fun c=>(c,(i:Int)))) b') ∧
   (¬ rF E (l.map (fun c=>(c,(i:Int))))→x = .inr (.inr 1))):=by
 generalize hm:l.map (fun c=>(c,(i:Int)))=m;have hml:m.length=l.length:=by rw [← hm]; simp
 have hmi:∀ k:Nat,k < l.length→idx m (k:Int)=(idx l (k:Int),(i:Int)):=fun k hk=>by rw [← hm,zo hk]
 refine dP (k0:=0) l.length (fun k s=>∃ b',s=CR b' (k:Int)∧tu (E++m.take k) b'∧∀ j:Nat,j < k→ND (E++m.take j) (idx m (j:Int)).1 (idx m (j:Int)).2) (Nat.zero_le _) ⟨b,rfl,by simpa using h,fun j hj=>absurd hj (Nat.not_lt_zero _)⟩ ?_
 rintro k s hk ⟨b',rfl,hb,hJ⟩;unfold iK CR
 dsimp only
 refine aA (fun a3 => ?_) (fun a3 => ?_)
 ·have a1:k < l.length:=by omega
  have hin:InK K (E++m.take k):=fun e he=>by
   rcases List.mem_append.1 he with he | he
   ·exact hEK e he
   ·have:=List.mem_of_mem_take he
    rw [← hm] at this
    obtain ⟨c,hc,rfl⟩:=List.mem_map.1 this;exact hlK c hc
  have hcK:(idx l (k:Int)).Key ∈ K:=hlK _ (by rw [dE rfl a1]; exact List.getElem_mem a1);have hw:w64 ((k:Int) + 1)=((k + 1:Nat):Int):=bA (by omega);obtain ⟨r,hr,q1,q2⟩:=OT (c:=idx l (k:Int)) (w:=(i:Int)) hb (fun a2=>room hK a2 hb.nd hcK (hb.sub hin)) (hc k a1).1 (hc k a1).2 (by omega) (by simp; omega);refine ak (by omega) (aV hr ?_);refine aA (fun h0 => ?_) (fun h0 => ?_)
  ·refine aB (aB (aB (ah ⟨fun hall => ?_,fun _=>rfl⟩)));have:=hall k (by omega)
   rw [hmi k a1] at this
   exact absurd (q1.2 this) h0
  ·refine ah ⟨a1,r.2,?_,?_,?_⟩
   ·rw [hw]
   ·rw [nT (by omega),hmi k a1,← List.append_assoc]
    exact q2 (by omega)
   ·intro j hj;rcases Nat.lt_or_ge j k with h1 | h1
    ·exact hJ j h1
    ·rw [show j=k by omega,hmi k a1]; exact q1.1 (by omega)
 ·have hw:w64 ((i:Int) + 1)=((i + 1:Nat):Int):=bA (by omega)
  rw [hw]
  have hfull:m.take k=m:=List.take_of_length_le (by omega)
  rw [hfull] at hb
  refine aB (aB (ah ⟨fun _=>⟨b',rfl,hb⟩,fun hno=>absurd (fun j hj=>hJ j (by omega)) hno⟩))
structure eU (h:History):Prop where
 names:sZ h.Keys
 len:h.Txns.length≤32
 txn:∀ i:Nat,i < h.Txns.length→CS h i
 ents:rF [] (vO h h.Txns.length)
theorem keys_in {h:History} {i:Nat} (hi:zb h (idx h.Txns (i:Int))):∀ c ∈ eu h (idx h.Txns (i:Int)),c.Key ∈ h.Keys:=by
 intro c hc;obtain ⟨o,ho,rfl⟩:=List.mem_map.1 hc;have:=(AL.1 hi) o ho
 show idx h.Keys o.Key ∈ h.Keys
 rw [dE (n:=o.Key.toNat) (by omega) (by omega)]
 exact List.getElem_mem _
theorem OU {h:History} {i:Nat} (hi:CS h i):(BK h i).length≤16:=by
 have:=hi.2.2.2.2.1
 simpa [BK,BC,eu] using this
theorem Fb {h:History} (hs:oq h):Tri (aJ h) (fun v=>(v=0↔eU h)∧(v=0∨v=1)):=by
 obtain ⟨a6,a5,a4⟩:=hs;obtain ⟨y,hy,hn⟩:=FW (l:=h.Keys) (by omega);unfold aJ jB
 simp only [cond_true,cond_false]
 repeat' (first | contradiction | with_reducible refine aA (fun hq => ?_) (fun hq => ?_) | with_reducible refine ak (by first | omega | grind [bI]) ?_ | with_reducible refine aB ?_ | with_reducible refine cK ?_ | with_reducible refine dV ?_ | with_reducible refine dW ?_ | with_reducible refine dX ?_ | with_reducible refine ah ?_ | refine aV hy ?_)
 ·exact ⟨⟨fun h=>absurd h (by decide),fun hS=>absurd (hn.2 hS.names) ‹¬y=true›⟩,.inr rfl⟩
 ·exact ⟨⟨fun h=>absurd h (by decide),fun hS=>absurd hS.len (by omega)⟩,.inr rfl⟩
 ·have hN:sZ h.Keys:=hn.1 (Decidable.of_not_not ‹¬¬y=true›);have a3:h.Txns.length≤32:=by omega
  refine dP (k0:=0) h.Txns.length (fun k s=>∃ b,s=CR b (k:Int)∧tu (vO h k) b∧InK h.Keys (vO h k)∧(vO h k).length≤16 * k∧rF [] (vO h k)∧∀ j:Nat,j < k→CS h j) (Nat.zero_le _)
   ⟨⟨[],[],[],[],[]⟩,rfl,tu.start,fun e he=>by simp [vO] at he,by simp [vO],fun j hj=>by simp [vO] at hj,fun j hj=>absurd hj (Nat.not_lt_zero _)⟩ ?_
  rintro k s hk ⟨b,rfl,hb,hin,hlen,hents,hJ⟩;unfold lL lK CR
  simp only [cond_true,cond_false]
  have hbad:(k < h.Txns.length → ¬ CS h k)→k < h.Txns.length → ¬ eU h:=fun h1 h2 hS=>h1 h2 (hS.txn k h2);refine aA (fun a2 => ?_) (fun a2 => ?_)
  ·have a1:k < h.Txns.length:=by omega
   obtain ⟨p',hp',hp1'⟩:=zF (l:=h.Txns) a1 (by omega);have hco:Cf (BC h (idx h.Txns (k:Int)))→(idx h.Txns (k:Int)).Ops.length≤16:=fun he=>by
    have:=he.2.2.1
    simpa [BC,eu] using this
   repeat' (first | contradiction | with_reducible refine aA (fun hq => ?_) (fun hq => ?_) | with_reducible refine ak (by first | omega | grind [bI]) ?_ | with_reducible refine aB ?_ | with_reducible refine cK ?_ | with_reducible refine dV ?_ | with_reducible refine dW ?_ | with_reducible refine dX ?_ | with_reducible refine ah ?_ | refine aV hp' ?_)
   ·exact ⟨⟨fun h=>absurd h (by decide),fun hS=>absurd (hp1'.2 (hS.txn k a1).1) ‹¬p'=true›⟩,.inr rfl⟩
   ·exact ⟨⟨fun h=>absurd h (by decide),fun hS=>absurd (hco (hS.txn k a1).2.2) (by omega)⟩,.inr rfl⟩
   ·refine Jm (b:=b) a1 (a4 k a1) (by omega) (fun hno => ?_) (fun hKo hEv => ?_)
    ·exact ⟨⟨fun h=>absurd h (by decide),fun hS=>absurd ⟨(hS.txn k a1).2.1,(hS.txn k a1).2.2⟩ hno⟩,.inr rfl⟩
    ·have hok:CS h k:=⟨hp1'.1 (Decidable.of_not_not ‹¬¬p'=true›),hKo,hEv⟩;have hc:xx (eu h (idx h.Txns (k:Int))) (fun c=>1≤c.Kind∧c.Kind≤8):=fun j hj=>⟨(hEv.2.2.2 j hj).1,(hEv.2.2.2 j hj).2.1⟩;refine gJ (Mo (i:=k) hb hN.1 hin (keys_in hKo) hEv.2.2.1 (by omega) (by omega) hc) (fun x hx => ?_)
     by_cases hall:rF (vO h k) (BK h k)
     ·obtain ⟨b',rfl,hb'⟩:=hx.1 hall;refine ⟨a1,b',rfl,by rw [wV]; exact hb',?_,?_,?_,?_⟩
      ·rw [wV]
       intro e he;rcases List.mem_append.1 he with he | he
       ·exact hin e he
       ·obtain ⟨c,hc,rfl⟩:=List.mem_map.1 he;exact keys_in hKo c hc
      ·have:=OU hok
       rw [wV,List.length_append]; omega
      ·rw [wV]
       exact rF.append.2 ⟨hents,hall⟩
      ·intro j hj;rcases Nat.lt_or_ge j k with h1 | h1
       ·exact hJ j h1
       ·rw [show j=k by omega]; exact hok
     ·rw [hx.2 hall]
      refine ⟨⟨fun h=>absurd h (by decide),fun hS=>absurd ?_ hall⟩,.inr rfl⟩;have hsp:∀ n:Nat,k + 1≤n→rF [] (vO h n)→rF (vO h k) (BK h k):=by
       intro n
       induction n with
       | zero=>intro h; omega
       | succ n ih =>
        intro hn hE
        rw [wV,rF.append] at hE
        rcases Nat.lt_or_ge k n with h1 | h1
        ·exact ih (by omega) hE.1
        ·rw [show n=k by omega] at hE
         exact hE.2
      exact hsp _ a1 hS.ents
  ·have a1:k=h.Txns.length:=by omega
   repeat' (first | contradiction | with_reducible refine aA (fun hq => ?_) (fun hq => ?_) | with_reducible refine ak (by first | omega | grind [bI]) ?_ | with_reducible refine aB ?_ | with_reducible refine cK ?_ | with_reducible refine dV ?_ | with_reducible refine dW ?_ | with_reducible refine dX ?_ | with_reducible refine ah ?_)
   rw [a1] at hents hJ
   exact ⟨⟨fun _=>⟨hN,a3,hJ,hents⟩,fun _=>rfl⟩,.inl rfl⟩
theorem Mq {h:History} (hs:oq h):∃ v,aF h=some v∧aJ h=some v∧(v=0∨v=1)∧(v=0↔eU h):=by
 obtain ⟨v,hv,v',hv',rfl,a1⟩:=DZ hs;obtain ⟨w,hw,h1,h2⟩:=Fb hs;have:v=w:=Option.some.inj (hv'.symm.trans hw);subst this;exact ⟨v,hv,hv',a1,h1⟩
end Go.Proofs.YtfpeabnehpclnaaGreatT
namespace Go.Proofs.YtfpeabnehpclnaaGreatT
open Go Go.Proofs Go.Proofs.YtfpeabnehpclnaaGreatE
set_option linter.unusedVariables false
set_option linter.unusedSimpArgs false
def yg (ops:List Op) (key:Int) (p:Nat):List Int:=((ops.take p).filter (fun o=>decide (o.Key=key∧o.Kind≤4))).map (·.Arg)
theorem Eb {ops:List Op} {key:Int} {p:Nat} (h:p < ops.length):yg ops key (p + 1)=if (idx ops (p:Int)).Key=key∧(idx ops (p:Int)).Kind≤4 then yg ops key p++[(idx ops (p:Int)).Arg] else yg ops key p:=by
 unfold yg
 rw [nT h,List.filter_append,List.map_append]
 by_cases e:(idx ops (p:Int)).Key=key∧(idx ops (p:Int)).Kind≤4
 ·simp [e]
 ·rw [if_neg e]
  simp only [List.filter_cons,List.filter_nil,decide_eq_true_eq,if_neg e]
  simp
theorem CU {ops:List Op} {key:Int} {p:Nat}:(yg ops key p).length≤ops.length:=by
 unfold yg
 rw [List.length_map]
 exact Nat.le_trans (List.length_filter_le _ _) (by simp; omega)
def EC (ops:List Op) (t:Int) (p:Nat):List Ask :=
 let o:=idx ops (p:Int)
 let mine:=yg ops o.Key p
 if o.Kind≤4 then [] else if mine=[] then [⟨t,p,o.Key,o.Vals⟩] else if (before (o.Kind - 4) o.Vals mine).2=true∧o.Kind≠5 then [⟨t,p,o.Key,(before (o.Kind - 4) o.Vals mine).1⟩] else []
def FX (ops:List Op) (t:Int) (p:Nat):List Spot :=
 let o:=idx ops (p:Int)
 let mine:=yg ops o.Key p
 if o.Kind≤4 then [] else if mine=[] then [] else if (before (o.Kind - 4) o.Vals mine).2=true then [] else [⟨t,p⟩]
def wW (ops:List Op) (t:Int) (k:Nat):List Ask:=(List.range k).flatMap (EC ops t)
def xH (ops:List Op) (t:Int) (k:Nat):List Spot:=(List.range k).flatMap (FX ops t)
theorem ED {ops:List Op} {t:Int} {k:Nat}:wW ops t (k + 1)=wW ops t k++EC ops t k:=by
 unfold wW; rw [List.range_succ,List.flatMap_append]; simp
theorem CV {ops:List Op} {t:Int} {k:Nat}:xH ops t (k + 1)=xH ops t k++FX ops t k:=by
 unfold xH; rw [List.range_succ,List.flatMap_append]; simp
theorem FY {ops:List Op} {t:Int} {k:Nat}:(wW ops t k).length≤k:=by
 induction k with
 | zero=>simp [wW]
 | succ k ih =>
  rw [ED,List.length_append]
  have:(EC ops t k).length≤1:=by
   unfold EC
   dsimp only
   split
   ·simp
   ·split
    ·simp
    ·split <;> simp
  omega
theorem EE {ops:List Op} {t:Int} {k:Nat}:(xH ops t k).length≤k:=by
 induction k with
 | zero=>simp [xH]
 | succ k ih =>
  rw [CV,List.length_append]
  have:(FX ops t k).length≤1:=by
   unfold FX
   dsimp only
   split
   ·simp
   ·split
    ·simp
    ·split <;> simp
  omega
def yh (h:History) (t:Int):List Ask:=if (idx h.Txns t).Status=1 then wW (idx h.Txns t).Ops t (idx h.Txns t).Ops.length else []
def Bf (h:History) (t:Int):List Spot:=if (idx h.Txns t).Status=1 then xH (idx h.Txns t).Ops t (idx h.Txns t).Ops.length else []
def QD (ops:List Op):Prop:=ops.length≤16∧xx ops (fun o=>1≤o.Kind∧o.Kind≤8∧o.Vals.length≤64)
theorem CS.ops {h:History} {i:Nat} (hi:CS h i):QD (idx h.Txns (i:Int)).Ops:=by
 obtain ⟨_,_,_,_,h1,h2⟩:=hi;refine ⟨by simpa [BC,eu] using h1,fun j hj => ?_⟩
 have:=h2 j (by simpa [BC,eu] using hj)
 dsimp only [BC,eu] at this
 rw [zo hj] at this
 unfold vG yf at this
 dsimp only at this
 grind
theorem OV {h:History} {t:Nat} {f:fO} (ht:t < h.Txns.length) (ho:QD (idx h.Txns (t:Int)).Ops) (ha:f.asks.length≤1000000) (hb:f.bad.length≤1000000) :
  Tri (bE f h (t:Int)) (fun r=>r=⟨f.asks++yh h (t:Int),f.bad++Bf h (t:Int)⟩):=by
 unfold bE yh Bf;refine ak (by omega) ?_;refine aA (fun h1 => ?_) (fun h1 => ?_)
 ·rw [if_neg h1,if_neg h1]
  exact ah (by simp)
 ·have h1:(idx h.Txns (t:Int)).Status=1:=Decidable.of_not_not h1
  rw [if_pos h1,if_pos h1]
  generalize hx:(idx h.Txns (t:Int)).Ops=ops at ho ⊢;obtain ⟨a4,hall⟩:=ho;refine dP (k0:=0) ops.length (fun k s=>s.1=f.asks++wW ops (t:Int) k∧s.2.1=f.bad++xH ops (t:Int) k∧(∀ key,mat s.2.2.1 key=yg ops key k)∧s.2.2.2=(k:Int)) (Nat.zero_le _)
   ⟨by simp [wW],by simp [xH],fun key=>rfl,rfl⟩ ?_
  rintro k ⟨l1,l2,m,x⟩ hk ⟨e1,e2,hm,e4⟩
  dsimp only at e1 e2 hm e4
  subst e1 e2 e4;unfold qy mq mo iV
  simp only [cond_true,cond_false,hx,hm]
  have hw:w64 ((k:Int) + 1)=((k + 1:Nat):Int):=bA (by omega);have l1:=FY (ops:=ops) (t:=(t:Int)) (k:=k);have l2:=EE (ops:=ops) (t:=(t:Int)) (k:=k);have l3:=CU (ops:=ops) (key:=(idx ops (k:Int)).Key) (p:=k);have hn:∀ key,k < ops.length→yg ops key (k + 1)=_:=fun key hk=>Eb hk
  rw [hw]
  refine aA (fun a2 => ?_) (fun a2 => ?_)
  ·have a1:k < ops.length:=by omega
   obtain ⟨o1,o2,o3⟩:=hall k a1;have a3:w64 ((idx ops (k:Int)).Kind - 4)=(idx ops (k:Int)).Kind - 4:=bI (by omega) (by omega);have hbf:=CP ((idx ops (k:Int)).Kind - 4) (s:=(idx ops (k:Int)).Vals) (args:=yg ops (idx ops (k:Int)).Key k) (by omega) (by omega);have hcl:gQ (idx ops (k:Int)).Vals=some (idx ops (k:Int)).Vals:=jg _ (by omega)
   rw [a3,hbf,hcl]
   simp only [List.length_append]
   have hA:=ED (ops:=ops) (t:=(t:Int)) (k:=k);have hB:=CV (ops:=ops) (t:=(t:Int)) (k:=k);have hnil:∀ l:List Int,l=[]↔l.length=0:=fun l=>List.length_eq_zero_iff.symm;unfold EC at hA;unfold FX at hB
   dsimp only at hA hB
   repeat' (first | contradiction | with_reducible refine aA (fun hq => ?_) (fun hq => ?_) | with_reducible refine ak (by first | omega | grind [bI]) ?_ | with_reducible refine aB ?_ | with_reducible refine cK ?_ | with_reducible refine dV ?_ | with_reducible refine dW ?_ | with_reducible refine dX ?_ | with_reducible refine ah ?_)
   all_goals (refine ⟨a1,?_,?_,fun key => ?_,rfl⟩ <;> dsimp only)
   all_goals grind [qY]
  ·have:k=ops.length:=by omega
   subst this
   repeat' (first | contradiction | with_reducible refine aA (fun hq => ?_) (fun hq => ?_) | with_reducible refine ak (by first | omega | grind [bI]) ?_ | with_reducible refine aB ?_ | with_reducible refine cK ?_ | with_reducible refine dV ?_ | with_reducible refine dW ?_ | with_reducible refine dX ?_ | with_reducible refine ah ?_)
   rfl
end Go.Proofs.YtfpeabnehpclnaaGreatT
namespace Go.Proofs.YtfpeabnehpclnaaGreatT
open Go Go.Proofs Go.Proofs.YtfpeabnehpclnaaGreatE
set_option linter.unusedVariables false
set_option linter.unusedSimpArgs false
theorem Hy {a b:List Int} (ha:a.length < 2 ^ 62):eT a b=some (decide (a=b)):=by
 refine Bl.1 ?_;unfold eT;refine aA (fun h => ?_) (fun h => ?_)
 ·refine ah ?_;have:a≠b:=by rintro rfl; exact h rfl
  simp [this]
 ·have hl:a.length=b.length:=by grind
  refine qm a.length (fun j=>idx a (j:Int)=idx b (j:Int)) ?_;intro k hk hJ;have hw:w64 ((k:Int) + 1)=((k + 1:Nat):Int):=bA (by omega);have hx:(∀ j:Nat,j < a.length→idx a (j:Int)=idx b (j:Int))→a=b:=fun h=>Lr hl h;unfold mR
  dsimp only
  rw [hw]
  repeat' (first | contradiction | with_reducible refine aA (fun hq => ?_) (fun hq => ?_) | with_reducible refine ak (by first | omega | grind [bI]) ?_ | with_reducible refine aB ?_ | with_reducible refine cK ?_ | with_reducible refine dV ?_ | with_reducible refine dW ?_ | with_reducible refine dX ?_ | with_reducible refine ah ?_)
  ·show false=true↔a=b
   grind
  ·exact ⟨rfl,by omega,by grind⟩
  ·show true=true↔a=b
   grind
end Go.Proofs.YtfpeabnehpclnaaGreatT
namespace Go.Proofs.YtfpeabnehpclnaaGreatT
open Go Go.Proofs Go.Proofs.YtfpeabnehpclnaaGreatE
set_option linter.unusedVariables false
set_option linter.unusedSimpArgs false
abbrev OG (y:Op):Prop:=((Lit.int .i64 (y).Kind).wf=true)∧((Lit.int .i64 (y).Key).wf=true)∧((Lit.int .i64 (y).Arg).wf=true)∧(True)∧((∀ z ∈ (y).Vals,(Lit.int .i64 z).wf=true)∧((y).Vals).length * 8≤140737488351232)
abbrev TG (y:Txn):Prop:=((Lit.int .i64 (y).Proc).wf=true)∧((Lit.int .i64 (y).Status).wf=true)∧((Lit.int .i64 (y).From).wf=true)∧((Lit.int .i64 (y).To).wf=true)∧((∀ z ∈ (y).Ops,OG z)∧((y).Ops).length * 56≤140737488351232)
abbrev HG (K:ByteArray→Prop) (x:History):Prop:=((∀ y ∈ (x).Keys,K y)∧((x).Keys).length * 16≤140737488351232)∧((∀ y ∈ (x).Txns,TG y)∧((x).Txns).length * 56≤140737488351232)
theorem HG.small {K:ByteArray→Prop} {h:History} (g:HG K h):oq h :=
 ⟨g.1.2,g.2.2,AL.2 fun t ht=>⟨(g.2.1 t ht).2.2.2.2.2,AL.2 fun o ho=>((g.2.1 t ht).2.2.2.2.1 o ho).2.2.2.2.2⟩⟩
theorem Jn {h:History} {t:Nat} (ho:QD (idx h.Txns (t:Int)).Ops):(yh h (t:Int)).length≤16∧(Bf h (t:Int)).length≤16∧xx (yh h (t:Int)) (fun x=>x.Base.length < 2 ^ 62):=by
 have h1:=FY (ops:=(idx h.Txns (t:Int)).Ops) (t:=(t:Int)) (k:=(idx h.Txns (t:Int)).Ops.length);have h2:=EE (ops:=(idx h.Txns (t:Int)).Ops) (t:=(t:Int)) (k:=(idx h.Txns (t:Int)).Ops.length);have h3:=ho.1;refine ⟨?_,?_,?_⟩
 ·unfold yh; split
  ·omega
  ·simp
 ·unfold Bf; split
  ·omega
  ·simp
 ·rw [AL]
  intro x hx;unfold yh at hx
  split at hx
  ·unfold wW at hx
   rw [List.mem_flatMap] at hx
   obtain ⟨p,hp,hx⟩:=hx;have hp:p < _:=List.mem_range.1 hp;have hv:=(ho.2 p hp).2.2;have hb:=Jk ((idx (idx h.Txns (t:Int)).Ops (p:Int)).Kind - 4) (idx (idx h.Txns (t:Int)).Ops (p:Int)).Vals (yg (idx h.Txns (t:Int)).Ops (idx (idx h.Txns (t:Int)).Ops (p:Int)).Key p);unfold EC at hx
   dsimp only at hx
   split at hx
   ·simp at hx
   ·split at hx
    ·simp at hx; subst hx; dsimp only; omega
    ·split at hx
     ·simp at hx; subst hx; dsimp only; omega
     ·simp at hx
  ·simp at hx
end Go.Proofs.YtfpeabnehpclnaaGreatT
namespace Go.Proofs.YtfpeabnehpclnaaGreatT
open Go Go.Proofs Go.Proofs.YtfpeabnehpclnaaGreatE
set_option linter.unusedVariables false
set_option linter.unusedSimpArgs false
def bG (h:History) (k:Nat):List Ask:=(List.range k).flatMap (fun t=>yh h ((t:Nat):Int))
def nP (h:History) (k:Nat):List Spot:=(List.range k).flatMap (fun t=>Bf h ((t:Nat):Int))
theorem CW {h:History} {k:Nat}:bG h (k + 1)=bG h k++yh h (k:Int):=by
 unfold bG; rw [List.range_succ,List.flatMap_append]; simp
theorem BL {h:History} {k:Nat}:nP h (k + 1)=nP h k++Bf h (k:Int):=by
 unfold nP; rw [List.range_succ,List.flatMap_append]; simp
theorem rO {h:History} (hS:eU h):∀ k:Nat,k≤h.Txns.length→(bG h k).length≤16 * k∧(nP h k).length≤16 * k∧xx (bG h k) (fun x=>x.Base.length < 2 ^ 62):=by
 intro k
 induction k with
 | zero=>intro _; simp [bG,nP,xx]
 | succ k ih =>
  intro hk;obtain ⟨i1,i2,i3⟩:=ih (by omega);obtain ⟨b1,b2,b3⟩:=Jn (hS.txn k (by omega)).ops
  rw [CW,BL,List.length_append,List.length_append]
  refine ⟨by omega,by omega,?_⟩
  rw [AL] at i3 b3 ⊢
  intro x hx;rcases List.mem_append.1 hx with hx | hx
  ·exact i3 x hx
  ·exact b3 x hx
theorem CX {h:History} (hs:oq h) (hS:eU h) (hc:aF h=some 0):mJ h=some (⟨bG h h.Txns.length,nP h h.Txns.length⟩,0):=by
 have a3:=hS.len;refine fw.1 ?_;unfold mJ;refine aV hc ?_
 rw [bne_self_eq_false,cond_false]
 refine dP (k0:=0) h.Txns.length (fun k s=>s=(bG h k,nP h k,(k:Int))) (Nat.zero_le _) rfl ?_;rintro k s hk rfl;have hw:w64 ((k:Int) + 1)=((k + 1:Nat):Int):=bA (by omega);obtain ⟨i1,i2,i3⟩:=rO hS k hk;unfold yN
 dsimp only
 refine aA (fun a2 => ?_) (fun a2 => ?_)
 ·have a1:k < h.Txns.length:=by omega
  refine dK (OV a1 (hS.txn k a1).ops (by dsimp only; omega) (by dsimp only; omega)) (fun r hr => ?_);subst hr;refine ah ⟨a1,?_⟩
  dsimp only
  rw [hw,CW,BL]
 ·have:k=h.Txns.length:=by omega
  subst this;exact aB (ah rfl)
end Go.Proofs.YtfpeabnehpclnaaGreatT
namespace Go.Proofs.YtfpeabnehpclnaaGreatT
open Go Go.Proofs Go.Proofs.YtfpeabnehpclnaaGreatE
set_option linter.unusedVariables false
set_option linter.unusedSimpArgs false
def iq (h:History) (t:Int) (key:Int):List Int:=yg (idx h.Txns t).Ops key (idx h.Txns t).Ops.length
theorem EF {h:History} {t key:Int}:(iq h t key).length≤(idx h.Txns t).Ops.length:=CU
theorem FZ {x:Txn} {key:Int} (ho:x.Ops.length≤16):fu x key=some (yg x.Ops key x.Ops.length):=by
 refine fw.1 ?_;unfold fu;refine dP (k0:=0) x.Ops.length (fun k s=>s=(yg x.Ops key k,(k:Int))) (Nat.zero_le _) rfl ?_;rintro k s hk rfl;have hw:w64 ((k:Int) + 1)=((k + 1:Nat):Int):=bA (by omega);have l3:=CU (ops:=x.Ops) (key:=key) (p:=k);have hn:k < x.Ops.length→yg x.Ops key (k + 1)=_:=fun hk=>Eb hk;unfold wG sj si
 dsimp only
 rw [hw]
 refine aA (fun a2 => ?_) (fun a2 => ?_)
 ·have a1:k < x.Ops.length:=by omega
  replace hn:=hn a1
  repeat' (first | contradiction | with_reducible refine aA (fun hq => ?_) (fun hq => ?_) | with_reducible refine ak (by first | omega | grind [bI]) ?_ | with_reducible refine aB ?_ | with_reducible refine cK ?_ | with_reducible refine dV ?_ | with_reducible refine dW ?_ | with_reducible refine dX ?_ | with_reducible refine ah ?_)
  all_goals (refine ⟨a1,?_⟩; dsimp only; grind)
 ·have:k=x.Ops.length:=by omega
  subst this
  repeat' (first | contradiction | with_reducible refine aA (fun hq => ?_) (fun hq => ?_) | with_reducible refine ak (by first | omega | grind [bI]) ?_ | with_reducible refine aB ?_ | with_reducible refine cK ?_ | with_reducible refine dV ?_ | with_reducible refine dW ?_ | with_reducible refine dX ?_ | with_reducible refine ah ?_)
  all_goals rfl
theorem ze {h:History} {t key:Int} (ht:0≤t∧t < (h.Txns.length:Int)) (ho:(idx h.Txns t).Ops.length≤16):aZ h t key=some (iq h t key):=by
 refine fw.1 ?_;unfold aZ iq;generalize hx:(idx h.Txns t).Ops=ops at ho ⊢;refine dP (k0:=0) ops.length (fun k s=>s=(yg ops key k,(k:Int))) (Nat.zero_le _) rfl ?_;rintro k s hk rfl;have hw:w64 ((k:Int) + 1)=((k + 1:Nat):Int):=bA (by omega);have l3:=CU (ops:=ops) (key:=key) (p:=k);have hn:k < ops.length→yg ops key (k + 1)=_:=fun hk=>Eb hk;unfold uU pO pM wM
 simp only [hx,hw,Option.bind_some]
 refine ak ht ?_;refine aA (fun a2 => ?_) (fun a2 => ?_)
 ·have a1:k < ops.length:=by omega
  replace hn:=hn a1
  repeat' (first | contradiction | with_reducible refine aA (fun hq => ?_) (fun hq => ?_) | with_reducible refine ak (by first | omega | grind [bI]) ?_ | with_reducible refine aB ?_ | with_reducible refine cK ?_ | with_reducible refine dV ?_ | with_reducible refine dW ?_ | with_reducible refine dX ?_ | with_reducible refine ah ?_)
  all_goals (refine ⟨a1,?_⟩; dsimp only; grind)
 ·have:k=ops.length:=by omega
  subst this
  repeat' (first | contradiction | with_reducible refine aA (fun hq => ?_) (fun hq => ?_) | with_reducible refine ak (by first | omega | grind [bI]) ?_ | with_reducible refine aB ?_ | with_reducible refine cK ?_ | with_reducible refine dV ?_ | with_reducible refine dW ?_ | with_reducible refine dX ?_ | with_reducible refine ah ?_)
  all_goals rfl
def Kw (h:History) (key:Int) (t:Nat):Bool:=decide ((idx h.Txns (t:Int)).Status≠2∧0 < (iq h (t:Int) key).length)
def iN (h:History) (key:Int) (k:Nat):List Int:=((List.range k).filter (Kw h key)).map (fun t:Nat=>(t:Int))
def ky (h:History) (a:Ask) (k:Nat):List Int:=(iN h a.Key k).filter (fun t=>decide (t≠a.Txn))
theorem Aj {h:History} {key:Int} {k:Nat}:iN h key (k + 1)=if Kw h key k then iN h key k++[(k:Int)] else iN h key k:=by
 unfold iN
 rw [List.range_succ,List.filter_append,List.map_append]
 by_cases hw:Kw h key k=true <;> simp [hw]
theorem qL {h:History} {key:Int} {k:Nat}:(iN h key k).length≤k:=by
 unfold iN
 rw [List.length_map]
 exact Nat.le_trans (List.length_filter_le _ _) (by simp)
theorem Hz {h:History} {a:Ask} {k:Nat}:ky h a (k + 1)=if Kw h a.Key k∧(k:Int)≠a.Txn then ky h a k++[(k:Int)] else ky h a k:=by
 unfold ky
 rw [Aj]
 by_cases hw:Kw h a.Key k=true <;> by_cases hn:(k:Int)=a.Txn <;> simp [hw,hn]
theorem vZ {h:History} {a:Ask} {k:Nat}:(ky h a k).length≤k:=Nat.le_trans (List.length_filter_le _ _) qL
theorem xI {h:History} {key:Int} {k:Nat} {t:Int}:t ∈ iN h key k↔0≤t∧t < (k:Int)∧(idx h.Txns t).Status≠2∧0 < (iq h t key).length:=by
 unfold iN
 simp only [List.mem_map,List.mem_filter,List.mem_range,Kw,decide_eq_true_eq]
 constructor
 ·rintro ⟨n,⟨hn,h1,h2⟩,rfl⟩;exact ⟨by omega,by omega,h1,h2⟩
 ·rintro ⟨h0,h1,h2,h3⟩;refine ⟨t.toNat,⟨by omega,?_⟩,by omega⟩
  rw [show ((t.toNat:Nat):Int)=t by omega]
  exact ⟨h2,h3⟩
theorem ma {h:History} {a:Ask} {k:Nat} {t:Int}:t ∈ ky h a k↔(0≤t∧t < (k:Int)∧(idx h.Txns t).Status≠2∧0 < (iq h t a.Key).length)∧t≠a.Txn:=by
 unfold ky
 rw [List.mem_filter,xI,decide_eq_true_eq]
theorem CY {h:History} (hS:eU h) (hc:aF h=some 0) {key:Int}:ed h key=some (iN h key h.Txns.length):=by
 have a3:=hS.len;refine fw.1 ?_;unfold ed;refine aV hc ?_
 rw [bne_self_eq_false,cond_false]
 refine dP (k0:=0) h.Txns.length (fun k s=>s=(iN h key k,(k:Int))) (Nat.zero_le _) rfl ?_;rintro k s hk rfl;have hw:w64 ((k:Int) + 1)=((k + 1:Nat):Int):=bA (by omega);have l3:=qL (h:=h) (key:=key) (k:=k);have hn:=Aj (h:=h) (key:=key) (k:=k);unfold Kw iq at hn;unfold uj qa pY
 dsimp only
 rw [hw]
 refine aA (fun a2 => ?_) (fun a2 => ?_)
 ·have a1:k < h.Txns.length:=by omega
  have hwt:=FZ (x:=idx h.Txns (k:Int)) (key:=key) (hS.txn k a1).ops.1
  simp only [hwt,Option.bind_some]
  repeat' (first | contradiction | with_reducible refine aA (fun hq => ?_) (fun hq => ?_) | with_reducible refine ak (by first | omega | grind [bI]) ?_ | with_reducible refine aB ?_ | with_reducible refine cK ?_ | with_reducible refine dV ?_ | with_reducible refine dW ?_ | with_reducible refine dX ?_ | with_reducible refine ah ?_)
  all_goals (refine ⟨a1,?_⟩; dsimp only; grind)
 ·have:k=h.Txns.length:=by omega
  subst this
  repeat' (first | contradiction | with_reducible refine aA (fun hq => ?_) (fun hq => ?_) | with_reducible refine ak (by first | omega | grind [bI]) ?_ | with_reducible refine aB ?_ | with_reducible refine cK ?_ | with_reducible refine dV ?_ | with_reducible refine dW ?_ | with_reducible refine dX ?_ | with_reducible refine ah ?_)
  all_goals rfl
theorem Ak {h:History} (hS:eU h) {a:Ask}:bq h a=some (ky h a h.Txns.length):=by
 have a3:=hS.len;refine fw.1 ?_;unfold bq;refine dP (k0:=0) h.Txns.length (fun k s=>s=(ky h a k,(k:Int))) (Nat.zero_le _) rfl ?_;rintro k s hk rfl;have hw:w64 ((k:Int) + 1)=((k + 1:Nat):Int):=bA (by omega);have l3:=vZ (h:=h) (a:=a) (k:=k);have hn:=Hz (h:=h) (a:=a) (k:=k);unfold Kw at hn;unfold tT kJ nY
 dsimp only
 rw [hw]
 refine aA (fun a2 => ?_) (fun a2 => ?_)
 ·have a1:k < h.Txns.length:=by omega
  have hwt:=ze (h:=h) (t:=(k:Int)) (key:=a.Key) ⟨by omega,by omega⟩ (hS.txn k a1).ops.1
  simp only [hwt,Option.bind_some]
  repeat' (first | contradiction | with_reducible refine aA (fun hq => ?_) (fun hq => ?_) | with_reducible refine ak (by first | omega | grind [bI]) ?_ | with_reducible refine aB ?_ | with_reducible refine cK ?_ | with_reducible refine dV ?_ | with_reducible refine dW ?_ | with_reducible refine dX ?_ | with_reducible refine ah ?_)
  all_goals (refine ⟨a1,?_⟩; dsimp only; grind)
 ·have:k=h.Txns.length:=by omega
  subst this
  repeat' (first | contradiction | with_reducible refine aA (fun hq => ?_) (fun hq => ?_) | with_reducible refine ak (by first | omega | grind [bI]) ?_ | with_reducible refine aB ?_ | with_reducible refine cK ?_ | with_reducible refine dV ?_ | with_reducible refine dW ?_ | with_reducible refine dX ?_ | with_reducible refine ah ?_)
  all_goals rfl
theorem Mr {h:History} (hS:eU h) (hc:aF h=some 0) {t key:Int}:jv h t key =
  some (if 0≤t∧t < (h.Txns.length:Int) then (iq h t key,decide (0 < (iq h t key).length)) else ([],false)):=by
 refine fw.1 ?_;unfold jv oZ
 simp only [hc,Option.bind_some]
 by_cases ht:0≤t∧t < (h.Txns.length:Int)
 ·have h2:t=((t.toNat:Nat):Int):=by omega
  have ho:=(hS.txn t.toNat (by omega)).ops.1
  rw [← h2] at ho
  have hwt:=FZ (x:=idx h.Txns t) (key:=key) ho
  simp only [hwt,Option.bind_some]
  rw [if_pos ht]
  unfold iq
  repeat' (first | contradiction | with_reducible refine aA (fun hq => ?_) (fun hq => ?_) | with_reducible refine ak (by first | omega | grind [bI]) ?_ | with_reducible refine aB ?_ | with_reducible refine cK ?_ | with_reducible refine dV ?_ | with_reducible refine dW ?_ | with_reducible refine dX ?_ | with_reducible refine ah ?_)
  all_goals (first | omega | simp)
 ·rw [if_neg ht]
  repeat' (first | contradiction | with_reducible refine aA (fun hq => ?_) (fun hq => ?_) | with_reducible refine ak (by first | omega | grind [bI]) ?_ | with_reducible refine aB ?_ | with_reducible refine cK ?_ | with_reducible refine dV ?_ | with_reducible refine dW ?_ | with_reducible refine dX ?_ | with_reducible refine ah ?_)
  all_goals (first | omega | rfl | simp)
def Al (h:History) (a:Ask) (l:List Int):List aS:=l.map (fun t=>⟨t,iq h t a.Key⟩)
theorem Am {h:History} (hS:eU h) (hc:aF h=some 0) {a:Ask}:dw h a=some (Al h a (ky h a h.Txns.length)):=by
 have a3:=hS.len;refine fw.1 ?_;unfold dw;refine aV (CY hS hc) ?_;obtain ⟨W,hW⟩:∃ W,W=iN h a.Key h.Txns.length:=⟨_,rfl⟩;have hWl:=qL (h:=h) (key:=a.Key) (k:=h.Txns.length);have hWm:∀ j:Nat,j < W.length→idx W (j:Int) ∈ iN h a.Key h.Txns.length:=by
  intro j hj
  rw [← hW,dE (n:=j) (by omega) (by omega)]
  exact List.getElem_mem _
 unfold ky
 rw [← hW] at hWl ⊢
 refine dP (k0:=0) W.length (fun k s=>s=(Al h a ((W.take k).filter (fun t=>decide (t≠a.Txn))),(k:Int))) (Nat.zero_le _) (by simp [Al]) ?_;rintro k s hk rfl;have hw:w64 ((k:Int) + 1)=((k + 1:Nat):Int):=bA (by omega);have l3:(Al h a ((W.take k).filter (fun t=>decide (t≠a.Txn)))).length≤32:=by
  unfold Al
  rw [List.length_map]
  exact Nat.le_trans (List.length_filter_le _ _) (by rw [List.length_take]; omega)
 unfold uk qc qb
 dsimp only
 rw [hw]
 refine aA (fun a2 => ?_) (fun a2 => ?_)
 ·have a1:k < W.length:=by omega
  have hm:=xI.1 (hWm k a1);have hn:Al h a ((W.take (k + 1)).filter (fun t=>decide (t≠a.Txn)))=if idx W (k:Int)≠a.Txn then Al h a ((W.take k).filter (fun t=>decide (t≠a.Txn)))++[⟨idx W (k:Int),iq h (idx W (k:Int)) a.Key⟩] else Al h a ((W.take k).filter (fun t=>decide (t≠a.Txn))):=by
   rw [List.take_succ_eq_append_getElem a1,List.filter_append]
   have:W[k]=idx W (k:Int):=(dE (n:=k) (by omega) a1).symm
   rw [this]
   unfold Al
   by_cases hq:idx W (k:Int)=a.Txn <;> simp [hq]
  simp only [Mr hS hc,Option.bind_some,if_pos (show 0≤idx W (k:Int)∧idx W (k:Int) < (h.Txns.length:Int) from ⟨hm.1,hm.2.1⟩)]
  repeat' (first | contradiction | with_reducible refine aA (fun hq => ?_) (fun hq => ?_) | with_reducible refine ak (by first | omega | grind [bI]) ?_ | with_reducible refine aB ?_ | with_reducible refine cK ?_ | with_reducible refine dV ?_ | with_reducible refine dW ?_ | with_reducible refine dX ?_ | with_reducible refine ah ?_)
  all_goals (refine ⟨a1,?_⟩; dsimp only; grind)
 ·have:k=W.length:=by omega
  subst this
  repeat' (first | contradiction | with_reducible refine aA (fun hq => ?_) (fun hq => ?_) | with_reducible refine ak (by first | omega | grind [bI]) ?_ | with_reducible refine aB ?_ | with_reducible refine cK ?_ | with_reducible refine dV ?_ | with_reducible refine dW ?_ | with_reducible refine dX ?_ | with_reducible refine ah ?_)
  all_goals exact (by rw [List.take_length]:Al h a ((W.take W.length).filter (fun t=>decide (t≠a.Txn)))=Al h a (W.filter (fun t=>decide (t≠a.Txn))))
end Go.Proofs.YtfpeabnehpclnaaGreatT
namespace Go.Proofs.YtfpeabnehpclnaaGreatT
open Go Go.Proofs Go.Proofs.YtfpeabnehpclnaaGreatE
set_option linter.unusedVariables false
set_option linter.unusedSimpArgs false
def opAt (h:History) (t p:Int):Op:=idx (idx h.Txns t).Ops p
theorem NF {h:History} {n t p:Nat} (ht:t < n) (hp:p < (idx h.Txns (t:Int)).Ops.length):(yf h (opAt h (t:Int) (p:Int)),(t:Int)) ∈ vO h n:=by
 unfold vO BK eu opAt
 rw [List.mem_flatMap]
 refine ⟨t,List.mem_range.2 ht,?_⟩
 rw [List.map_map,List.mem_map]
 refine ⟨idx (idx h.Txns (t:Int)).Ops (p:Int),?_,rfl⟩
 rw [dE (n:=p) rfl hp]
 exact List.getElem_mem _
theorem QE {L:List (Call×Int)} (h:rF [] L) {e f:Call×Int} (he:e ∈ L) (hf:f ∈ L) (hk:e.1.Key=f.1.Key):typ e.1.Kind=typ f.1.Kind:=by
 obtain ⟨i,hi,rfl⟩:=List.getElem_of_mem he;obtain ⟨j,hj,rfl⟩:=List.getElem_of_mem hf;rcases Nat.lt_trichotomy i j with hij | hij | hij
 ·have:=(h j hj).1 L[i] (by rw [List.nil_append]; exact List.mem_take_iff_getElem.2 ⟨i,by omega,rfl⟩) (by rw [dE (n:=j) rfl hj]; exact hk)
  rwa [dE (n:=j) rfl hj] at this
 ·subst hij; rfl
 ·have:=(h i hi).1 L[j] (by rw [List.nil_append]; exact List.mem_take_iff_getElem.2 ⟨j,by omega,rfl⟩) (by rw [dE (n:=i) rfl hi]; exact hk.symm)
  rw [dE (n:=i) rfl hi] at this
  exact this.symm
theorem Ky {h:History} (hS:eU h) {t p t' p':Nat} (ht:t < h.Txns.length) (hp:p < (idx h.Txns (t:Int)).Ops.length) (ht':t' < h.Txns.length) (hp':p' < (idx h.Txns (t':Int)).Ops.length)
  (hk:(opAt h (t:Int) (p:Int)).Key=(opAt h (t':Int) (p':Int)).Key):typ (opAt h (t:Int) (p:Int)).Kind=typ (opAt h (t':Int) (p':Int)).Kind :=
 QE hS.ents (NF ht hp) (NF ht' hp') (by show idx h.Keys _=idx h.Keys _; rw [hk])
theorem CZ {h:History} (hS:eU h) {t p:Nat} (ht:t < h.Txns.length) (hp:p < (idx h.Txns (t:Int)).Ops.length):1≤(opAt h (t:Int) (p:Int)).Kind∧(opAt h (t:Int) (p:Int)).Kind≤8:=by
 obtain ⟨h1,h2⟩:=(hS.txn t ht).ops;have:=h2 p hp;exact ⟨this.1,this.2.1⟩
theorem Il {h:History} (hS:eU h) {a:Ask} {t p:Nat} (ht:t < h.Txns.length) (hp:p < (idx h.Txns (t:Int)).Ops.length) (e1:a.Txn=(t:Int)) (e2:a.Place=(p:Int)) :
  qh h a=some (typ (opAt h (t:Int) (p:Int)).Kind):=by
 obtain ⟨k1,k2⟩:=CZ hS ht hp;refine fw.1 ?_;unfold qh
 rw [e1,e2]
 refine ak (by omega) (ak (by omega) ?_);exact aV (Fw k1 k2) (ah rfl)
theorem Bg {h:History} (hS:eU h) (hc:aF h=some 0) {key:Int} {t0 p0:Nat} (a4:t0 < h.Txns.length) (a3:p0 < (idx h.Txns (t0:Int)).Ops.length) (a6:(opAt h (t0:Int) (p0:Int)).Key=key) :
  gq h key=some (typ (opAt h (t0:Int) (p0:Int)).Kind):=by
 have b0:=hS.len;refine fw.1 ?_;unfold gq;refine aV hc ?_
 rw [bne_self_eq_false,cond_false]
 refine dP (k0:=0) h.Txns.length (fun k s=>s=(k:Int)∧∀ t p:Nat,t < k→p < (idx h.Txns (t:Int)).Ops.length→(opAt h (t:Int) (p:Int)).Key≠key) (Nat.zero_le _) ⟨rfl,fun t p h=>absurd h (Nat.not_lt_zero _)⟩ ?_;rintro k s hk ⟨rfl,hno⟩;have hw:w64 ((k:Int) + 1)=((k + 1:Nat):Int):=bA (by omega);unfold xR;refine aA (fun a8 => ?_) (fun a8 => ?_)
 ·have a1:k < h.Txns.length:=by omega
  refine ak (by omega) ?_;have b1:=(hS.txn k a1).ops.1;refine dP (k0:=0) (idx h.Txns (k:Int)).Ops.length (fun m s=>s=(m:Int)∧∀ p:Nat,p < m→(opAt h (k:Int) (p:Int)).Key≠key) (Nat.zero_le _) ⟨rfl,fun p h=>absurd h (Nat.not_lt_zero _)⟩ ?_;rintro m s hm ⟨rfl,a5⟩;have a9:w64 ((m:Int) + 1)=((m + 1:Nat):Int):=bA (by omega);unfold xQ
  dsimp only
  rw [hw,a9]
  refine aA (fun a7 => ?_) (fun a7 => ?_)
  ·have a2:m < (idx h.Txns (k:Int)).Ops.length:=by omega
   refine ak (by omega) ?_;refine aA (fun he => ?_) (fun he => ?_)
   ·obtain ⟨k1,k2⟩:=CZ hS a1 a2;refine aV (Ai k1 k2) (aB (aB (ah ?_)));exact Ky hS a1 a2 a4 a3 ((show (opAt h (k:Int) (m:Int)).Key=key from he).trans a6.symm)
   ·refine ah ⟨a2,rfl,fun p hp => ?_⟩;rcases Nat.lt_or_ge p m with h1 | h1
    ·exact a5 p h1
    ·have:p=m:=by omega
     subst this;exact he
  ·have:m=(idx h.Txns (k:Int)).Ops.length:=by omega
   subst this;refine aB (ah ⟨a1,rfl,fun t p ht hp => ?_⟩);rcases Nat.lt_or_ge t k with h1 | h1
   ·exact hno t p h1 hp
   ·have:t=k:=by omega
    subst this;exact a5 p hp
 ·have:k=h.Txns.length:=by omega
  subst this;exact absurd a6 (hno t0 p0 a4 a3)
end Go.Proofs.YtfpeabnehpclnaaGreatT
namespace Go.Proofs.YtfpeabnehpclnaaGreatT
open Go Go.Proofs Go.Proofs.YtfpeabnehpclnaaGreatE
set_option linter.unusedVariables false
set_option linter.unusedSimpArgs false
def Kz (h:History) (key ty:Int):Prop:=∀ t p:Nat,t < h.Txns.length→p < (idx h.Txns (t:Int)).Ops.length→(opAt h (t:Int) (p:Int)).Key=key→typ (opAt h (t:Int) (p:Int)).Kind=ty
def Apart (e f:Call×Int):Prop:=e.1.Key=f.1.Key→(e.1.Kind=2∨e.1.Kind=3)→(f.1.Kind=2∨f.1.Kind=3)→e.1.Arg≠f.1.Arg
theorem Ga {L:List (Call×Int)} (h:rF [] L):L.Pairwise Apart:=by
 rw [List.pairwise_iff_getElem]
 intro i j hi hj hij hk h1 h2;have:=(h j hj).2.1
 rw [dE (n:=j) rfl hj] at this
 exact this h2 L[i] (by rw [List.nil_append]; exact List.mem_take_iff_getElem.2 ⟨i,by omega,rfl⟩) hk h1
theorem Im {h:History} {t key v:Int}:v ∈ iq h t key↔∃ o ∈ (idx h.Txns t).Ops,o.Key=key∧o.Kind≤4∧o.Arg=v:=by
 unfold iq yg
 rw [List.take_length]
 simp only [List.mem_map,List.mem_filter,decide_eq_true_eq]
 constructor
 ·rintro ⟨o,⟨h1,h2,h3⟩,h4⟩; exact ⟨o,h1,h2,h3,h4⟩
 ·rintro ⟨o,h1,h2,h3,h4⟩; exact ⟨o,⟨h1,h2,h3⟩,h4⟩
theorem UH {h:History} {t:Nat} {o:Op} (ho:o ∈ (idx h.Txns (t:Int)).Ops):∃ p:Nat,p < (idx h.Txns (t:Int)).Ops.length∧opAt h (t:Int) (p:Int)=o:=by
 obtain ⟨p,hp,rfl⟩:=List.getElem_of_mem ho;exact ⟨p,hp,dE rfl hp⟩
theorem Fx {h:History} (hS:eU h) {key ty:Int} (hty:Kz h key ty) (a1:ty=2∨ty=3) {t:Nat} (ht:t < h.Txns.length) {o:Op} (ho:o ∈ (idx h.Txns (t:Int)).Ops) (hk:o.Key=key) (h4:o.Kind≤4):o.Kind=2∨o.Kind=3:=by
 obtain ⟨p,hp,rfl⟩:=UH ho;have h1:=hty t p ht hp hk;obtain ⟨k1,k2⟩:=CZ hS ht hp;unfold typ at h1
 omega
theorem KA {h:History} (hS:eU h) {key ty:Int} (hty:Kz h key ty) (a1:ty=2∨ty=3) {t:Nat} (ht:t < h.Txns.length):(iq h (t:Int) key).Nodup:=by
 have hp:=(List.pairwise_flatMap.1 (Ga hS.ents)).1 t (List.mem_range.2 ht);unfold BK eu at hp
 rw [List.map_map,List.pairwise_map] at hp
 unfold iq yg
 rw [List.take_length]
 unfold List.Nodup
 rw [List.pairwise_map,List.pairwise_filter]
 refine List.Pairwise.imp_of_mem (fun {x y} hx hy hR => ?_) hp;intro h1 h2
 rw [decide_eq_true_eq] at h1 h2
 refine hR ?_ (Fx hS hty a1 ht hx h1.1 h1.2) (Fx hS hty a1 ht hy h2.1 h2.2)
 show idx h.Keys _=idx h.Keys _
 rw [h1.1,h2.1]
theorem KC {h:History} (hS:eU h) {key ty:Int} (hty:Kz h key ty) (a1:ty=2∨ty=3) {t u:Nat} (ht:t < h.Txns.length) (hu:u < h.Txns.length) (hn:t≠u) {v:Int}
  (h1:v ∈ iq h (t:Int) key):v ∉ iq h (u:Int) key:=by
 intro h2;have hp:=(List.pairwise_flatMap.1 (Ga hS.ents)).2;obtain ⟨o,ho,k1,k2,k3⟩:=Im.1 h1;obtain ⟨o',ho',l1,l2,l3⟩:=Im.1 h2;have a2:∀ {t u:Nat} (ht:t < h.Txns.length) (hu:u < h.Txns.length),t < u→∀ {o o':Op},o ∈ (idx h.Txns (t:Int)).Ops→o' ∈ (idx h.Txns (u:Int)).Ops→o.Key=key→o'.Key=key→o.Kind≤4→o'.Kind≤4→o.Arg≠o'.Arg:=by
  intro t u ht hu htu o o' ho ho' e1 e2 e3 e4;have:=(List.pairwise_iff_getElem.1 hp) t u (by simpa using ht) (by simpa using hu) htu
  rw [List.getElem_range,List.getElem_range] at this
  refine this (yf h o,(t:Int)) ?_ (yf h o',(u:Int)) ?_ ?_ (Fx hS hty a1 ht ho e1 e3) (Fx hS hty a1 hu ho' e2 e4)
  ·unfold BK eu; rw [List.map_map]; exact List.mem_map.2 ⟨o,ho,rfl⟩
  ·unfold BK eu; rw [List.map_map]; exact List.mem_map.2 ⟨o',ho',rfl⟩
  ·show idx h.Keys _=idx h.Keys _
   rw [e1,e2]
 rcases Nat.lt_or_gt_of_ne hn with hlt | hlt
 ·exact a2 ht hu hlt ho ho' k1 l1 k2 l2 (k3.trans l3.symm)
 ·exact a2 hu ht hlt ho' ho l1 k1 l2 k2 (l3.trans k3.symm)
structure EG (h:History) (a:Ask) (t p:Nat):Prop where
 tl:t < h.Txns.length
 pl:p < (idx h.Txns (t:Int)).Ops.length
 e1:a.Txn=(t:Int)
 e2:a.Place=(p:Int)
 e3:a.Key=(opAt h (t:Int) (p:Int)).Key
 rd:5≤(opAt h (t:Int) (p:Int)).Kind
 b64:a.Base.length≤64
 b4:typ (opAt h (t:Int) (p:Int)).Kind=4→a.Base.length=1
 b3:typ (opAt h (t:Int) (p:Int)).Kind=3→a.Base.Nodup
theorem Io {s:List Int} (h:Asc s):s.Nodup:=by
 exact (Be.1 h).imp (fun h=>by omega)
theorem Ec {h:History} (hS:eU h) {a:Ask} (ha:a ∈ bG h h.Txns.length):∃ t p,EG h a t p:=by
 unfold bG at ha;obtain ⟨t,ht,ha⟩:=List.mem_flatMap.1 ha;have ht:=List.mem_range.1 ht;unfold yh at ha
 split at ha
 case isFalse=>cases ha
 case isTrue hst =>
 unfold wW at ha;obtain ⟨p,hp,ha⟩:=List.mem_flatMap.1 ha;have hp:=List.mem_range.1 hp;refine ⟨t,p,?_⟩;obtain ⟨k1,k8⟩:=CZ hS ht hp;obtain ⟨_,_,_,_,_,hcs⟩:=hS.txn t ht;have hc:=hcs p (by simpa [BC,eu] using hp)
 dsimp only [BC,eu] at hc
 rw [zo hp] at hc
 unfold vG yf at hc
 dsimp only at hc
 unfold EC at ha
 dsimp only at ha
 have ho:idx (idx h.Txns (t:Int)).Ops (p:Int)=opAt h (t:Int) (p:Int):=rfl
 rw [ho] at ha hc
 generalize opAt h (t:Int) (p:Int)=o at ha hc k1 k8 ho;obtain ⟨c1,c8,c3,c4,c5,c6⟩:=hc;have hoo:opAt h (t:Int) (p:Int)=o:=ho
 split at ha
 ·cases ha
 ·rename_i h4
  obtain ⟨d1,d2,d3,d4⟩:=c6 (by omega);have hg:o.Got=true:=d2.2 hst;obtain ⟨f1,f2,f3,f4⟩:=d4 hg
  split at ha
  ·rw [List.mem_singleton] at ha
   subst ha;exact ⟨ht,hp,rfl,rfl,by rw [hoo],by rw [hoo]; omega,f4,fun h=>f2 (by rw [hoo] at h; unfold typ at h; omega),fun h=>Io (f3 (by rw [hoo] at h; unfold typ at h; omega))⟩
  ·split at ha
   ·rename_i hb
    rw [List.mem_singleton] at ha
    subst ha;obtain ⟨hb,h5⟩:=hb;refine ⟨ht,hp,rfl,rfl,by rw [hoo],by rw [hoo]; omega,?_,fun h => ?_,fun h => ?_⟩
    ·dsimp only
     unfold before;have:=List.length_filter_le (fun x=>decide (x ∉ yg (idx h.Txns (t:Int)).Ops o.Key p)) o.Vals
     split
     ·simp
     ·split
      ·simp
      ·split
       ·split
        ·simp; omega
        ·simp
       ·split
        ·split
         ·dsimp only; omega
         ·simp
        ·simp
    ·have h8:o.Kind=8:=by rw [hoo] at h; unfold typ at h; omega
     dsimp only
     unfold before at hb ⊢
     rw [h8] at hb ⊢
     split at hb
     ·cases hb
     ·rename_i hq
      rw [if_neg hq]
      simp
    ·have h7:o.Kind=7:=by rw [hoo] at h; unfold typ at h; omega
     have hnd:=Io (f3 h7)
     dsimp only
     unfold before
     rw [h7]
     split
     ·simp
     ·simp only [show ¬ ((7:Int) - 4=1) by omega,show ¬ ((7:Int) - 4=2) by omega,if_false]
      split
      ·split
       ·exact hnd.filter _
       ·simp
      ·rename_i h0
       exact absurd (show (7:Int) - 4=3 by omega) h0
   ·cases ha
end Go.Proofs.YtfpeabnehpclnaaGreatT
namespace Go.Proofs.YtfpeabnehpclnaaGreatT
open Go Go.Proofs Go.Proofs.YtfpeabnehpclnaaGreatE
set_option linter.unusedVariables false
set_option linter.unusedSimpArgs false
theorem Ed {α:Type} [Inhabited α] {l:List α} {k:Nat}:kP l (k:Int) (l.length:Int)=l.drop k:=by
 unfold kP
 simp
theorem Ee {l:List Int} {v:Int} (hl:l.length < 2 ^ 60):slices_Contains_int l v=some (decide (v ∈ l)):=by
 have h1:Tri (slices_Index_int l v) (fun r=>0≤r↔∃ j:Nat,j < l.length∧idx l (j:Int)=v):=by
  unfold slices_Index_int;refine qm l.length (fun j=>idx l (j:Int)≠v) ?_;intro k hk hJ;unfold qz
  dsimp only
  repeat' (first | contradiction | with_reducible refine aA (fun hq => ?_) (fun hq => ?_) | with_reducible refine ak (by first | omega | grind [bI]) ?_ | with_reducible refine aB ?_ | with_reducible refine cK ?_ | with_reducible refine dV ?_ | with_reducible refine dW ?_ | with_reducible refine dX ?_ | with_reducible refine ah ?_)
  all_goals grind [Nxt,bI]
 refine fw.1 ?_;unfold slices_Contains_int;refine dK h1 (fun r hr=>ah ?_);have:(∃ j:Nat,j < l.length∧idx l (j:Int)=v)↔v ∈ l:=by
  rw [List.mem_iff_getElem]
  constructor
  ·rintro ⟨j,hj,e⟩; exact ⟨j,hj,by rw [← e,dE (n:=j) rfl hj]⟩
  ·rintro ⟨j,hj,e⟩; exact ⟨j,hj,by rw [← e,dE (n:=j) rfl hj]⟩
 rw [decide_eq_decide]
 exact hr.trans this
theorem KD {s p:List Int} (hs:s.length < 2 ^ 60):ru s p=some (decide (p <+: s)):=by
 refine fw.1 ?_;unfold ru;refine aA (fun h => ?_) (fun h => ?_)
 ·refine ah ?_
  rw [eq_comm,decide_eq_false_iff_not]
  intro hp;have:=hp.length_le
  omega
 ·have hl:p.length≤s.length:=by omega
  refine ak (by omega) ?_;have hsv:eT (kP s (0:Int) (p.length:Int)) p=some (decide (kP s (0:Int) (p.length:Int)=p)):=Hy (by rw [pU hl,List.length_take]; omega);refine aV hsv (ah ?_)
  rw [decide_eq_decide,pU hl,List.prefix_iff_eq_take,eq_comm]
structure Parts (O:List Int) (W:Int→List Int):Prop where
 ne:∀ t ∈ O,0 < (W t).length
 ap:∀ t ∈ O,∀ u ∈ O,∀ v,v ∈ W t→v ∈ W u→t=u
 nd:∀ t ∈ O,(W t).Nodup
 ol:O.length≤32
 wl:∀ t ∈ O,(W t).length≤16
 pos:∀ t ∈ O,0≤t
theorem Gb {h:History} (hS:eU h) {a:Ask} {t p:Nat} (ha:EG h a t p) (a1:typ (opAt h (t:Int) (p:Int)).Kind=2∨typ (opAt h (t:Int) (p:Int)).Kind=3) :
  Parts (ky h a h.Txns.length) (fun t=>iq h t a.Key):=by
 have a2:=hS.len;have hty:Kz h a.Key (typ (opAt h (t:Int) (p:Int)).Kind):=fun t' p' ht' hp' hk=>Ky hS ht' hp' ha.tl ha.pl (hk.trans ha.e3);have hm:∀ u ∈ ky h a h.Txns.length,∃ n:Nat,u=(n:Int)∧n < h.Txns.length∧0 < (iq h u a.Key).length:=by
  intro u hu;obtain ⟨⟨h0,h1,_,h3⟩,_⟩:=ma.1 hu;exact ⟨u.toNat,by omega,by omega,h3⟩
 refine ⟨fun u hu => ?_,fun u hu v hv x h1 h2 => ?_,fun u hu => ?_,Nat.le_trans vZ a2,fun u hu => ?_,fun u hu=>(ma.1 hu).1.1⟩
 ·obtain ⟨n,_,_,h3⟩:=hm u hu; exact h3
 ·obtain ⟨n,rfl,hn,_⟩:=hm u hu;obtain ⟨m,rfl,hm',_⟩:=hm v hv
  by_cases hne:n=m
  ·rw [hne]
  ·exact absurd h2 (KC hS hty a1 hn hm' hne h1)
 ·obtain ⟨n,rfl,hn,_⟩:=hm u hu;exact KA hS hty a1 hn
 ·obtain ⟨n,rfl,hn,_⟩:=hm u hu;exact Nat.le_trans EF (hS.txn n hn).ops.1
section
variable {O:List Int} {W:Int→List Int}
def Da (O:List Int) (W:Int→List Int):List aS:=O.map (fun t=>⟨t,W t⟩)
theorem yB:(Da O W).length=O.length:=List.length_map _
theorem Bh {j:Nat} (hj:j < O.length):idx (Da O W) (j:Int)=⟨idx O (j:Int),W (idx O (j:Int))⟩:=zo hj
theorem fT {l:List Int} {j:Nat} (hj:j < l.length):idx l (j:Int) ∈ l:=by rw [dE (n:=j) rfl hj]; exact List.getElem_mem _
theorem xJ {l:List Int} {t:Int} (h:t ∈ l):∃ j:Nat,j < l.length∧idx l (j:Int)=t:=by
 obtain ⟨j,hj,e⟩:=List.getElem_of_mem h;exact ⟨j,hj,(dE rfl hj).trans e⟩
theorem qM {p s:List Int} (hp:p <+: s) (h0:0 < p.length):idx p 0=idx s 0:=by
 obtain ⟨r,rfl⟩:=hp;exact (lV (j:=0) h0).symm
theorem OW (hP:Parts O W) {rest:List Int} (hr:0 < rest.length):Tri (bR (Da O W) rest)
  (fun y=>(∃ j:Nat,j < O.length∧y=(j:Int)∧idx (W (idx O (j:Int))) 0=idx rest 0)∨(y = -1∧∀ t ∈ O,idx (W t) 0≠idx rest 0)):=by
 have hol:=hP.ol;unfold bR;refine dP (k0:=0) O.length (fun k s=>s=(k:Int)∧∀ j:Nat,j < k→idx (W (idx O (j:Int))) 0≠idx rest 0) (Nat.zero_le _) ⟨rfl,fun j h=>absurd h (Nat.not_lt_zero _)⟩ ?_;rintro k s hk ⟨rfl,hno⟩;have hw:w64 ((k:Int) + 1)=((k + 1:Nat):Int):=bA (by omega);unfold gM uF
 dsimp only
 rw [hw,yB]
 refine aA (fun a2 => ?_) (fun a2 => ?_)
 ·have a1:k < O.length:=by omega
  have h0:=hP.ne _ (fT a1)
  rw [Bh a1]
  refine ak (by omega) ?_
  simp only [jg _ (show 0≤(0:Int)∧(0:Int) < ((W (idx O (k:Int))).length:Int) by omega),jg _ (show 0≤(0:Int)∧(0:Int) < (rest.length:Int) by omega),Option.bind_some]
  refine aA (fun he => ?_) (fun he => ?_)
  ·exact aB (ah (.inl ⟨k,a1,rfl,he⟩))
  ·refine ah ⟨a1,rfl,fun j hj => ?_⟩;rcases Nat.lt_or_ge j k with h1 | h1
   ·exact hno j h1
   ·have:j=k:=by omega
    subst this;exact he
 ·have:k=O.length:=by omega
  subst this;refine aB (ah (.inr ⟨rfl,fun t ht => ?_⟩));obtain ⟨j,hj,rfl⟩:=xJ ht;exact hno j hj
theorem uy (hP:Parts O W) {rest:List Int} {t u:Int} (ht:t ∈ O) (hu:u ∈ O) (h1:idx (W t) 0=idx rest 0) (h2:idx (W u) 0=idx rest 0):t=u:=by
 have e1:=hP.ne t ht;have e2:=hP.ne u hu;refine hP.ap t ht u hu (idx rest 0) ?_ ?_
 ·rw [← h1]; exact fT (j:=0) e1
 ·rw [← h2]; exact fT (j:=0) e2
end
end Go.Proofs.YtfpeabnehpclnaaGreatT
