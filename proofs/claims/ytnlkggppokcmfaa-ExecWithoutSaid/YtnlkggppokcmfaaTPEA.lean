import Derived.Test.YtnlkggppokcmfaaTD
import Derived.Test.YtnlkggppokcmfaaY
import Derived.Test.YtnlkggppokcmfaaTF
namespace Go.Proofs.YtnlkggppokcmfaaT
open Go Go.Proofs Go.Proofs.YtnlkggppokcmfaaE
set_option linter.unusedVariables false
set_option linter.unusedSimpArgs false
def Upm {S Ω:Type} (n k:Nat) (J:Nat→S→Prop) (Q:Ω→Prop):S ⊕ Ω→Prop
 | .inl s'=>k < n∧J (k + 1) s'
 | .inr o=>Q o
theorem gm {S Ω:Type} {step:S→Option (S ⊕ Ω)} {Q:Ω→Prop} (n:Nat) (J:Nat→S→Prop) {s0:S} {k0:Nat} (a0:k0≤n) (h0:J k0 s0)
  (hs:∀ (k:Nat) (s:S),k≤n→J k s→Tri (step s) (Upm n k J Q)):Tri (iter step s0) Q:=by
 generalize hd:n - k0=d
 induction d using Nat.strongRecOn generalizing k0 s0 with
 | ind d ih =>
  obtain ⟨x,hx,hr⟩:=hs k0 s0 a0 h0
  rw [xE,hx]
  cases x with
  | inl s'=>exact ih (n - (k0 + 1)) (by have:=hr.1; omega) (k0:=k0 + 1) (by have:=hr.1; omega) hr.2 rfl
  | inr o=>exact ⟨o,rfl,hr⟩
def Asc (s:List Int):Prop:=∀ k:Nat,k + 1 < s.length→idx s (k:Int) < idx s ((k + 1:Nat):Int)
instance (s:List Int):Decidable (Asc s):=by
 unfold Asc;exact decidable_of_iff (∀ k,k < s.length→k + 1 < s.length→idx s (k:Int) < idx s ((k + 1:Nat):Int)) ⟨fun h k hk=>h k (by omega) hk,fun h k _ hk=>h k hk⟩
theorem jh {s:List Int} {k:Nat} (h:k < s.length):idx s (k:Int)=s[k]:=dD rfl h
theorem tq {s:List Int}:Asc s↔s.Pairwise (· < ·):=by
 rw [List.pairwise_iff_getElem]
 constructor
 ·intro h i j hi hj hij
  induction j with
  | zero=>omega
  | succ j ih =>
   have h1:=h j hj
   rw [jh (by omega),jh hj] at h1
   rcases Nat.lt_or_ge i j with h2 | h2
   ·exact Int.lt_trans (ih (by omega) h2) h1
   ·have:i=j:=by omega
    subst this;exact h1
 ·intro h k hk
  rw [jh (by omega),jh hk]
  exact h k (k + 1) (by omega) hk (by omega)
def SOk (t:Int) (s:List Int):Bool:=(t == 1 && decide (s.length≤1)) || (t == 2 && decide (s.length≤64)) || (t == 3 && decide (Asc s) && decide (s.length≤64)) || (t == 4 && s.length == 1)
def chk (t:Int) (s:List Int):Int:=if 1≤t∧t≤4 then (if SOk t s then 0 else 80) else 1
theorem nk {k:Nat} (h:k < 2 ^ 62) (h1:1≤k):w64 ((k:Int) - 1)=((k - 1:Nat):Int):=by
 rw [qI (by omega) (by omega)]; omega
theorem xM {s:List Int} (hs:s.length < 2 ^ 62):ed () s=some (decide (Asc s) && decide (s.length≤64)):=by
 unfold ed;refine kR.1 ?_;refine gm (k0:=1) (s.length + 1) (fun k x=>x=(k:Int)∧1≤k∧∀ j:Nat,j + 1 < k→j + 1 < s.length→idx s (j:Int) < idx s ((j + 1:Nat):Int)) (by omega) ⟨rfl,Nat.le_refl _,fun j h=>by omega⟩ ?_
 rintro k x hk ⟨rfl,a0,hJ⟩;unfold kP;refine mK (fun h => ?_) (fun h => ?_)
 ·have h:(k:Int) < s.length:=of_decide_eq_true h;have e:=nk (k:=k) (by omega) a0;refine au (by rw [e]; omega) (au (by omega) (mK (fun h2 => ?_) (fun h2 => ?_)))
  ·have h2:idx s (k:Int)≤idx s (w64 ((k:Int) - 1)):=of_decide_eq_true h2
   rw [e] at h2
   refine aC (ai ?_)
   show false=_
   have hn:¬ Asc s:=by
    intro hA;have:=hA (k - 1) (by omega)
    rw [show k - 1 + 1=k by omega] at this
    omega
   simp [hn]
  ·have h2:¬ idx s (k:Int)≤idx s (w64 ((k:Int) - 1)):=of_decide_eq_false h2
   rw [e] at h2
   refine ⟨_,rfl,by omega,bW (by omega),by omega,fun j hj hl => ?_⟩
   rcases Nat.lt_or_ge (j + 1) k with h3 | h3
   ·exact hJ j h3 hl
   ·have:j=k - 1:=by omega
    subst this
    rw [show k - 1 + 1=k by omega]
    omega
 ·have h:¬ (k:Int) < s.length:=of_decide_eq_false h;refine aC (ai ?_)
  show decide ((s.length:Int)≤64)=_
  have hA:Asc s:=fun j hj=>hJ j (by omega) hj
  simp only [hA,decide_true,Bool.true_and]
  congr 1
  exact propext ⟨fun h=>by omega,fun h=>by omega⟩
theorem Cm {t:Int} {s:List Int} (h:1≤t∧t≤4):chk t s=if SOk t s then 0 else 80:=if_pos h
theorem four {t:Int} (h:1≤t∧t≤4):t=1∨t=2∨t=3∨t=4:=by omega
theorem GR {s:List Int} {n:Nat}:decide ((s.length:Int)≤(n:Int))=decide (s.length≤n):=by
 congr 1
 exact propext ⟨fun h=>by omega,fun h=>by omega⟩
theorem zf {t:Int} (h:¬ (1≤t∧t≤4)):iy t=some (-1):=by
 have e1:(t == 1)=false:=by rw [beq_eq_false_iff_ne]; omega
 have e2:(t == 2)=false:=by rw [beq_eq_false_iff_ne]; omega
 have e3:(t == 3)=false:=by rw [beq_eq_false_iff_ne]; omega
 have e4:(t == 4)=false:=by rw [beq_eq_false_iff_ne]; omega
 simp [iy,e1,e2,e3,e4]
theorem wz (t:Int) {s:List Int} (hs:s.length < 2 ^ 62):iB t s=some (chk t s):=by
 by_cases ht:1≤t∧t≤4
 ·rw [Cm ht]
  rcases four ht with rfl | rfl | rfl | rfl
  ·have:=GR (s:=s) (n:=1)
   simp only [Int.cast_ofNat_Int] at this
   simp [iB,iy,iA,SOk]
   by_cases h:s.length≤1
   ·have h':(s.length:Int)≤1:=by omega
    simp [h,h']
   ·have h':¬ (s.length:Int)≤1:=by omega
    simp [h,h']
  ·simp [iB,iy,ko,SOk]
   by_cases h:s.length≤64
   ·have h':(s.length:Int)≤64:=by omega
    simp [h,h']
   ·have h':¬ (s.length:Int)≤64:=by omega
    simp [h,h']
  ·simp [iB,iy,xM hs,SOk]
   by_cases h:Asc s <;> by_cases h':s.length≤64 <;> simp [h,h']
  ·simp [iB,iy,iN,SOk]
   by_cases h:s.length=1
   ·have h':(s.length:Int)=1:=by omega
    simp [h,h']
   ·have h':((s.length:Int) == 1)=false:=by rw [beq_eq_false_iff_ne]; omega
    simp [h,h']
 ·rw [chk,if_neg ht]
  simp [iB,zf ht]
def lb (s:List Int) (a:Int):Nat:=s.findIdx (fun x=>decide (a≤x))
def hit (s:List Int) (a:Int):Bool:=decide (lb s a < s.length) && (idx s (lb s a:Int) == a)
def ins (s:List Int) (a:Int):List Int:=s.take (lb s a)++((if hit s a then [] else [a])++s.drop (lb s a))
theorem Dk (s:List Int) (a:Int):lb s a≤s.length:=List.findIdx_le_length
theorem Gx {s:List Int} {a:Int} {k:Nat} (h:k < lb s a):idx s (k:Int) < a:=by
 have h1:k < s.length:=Nat.lt_of_lt_of_le h (Dk s a)
 rw [jh h1]
 have:=List.not_of_lt_findIdx (p:=fun x=>decide (a≤x)) (xs:=s) h
 simpa using this
theorem Gy {s:List Int} {a:Int} (h:lb s a < s.length):a≤idx s (lb s a:Int):=by
 rw [jh h]
 have:=List.findIdx_getElem (p:=fun x=>decide (a≤x)) (xs:=s) (w:=h);exact of_decide_eq_true this
theorem FQ {s:List Int} {a:Int} {i:Nat} (hi:i≤s.length) (h1:∀ k:Nat,k < i→idx s (k:Int) < a) (h2:i < s.length→a≤idx s (i:Int)):lb s a=i:=by
 rcases Nat.lt_trichotomy (lb s a) i with h | h | h
 ·have:=Gy (s:=s) (a:=a) (by omega);have:=h1 _ h
  omega
 ·exact h
 ·have h3:=Gx h;have:=h2 (by have:=Dk s a; omega)
  omega
theorem ER {i j:Nat} (hi:i < 2 ^ 62) (hj:j < 2 ^ 62):w64 (ul .u64 (IntKind.wrap .u64 (w64 ((i:Int) + (j:Int)))) (1:Int))=(((i + j) / 2:Nat):Int):=by
 have e1:w64 ((i:Int) + (j:Int))=((i + j:Nat):Int):=by rw [qI (by omega) (by omega)]; omega
 rw [e1,wrap_u64 (by omega),Ag (n:=1) (i:=(1:Int)) rfl (by omega),qI (by omega) (by omega)]
 simp [Nat.shiftRight_eq_div_pow]
theorem Cn (a b:Int):jP a b=some (decide (a < b)):=by simp [jP,jo]
theorem zO {s:List Int} (a:Int) (hA:Asc s) (hs:s.length < 2 ^ 62):aT s a=some ((lb s a:Int),hit s a):=by
 unfold aT;refine kR.1 ?_;have hP:=List.pairwise_iff_getElem.1 (tq.1 hA);have hmono:∀ p q:Nat,p≤q→q < s.length→idx s (p:Int)≤idx s (q:Int):=by
  intro p q hpq hq;rcases Nat.lt_or_ge p q with h | h
  ·rw [jh (by omega),jh hq]
   exact Int.le_of_lt (hP p q (by omega) hq h)
  ·have:p=q:=by omega
   subst this;exact Int.le_refl _
 refine xX (fun x:Int×Int=>∃ i j:Nat,x=((i:Int),(j:Int))∧i≤j∧j≤s.length∧(∀ k:Nat,k < i→idx s (k:Int) < a)∧(j < s.length→a≤idx s (j:Int))) (fun x=>x.2.toNat - x.1.toNat)
  ⟨0,s.length,rfl,by omega,by omega,fun k h=>by omega,fun h=>by omega⟩ ?_
 rintro _ ⟨i,j,rfl,hij,hj,h1,h2⟩;unfold gq;refine mK (fun h => ?_) (fun h => ?_)
 ·have h:(i:Int) < j:=of_decide_eq_true h;have e:=ER (i:=i) (j:=j) (by omega) (by omega)
  rw [e]
  refine au (by decide) (au (by omega) ?_)
  rw [Cn]
  show Tri (bif decide _ then _ else _) _
  have hm:(i + j) / 2 < j:=by omega
  have a0:i≤(i + j) / 2:=by omega
  generalize (i + j) / 2=m at hm a0;refine mK (fun h3 => ?_) (fun h3 => ?_)
  ·have h3:idx s (m:Int) < a:=of_decide_eq_true h3;refine ⟨_,rfl,⟨m + 1,j,by rw [bW (by omega)],by omega,hj,fun k hk => ?_,h2⟩,?_⟩
   ·exact Int.lt_of_le_of_lt (hmono k m (by omega) (by omega)) h3
   ·rw [bW (by omega)]; simp only [Int.toNat_natCast]; omega
  ·have h3:¬ idx s (m:Int) < a:=of_decide_eq_false h3;refine ⟨_,rfl,⟨i,m,rfl,a0,by omega,h1,fun _=>by omega⟩,?_⟩
   simp only [Int.toNat_natCast]; omega
 ·have h:¬ (i:Int) < j:=of_decide_eq_false h;have hji:j=i:=by omega
  subst hji;have hl:lb s a=j:=FQ hj h1 h2;refine mK (fun h3 => ?_) (fun h3 => ?_)
  ·have h3:(j:Int) < s.length:=of_decide_eq_true h3;have hlt:j < s.length:=by omega
   refine au (by omega) (mK (fun h4 => ?_) (fun h4 => ?_))
   ·refine aC (ai ?_)
    simp [Rnd,hl,hit,hlt,h4]
   ·simp only [gK,Option.bind_some,bne_self_eq_false,cond_false]
    refine aC (ai ?_)
    simp [Rnd,hl,hit,hlt,h4]
  ·have h3:¬ (j:Int) < s.length:=of_decide_eq_false h3;have hlt:¬ j < s.length:=by omega
   refine aC (ai ?_)
   simp [Rnd,hl,hit,hlt]
theorem ES {s:List Int} {a:Int} (hA:Asc s):hit s a=true↔a ∈ s:=by
 unfold hit
 simp only [Bool.and_eq_true,decide_eq_true_eq,beq_iff_eq]
 constructor
 ·rintro ⟨h1,h2⟩
  rw [jh h1] at h2
  exact h2 ▸ List.getElem_mem h1
 ·intro h;obtain ⟨k,hk,e⟩:=List.getElem_of_mem h;have hP:=List.pairwise_iff_getElem.1 (tq.1 hA);have:lb s a=k:=by
   refine FQ (by omega) (fun j hj => ?_) (fun _ => ?_)
   ·rw [jh (by omega),← e]; exact hP j k (by omega) hk hj
   ·rw [jh hk,e]; exact Int.le_refl _
  rw [this]
  exact ⟨hk,by rw [jh hk,e]⟩
def next (t:Int) (s:List Int) (a:Int):List Int:=if t=1 then [a] else if t=2 then s++[a] else if t=3 then ins s a else [w64 (idx s 0 + a)]
def app (t:Int) (s:List Int) (a:Int):List Int×Int :=
 if chk t s≠0 then ([],chk t s) else if (next t s a).length > 64 then ([],2) else (next t s a,0)
theorem FW {t:Int} {s:List Int} (h:chk t s=0):1≤t∧t≤4∧SOk t s=true:=by
 unfold chk at h
 split at h
 ·rename_i h1
  split at h
  ·exact ⟨h1.1,h1.2,by assumption⟩
  ·cases h
 ·cases h
theorem FX {t:Int} {s:List Int} (h:SOk t s=true):s.length≤64:=by
 simp only [SOk,Bool.or_eq_true,Bool.and_eq_true,decide_eq_true_eq,beq_iff_eq] at h
 omega
theorem FY {s:List Int} (h:SOk 3 s=true):Asc s:=by
 simp [SOk] at h
 exact h.1
theorem ok_one {s:List Int} (h:SOk 4 s=true):s.length=1:=by
 simp [SOk] at h
 exact h
def start (t:Int):List Int×Int:=if 1≤t∧t≤4 then (if t=4 then [0] else [],0) else ([],1)
def step (t:Int) (x:List Int×Int) (a:Int):List Int×Int:=if x.2=0 then app t x.1 a else x
theorem Co {a b:List Int} (ha:a.length < 2 ^ 62):dQ a b=some (decide (a=b)):=by
 unfold dQ
 by_cases hl:a.length=b.length
 ·have:((a.length:Int) != (b.length:Int))=false:=by simp; omega
  rw [this,cond_false]
  refine kR.1 ?_;refine DL a.length (fun k=>∀ j:Nat,j < k→idx a (j:Int)=idx b (j:Int)) (fun j h=>by omega) (fun k hk hJ => ?_);unfold kS;refine mK (fun h => ?_) (fun h => ?_)
  ·have h:(k:Int) < a.length:=of_decide_eq_true h;refine au (by omega) (au (by omega) (mK (fun h2 => ?_) (fun h2 => ?_)))
   ·have h2:idx a (k:Int)≠idx b (k:Int):=by simpa using h2
    refine aC (ai ?_)
    show false=_
    have:a≠b:=fun e=>h2 (by rw [e])
    simp [this]
   ·have h2:idx a (k:Int)=idx b (k:Int):=by simpa using h2
    refine ⟨_,rfl,bW (by omega),by omega,fun j hj => ?_⟩
    rcases Nat.lt_or_ge j k with h3 | h3
    ·exact hJ j h3
    ·have:j=k:=by omega
     subst this;exact h2
  ·have h:¬ (k:Int) < a.length:=of_decide_eq_false h;refine aC (ai ?_)
   show true=_
   have:a=b:=DN hl (fun j hj=>hJ j (by omega))
   simp [this]
 ·have:((a.length:Int) != (b.length:Int))=true:=by simp; omega
  rw [this,cond_true]
  have:a≠b:=fun e=>hl (by rw [e])
  simp [this]
end Go.Proofs.YtnlkggppokcmfaaT
namespace Go.Proofs.YtnlkggppokcmfaaT
open Go Go.Proofs Go.Proofs.YtnlkggppokcmfaaE
set_option linter.unusedVariables false
set_option linter.unusedSimpArgs false
theorem xN {a b:List Int} (ha:a.length < 2 ^ 62):bS a b=some (decide (a=b)):=by
 rw [← Co ha]
 rfl
def Fit (s args:List Int):Prop:=∀ k:Nat,k < args.length→idx args (k:Int) ∈ s∧idx args (k:Int) ∉ args.take k
instance (s args:List Int):Decidable (Fit s args):=by unfold Fit; infer_instance
def before (t:Int) (s args:List Int):List Int×Bool :=
 if chk t s≠0∨args=[] then ([],false)
 else if t=1 then ([],decide (s.length=1∧idx s 0=idx args ((args.length - 1:Nat):Int)))
 else if t=2 then (if args.length≤s.length∧s.drop (s.length - args.length)=args then (s.take (s.length - args.length),true) else ([],false))
 else if t=3 then (if Fit s args then (s.filter (fun x=>decide (x ∉ args)),true) else ([],false))
 else ([args.foldl (fun v a=>w64 (v - a)) (idx s 0)],true)
theorem zg {s args:List Int} (hs:args.length < 2 ^ 62) (v:Int):iter (fI args) (v,0)=some ([args.foldl (fun v a=>w64 (v - a)) v],true):=by
 refine kR.1 ?_;refine xz args.length (fun k x=>x=(args.take k).foldl (fun v a=>w64 (v - a)) v) rfl (fun k x hk hJ => ?_);subst hJ;unfold fI;refine mK (fun h => ?_) (fun h => ?_)
 ·have h:(k:Int) < args.length:=of_decide_eq_true h;have hks:k < args.length:=by omega
  refine au (by omega) ⟨_,rfl,bW (by omega),hks,?_⟩
  show _=List.foldl _ _ _
  rw [List.take_add_one,List.getElem?_eq_getElem hks,List.foldl_append,jh hks]
  rfl
 ·have h:¬ (k:Int) < args.length:=of_decide_eq_false h;refine aC (ai ?_)
  show ([_],true)=_
  rw [List.take_of_length_le (by omega)]
theorem vv {s args:List Int} (hs:s.length < 2 ^ 43) (ha:args.length < 2 ^ 62):bT () s args=some (if args.length≤s.length∧s.drop (s.length - args.length)=args then (s.take (s.length - args.length),true) else ([],false)):=by
 unfold bT
 by_cases hm:args.length≤s.length
 ·have e1:w64 ((s.length:Int) - (args.length:Int))=((s.length - args.length:Nat):Int):=by rw [qI (by omega) (by omega)]; omega
  have hlt:decide (w64 ((s.length:Int) - (args.length:Int)) < 0)=false:=decide_eq_false (by rw [e1]; omega)
  rw [hlt,cond_false,jr _ (by rw [e1]; omega),e1]
  have hsl:dh s ((s.length - args.length:Nat):Int) (s.length:Int)=s.drop (s.length - args.length):=by simp [dh]
  have a0:dh s (0:Int) ((s.length - args.length:Nat):Int)=s.take (s.length - args.length):=by simp [dh]
  rw [hsl,xN (by simp; omega)]
  simp only [Option.bind_some]
  unfold fD
  rw [e1,a0,jr _ (by omega)]
  have hc:dO (s.take (s.length - args.length))=some (s.take (s.length - args.length)):=jr _ (by simp; omega)
  rw [hc]
  by_cases he:s.drop (s.length - args.length)=args
  ·simp [he,hm]
  ·simp [he]
 ·have hlt:decide (w64 ((s.length:Int) - (args.length:Int)) < 0)=true:=decide_eq_true (by rw [qI (by omega) (by omega)]; omega)
  rw [hlt,cond_true,fD,cond_true,if_neg (fun h=>hm h.1)]
theorem AV {s:List Int} (p:Int→Bool) (h:Asc s):Asc (s.filter p):=tq.2 ((tq.1 h).filter p)
theorem Cq {args:List Int} {k:Nat} (h:k < args.length):args.take (k + 1)=args.take k++[idx args (k:Int)]:=by
 rw [List.take_add_one,List.getElem?_eq_getElem h,jh h]; rfl
theorem zP {s args:List Int} {k:Nat} (h:k < args.length):s.filter (fun x=>decide (x ∉ args.take (k + 1)))=(s.filter (fun x=>decide (x ∉ args.take k))).filter (fun x=>decide (x≠idx args (k:Int))):=by
 rw [List.filter_filter]
 apply List.filter_congr
 intro x _
 rw [Cq h]
 simp only [List.mem_append,List.mem_singleton,not_or]
 rw [Bool.eq_iff_iff]
 simp only [decide_eq_true_eq,Bool.and_eq_true]
 exact ⟨fun h=>⟨h.2,h.1⟩,fun h=>⟨h.2,h.1⟩⟩
theorem AX {l:List Int} {a:Int} (hA:Asc l) (h:hit l a=true):l.take (lb l a)++l.drop (lb l a + 1)=l.filter (fun x=>decide (x≠a)):=by
 have hP:=List.pairwise_iff_getElem.1 (tq.1 hA)
 simp only [hit,Bool.and_eq_true,decide_eq_true_eq,beq_iff_eq] at h
 obtain ⟨h1,h2⟩:=h
 rw [jh h1] at h2
 generalize lb l a=i at h1 h2
 conv=>rhs; rw [← List.take_append_drop i l,List.drop_eq_getElem_cons h1,List.filter_append,List.filter_cons,h2]
 rw [if_neg (by simp)]
 congr 1
 ·symm
  rw [List.filter_eq_self]
  intro x hx;obtain ⟨j,hj,rfl⟩:=List.getElem_of_mem hx;have hj':j < i:=by simp at hj; omega
  have:=hP j i (by omega) h1 hj'
  rw [List.getElem_take,decide_eq_true_eq]
  omega
 ·symm
  rw [List.filter_eq_self]
  intro x hx;obtain ⟨j,hj,rfl⟩:=List.getElem_of_mem hx;have hj':i + 1 + j < l.length:=by simp at hj; omega
  have:=hP i (i + 1 + j) h1 hj' (by omega)
  rw [List.getElem_drop,decide_eq_true_eq]
  omega
theorem wB {s args:List Int} (hA:Asc s) (hs:s.length < 2 ^ 43) (ha:args.length < 2 ^ 62):dB () s args=some (if Fit s args then (s.filter (fun x=>decide (x ∉ args)),true) else ([],false)):=by
 unfold dB;have hc:dO s=some s:=jr _ (by omega)
 rw [hc]
 refine kR.1 ?_
 show Tri (iter (iC args) (s,0)) _
 refine xz args.length (fun k l=>l=s.filter (fun x=>decide (x ∉ args.take k))∧∀ j:Nat,j < k→idx args (j:Int) ∈ s∧idx args (j:Int) ∉ args.take j) ⟨by simp; exact (List.filter_eq_self.2 (fun _ _=>rfl)).symm,fun j h=>by omega⟩ (fun k l hk hJ => ?_)
 obtain ⟨hl,hJ⟩:=hJ;have hAl:Asc l:=by rw [hl]; exact AV _ hA
 have hll:l.length≤s.length:=by rw [hl]; exact List.length_filter_le _ _
 unfold iC;refine mK (fun h => ?_) (fun h => ?_)
 ·have h:(k:Int) < args.length:=of_decide_eq_true h;have hks:k < args.length:=by omega
  refine au (by omega) ?_
  rw [zO _ hAl (by omega)]
  have hm:=ES (s:=l) (a:=idx args (k:Int)) hAl
  show Tri (bif !hit l (idx args (k:Int)) then _ else _) _
  cases hh:hit l (idx args (k:Int))
  ·simp only [Bool.not_false,cond_true]
   refine aC (ai ?_)
   show ([],false)=_
   have hn:¬ Fit s args:=by
    intro hF;have h1:=hF k hks;have:idx args (k:Int) ∈ l:=by rw [hl,List.mem_filter]; exact ⟨h1.1,by simpa using h1.2⟩
    rw [hm.2 this] at hh
    cases hh
   rw [if_neg hn]
  ·simp only [Bool.not_true,cond_false]
   have hi:=Dk l (idx args (k:Int));have hlt:lb l (idx args (k:Int)) < l.length:=by
    simp only [hit,Bool.and_eq_true,decide_eq_true_eq] at hh
    exact hh.1
   have hd:gu l (lb l (idx args (k:Int)):Int) (w64 ((lb l (idx args (k:Int)):Int) + 1))=some (l.filter (fun x=>decide (x≠idx args (k:Int)))):=by
    unfold gu
    rw [bW (by omega),jr _ ⟨by omega,by omega,by omega⟩,Int.toNat_natCast,Int.toNat_natCast,AX hAl hh]
   rw [hd]
   refine ⟨_,rfl,bW (by omega),hks,?_,fun j hj => ?_⟩
   ·rw [zP hks,← hl]
   ·rcases Nat.lt_or_ge j k with h3 | h3
    ·exact hJ j h3
    ·have:j=k:=by omega
     subst this;have hmem:=hm.1 hh
     rw [hl,List.mem_filter] at hmem
     exact ⟨hmem.1,by simpa using hmem.2⟩
 ·have h:¬ (k:Int) < args.length:=of_decide_eq_false h;have hF:Fit s args:=fun j hj=>hJ j (by omega);refine aC (ai ?_)
  show (l,true)=_
  rw [if_pos hF,hl,List.take_of_length_le (by omega)]
theorem Dl {s args:List Int} (ha:args.length < 2 ^ 62) (h0:args≠[]):eT () s args=some ([],decide (s.length=1∧idx s 0=idx args ((args.length - 1:Nat):Int))):=by
 unfold eT;have hp:0 < args.length:=List.length_pos_iff.2 h0;have e1:w64 ((args.length:Int) - 1)=((args.length - 1:Nat):Int):=nk ha hp
 rw [e1]
 by_cases h1:s.length=1
 ·have h2:((s.length:Int) == 1)=true:=by rw [beq_iff_eq]; omega
  rw [h2,cond_true,jr _ (by omega),jr _ (by omega)]
  simp [h1]
  rw [Bool.eq_iff_iff]; simp
 ·have h2:((s.length:Int) == 1)=false:=by rw [beq_eq_false_iff_ne]; omega
  rw [h2,cond_false]
  simp [h1]
theorem vw (t:Int) {s args:List Int} (hs:s.length < 2 ^ 62) (ha:args.length < 2 ^ 62):eB t s args=some (before t s args):=by
 unfold eB before
 rw [wz t hs]
 by_cases hc:chk t s=0
 ·obtain ⟨h1,h2,h3⟩:=FW hc;have hl:=FX h3
  simp only [hc,Option.bind_some,bne_self_eq_false,cond_false,ne_eq,not_true,false_or]
  by_cases h0:args=[]
  ·subst h0
   simp [iw]
  ·have hp:((args.length:Int) == 0)=false:=by
    have:0 < args.length:=List.length_pos_iff.2 h0
    rw [beq_eq_false_iff_ne]; omega
   rw [hp,if_neg h0]
   unfold iw;rcases four ⟨h1,h2⟩ with rfl | rfl | rfl | rfl
   ·simp [iy,Dl ha h0]
   ·simp [iy,vv (s:=s) (by omega) ha]
   ·simp [iy,wB (FY h3) (by omega) ha]
   ·have:=ok_one h3
    simp [iy,bX]
    rw [jr _ (by omega),zg (s:=s) ha]
    simp
 ·have:(chk t s != 0)=true:=by simpa using hc
  simp [hc,this,iw]
theorem zh (t:Int) (s args:List Int):(before t s args).1.length≤s.length + 1:=by
 unfold before
 split
 ·simp
 ·split
  ·simp
  ·split
   ·split <;> simp <;> omega
   ·split
    ·split
     ·exact Nat.le_trans (List.length_filter_le _ _) (by omega)
     ·simp
    ·simp
end Go.Proofs.YtnlkggppokcmfaaT
namespace Go.Proofs.YtnlkggppokcmfaaT
open Go Go.Proofs Go.Proofs.YtnlkggppokcmfaaE
set_option linter.unusedVariables false
set_option linter.unusedSimpArgs false
def nH (c:Call) (k:Int):Prop :=
 1≤c.Kind∧c.Kind≤8∧1≤c.Key.size∧c.Key.size≤32 ∧
  (c.Kind≤4→c.Got=false∧c.Vals.length=0∧(c.Kind=4 → -1048576≤c.Arg∧c.Arg≤1048576)) ∧
  (5≤c.Kind→c.Arg=0∧(c.Got=true↔k=1)∧(c.Got=false→c.Vals.length=0) ∧
   (c.Got=true→(c.Kind=5→c.Vals.length≤1)∧(c.Kind=8→c.Vals.length=1)∧(c.Kind=7→Asc c.Vals)∧c.Vals.length≤64))
theorem yO {k:ByteArray}:k=(⟨#[]⟩:ByteArray)↔k.size=0:=by
 constructor
 ·rintro rfl; rfl
 ·intro h;obtain ⟨a⟩:=k;have:a = #[]:=Array.eq_empty_of_size_eq_zero h
  rw [this]
theorem Dm {c:Call} (hs:c.Vals.length < 2 ^ 61):Tri (iter (mH c) 1) (fun r=>r=true↔(c.Kind=7→Asc c.Vals)):=by
 refine gm (k0:=1) (c.Vals.length + 1) (fun k x=>x=(k:Int)∧1≤k∧∀ j:Nat,j + 1 < k→j + 1 < c.Vals.length→idx c.Vals (j:Int) < idx c.Vals ((j + 1:Nat):Int)) (by omega) ⟨rfl,Nat.le_refl _,fun j h=>by omega⟩ ?_
 rintro k x hk ⟨rfl,a0,hJ⟩;unfold mH mG
 dsimp only
 have e:=nk (k:=k) (by omega) a0;have e2:=bW (k:=k) (by omega)
 rw [e,e2]
 repeat' (first | contradiction | with_reducible refine ay (fun hq => ?_) (fun hq => ?_) | with_reducible refine au (by first | omega | grind [bq]) ?_ | with_reducible refine aC ?_ | with_reducible refine bE ?_ | with_reducible refine bO ?_ | with_reducible refine bP ?_ | with_reducible refine bQ ?_ | with_reducible refine ai ?_)
 ·show false=true↔_
  have hl:¬ Asc c.Vals:=by
   intro hA;have:=hA (k - 1) (by omega)
   rw [show k - 1 + 1=k by omega] at this
   omega
  grind
 ·refine ⟨by omega,rfl,by omega,fun j hj hl => ?_⟩
  rcases Nat.lt_or_ge (j + 1) k with h3 | h3
  ·exact hJ j h3 hl
  ·have:j=k - 1:=by omega
   subst this
   rw [show k - 1 + 1=k by omega]
   omega
 ·show true=true↔_
  have hl:Asc c.Vals:=fun j hj=>hJ j (by omega) hj
  grind
 ·show true=true↔_
  grind
theorem wY (c:Call) (k:Int) (hs:c.Vals.length < 2 ^ 61):Tri (aZ c k) (fun r=>r=true↔nH c k):=by
 unfold aZ jv mJ mI qy nH
 simp only [cond_true,cond_false]
 have he:=yO (k:=c.Key)
 repeat' (first | contradiction | with_reducible refine ay (fun hq => ?_) (fun hq => ?_) | with_reducible refine au (by first | omega | grind [bq]) ?_ | with_reducible refine aC ?_ | with_reducible refine bE ?_ | with_reducible refine bO ?_ | with_reducible refine bP ?_ | with_reducible refine bQ ?_ | with_reducible refine ai ?_ | refine dG (Dm hs) (fun r hr => ?_))
 all_goals grind
theorem ET {c:Call} (hs:c.Vals.length < 2 ^ 61) (hc:c.Kind=7):Tri (iter (kz c) 1) (fun r=>r=true↔(Asc c.Vals∧c.Vals.length≤64)):=by
 refine gm (k0:=1) (c.Vals.length + 1) (fun k x=>x=(k:Int)∧1≤k∧∀ j:Nat,j + 1 < k→j + 1 < c.Vals.length→idx c.Vals (j:Int) < idx c.Vals ((j + 1:Nat):Int)) (by omega) ⟨rfl,Nat.le_refl _,fun j h=>by omega⟩ ?_
 rintro k x hk ⟨rfl,a0,hJ⟩;unfold kz iR
 dsimp only
 have e:=nk (k:=k) (by omega) a0;have e2:=bW (k:=k) (by omega)
 rw [e,e2]
 repeat' (first | contradiction | with_reducible refine ay (fun hq => ?_) (fun hq => ?_) | with_reducible refine au (by first | omega | grind [bq]) ?_ | with_reducible refine aC ?_ | with_reducible refine bE ?_ | with_reducible refine bO ?_ | with_reducible refine bP ?_ | with_reducible refine bQ ?_ | with_reducible refine ai ?_)
 ·show false=true↔_
  have hl:¬ Asc c.Vals:=by
   intro hA;have:=hA (k - 1) (by omega)
   rw [show k - 1 + 1=k by omega] at this
   omega
  grind
 ·refine ⟨by omega,rfl,by omega,fun j hj hl => ?_⟩
  rcases Nat.lt_or_ge j (k - 1) with h3 | h3
  ·exact hJ j (by omega) hl
  ·have:j=k - 1:=by omega
   subst this
   rw [show k - 1 + 1=k by omega]
   omega
 ·show decide _=true↔_
  have hl:Asc c.Vals:=fun j hj=>hJ j (by omega) hj
  grind
theorem yH (c:Call) (k:Int) (hs:c.Vals.length < 2 ^ 61):Tri (aO c k) (fun r=>r=true↔nH c k):=by
 unfold aO gz gy iR nH
 simp only [cond_true,cond_false]
 have ha:c.Vals.length=0→Asc c.Vals:=fun h j hj=>by omega
 repeat' (first | contradiction | with_reducible refine ay (fun hq => ?_) (fun hq => ?_) | with_reducible refine au (by first | omega | grind [bq]) ?_ | with_reducible refine aC ?_ | with_reducible refine bE ?_ | with_reducible refine bO ?_ | with_reducible refine bP ?_ | with_reducible refine bQ ?_ | with_reducible refine ai ?_ | refine dG (ET hs (by assumption)) (fun r hr => ?_))
 all_goals grind
def Small (l:List Call):Prop:=l.length < 2 ^ 61∧oN l (fun c=>c.Vals.length < 2 ^ 61)
theorem Dn {l:List Call} {e:Event} (hs:Small l):Tri (bK l e) (fun r=>r=true ↔ ¬ oN l (fun c=>nH c e.Kind)):=by
 have h1:Tri (aU l e) (fun r=>0≤r ↔ ¬ oN l (fun c=>nH c e.Kind)):=by
  have hl:=hs.1;unfold aU;refine lJ l.length (fun j=>nH (idx l (j:Int)) e.Kind) ?_;intro k hk hJ;unfold dU nM
  dsimp only
  repeat' (first | contradiction | with_reducible refine ay (fun hq => ?_) (fun hq => ?_) | with_reducible refine au (by first | omega | grind [bq]) ?_ | with_reducible refine aC ?_ | with_reducible refine bE ?_ | with_reducible refine bO ?_ | with_reducible refine bP ?_ | with_reducible refine bQ ?_ | with_reducible refine ai ?_ | refine eP (wY _ _ (hs.2 k (by omega))) (fun r hr => ?_))
  all_goals grind [Nxt,oN,bq]
 unfold bK;refine eP h1 (fun r hr => ?_)
 repeat' (first | contradiction | with_reducible refine ay (fun hq => ?_) (fun hq => ?_) | with_reducible refine au (by first | omega | grind [bq]) ?_ | with_reducible refine aC ?_ | with_reducible refine bE ?_ | with_reducible refine bO ?_ | with_reducible refine bP ?_ | with_reducible refine bQ ?_ | with_reducible refine ai ?_)
 grind
def uF (e:Event):Prop:=0≤e.Kind∧e.Kind≤3∧e.Calls.length≤16∧oN e.Calls (fun c=>nH c e.Kind)
theorem wZ {e:Event} (hs:Small e.Calls):Tri (eD [e]) (fun r=>(r=0↔uF e)∧(r=0∨r=1)):=by
 unfold eD;refine ay (fun h => ?_) (fun h => ?_)
 ·simp at h
 ·refine lJ 1 (fun j=>uF e) ?_;intro k hk hJ;unfold pO kD
  dsimp only
  have hi:k=0→idx [e] (k:Int)=e:=by rintro rfl; rfl
  simp only [cond_true,cond_false]
  have hc:=fun h:k=0=>Dn (l:=e.Calls) (e:=e) hs
  by_cases h0:k=0
  ·rw [hi h0]
   repeat' (first | contradiction | with_reducible refine ay (fun hq => ?_) (fun hq => ?_) | with_reducible refine au (by first | omega | grind [bq]) ?_ | with_reducible refine aC ?_ | with_reducible refine bE ?_ | with_reducible refine bO ?_ | with_reducible refine bP ?_ | with_reducible refine bQ ?_ | with_reducible refine ai ?_ | refine eP (hc h0) (fun r hr => ?_))
   all_goals grind [Nxt,uF,bq]
  ·repeat' (first | contradiction | with_reducible refine ay (fun hq => ?_) (fun hq => ?_) | with_reducible refine au (by first | omega | grind [bq]) ?_ | with_reducible refine aC ?_ | with_reducible refine bE ?_ | with_reducible refine bO ?_ | with_reducible refine bP ?_ | with_reducible refine bQ ?_ | with_reducible refine ai ?_ | refine eP (hc (by grind)) (fun r hr => ?_))
   all_goals grind [Nxt,uF,bq]
theorem xO {e:Event} (hs:Small e.Calls):Tri (bL e) (fun r=>r=true↔uF e):=by
 unfold bL iE
 simp only [cond_true,cond_false]
 have hl:=hs.1;have h1:Tri (iter (jS e) 0) (fun r=>r=true↔oN e.Calls (fun c=>nH c e.Kind)):=by
  refine lJ e.Calls.length (fun j=>nH (idx e.Calls (j:Int)) e.Kind) ?_;intro k hk hJ;unfold jS
  dsimp only
  repeat' (first | contradiction | with_reducible refine ay (fun hq => ?_) (fun hq => ?_) | with_reducible refine au (by first | omega | grind [bq]) ?_ | with_reducible refine aC ?_ | with_reducible refine bE ?_ | with_reducible refine bO ?_ | with_reducible refine bP ?_ | with_reducible refine bQ ?_ | with_reducible refine ai ?_ | refine eP (yH _ _ (hs.2 k (by omega))) (fun r hr => ?_))
  all_goals grind [Nxt,oN,bq]
 repeat' (first | contradiction | with_reducible refine ay (fun hq => ?_) (fun hq => ?_) | with_reducible refine au (by first | omega | grind [bq]) ?_ | with_reducible refine aC ?_ | with_reducible refine bE ?_ | with_reducible refine bO ?_ | with_reducible refine bP ?_ | with_reducible refine bQ ?_ | with_reducible refine ai ?_ | refine dG h1 (fun r hr => ?_))
 all_goals grind [uF]
theorem xc {e:Event} (hs:Small e.Calls):Tri (fV [e]) (fun r=>(r=0↔uF e)∧(r=0∨r=1)):=by
 unfold fV;refine ay (fun h => ?_) (fun h => ?_)
 ·simp at h
 ·refine lJ 1 (fun j=>uF e) ?_;intro k hk hJ;unfold mU
  dsimp only
  have hi:k=0→idx [e] (k:Int)=e:=by rintro rfl; rfl
  have hc:k=0→Tri (bL (idx [e] (k:Int))) (fun r=>r=true↔uF e):=fun h0=>by rw [hi h0]; exact xO hs
  repeat' (first | contradiction | with_reducible refine ay (fun hq => ?_) (fun hq => ?_) | with_reducible refine au (by first | omega | grind [bq]) ?_ | with_reducible refine aC ?_ | with_reducible refine bE ?_ | with_reducible refine bO ?_ | with_reducible refine bP ?_ | with_reducible refine bQ ?_ | with_reducible refine ai ?_ | refine eP (hc (by grind)) (fun r hr => ?_))
  all_goals grind [Nxt,bq]
def sH (h:History) (o:Op):Call:=⟨o.Kind,idx h.Keys o.Key,o.Arg,o.Got,o.Vals⟩
def bM (h:History) (t:Txn):List Call:=t.Ops.map (sH h)
def uj (h:History) (t:Txn):Event:=⟨0,t.Status,bM h t⟩
def qG (h:History) (t:Txn):Prop:=oN t.Ops (fun o=>0≤o.Key∧o.Key < (h.Keys.length:Int))
def xP (t:Txn):Prop:=t.Ops.length * 56≤140737488351232∧oN t.Ops (fun o=>o.Vals.length * 8≤140737488351232)
theorem xP.small {h:History} {t:Txn} (hs:xP t) (k:Nat):Small ((bM h t).take k):=by
 have h1:=hs.1;refine ⟨by simp [bM]; omega,fun j hj => ?_⟩
 have hj':j < k∧j < t.Ops.length:=by simp [bM] at hj; omega
 rw [ou hj'.1,bM,tF hj'.2]
 have:=hs.2 j hj'.2
 show (idx t.Ops (j:Int)).Vals.length < _
 omega
theorem wC {h:History} {t:Txn} (hs:xP t):Tri (dm h t) (fun r=>(r.2=true↔qG h t∧uF (uj h t))∧(r.2=true→r.1=uj h t)):=by
 unfold dm;have hl:=hs.1;refine xz t.Ops.length (fun k l=>l=(bM h t).take k∧∀ j:Nat,j < k→0≤(idx t.Ops (j:Int)).Key∧(idx t.Ops (j:Int)).Key < (h.Keys.length:Int)) ⟨rfl,by omega⟩ ?_
 rintro k l hk ⟨rfl,hJ⟩;have hlen:((bM h t).take k).length=k:=by simp [bM]; omega
 unfold nS kX nR
 simp only [cond_true,cond_false,hlen]
 have hsm:=wZ (e:=⟨0,t.Status,(bM h t).take k⟩) (hs.small k);have hfull:k=t.Ops.length→(bM h t).take k=bM h t:=fun e=>List.take_of_length_le (by simp [bM]; omega);have hnext:k < t.Ops.length→(bM h t).take (k + 1)=(bM h t).take k++[sH h (idx t.Ops (k:Int))]:=fun hk=>by
  rw [jw (by simpa [bM] using hk),bM,tF hk]
 repeat' (first | contradiction | with_reducible refine ay (fun hq => ?_) (fun hq => ?_) | with_reducible refine au (by first | omega | grind [bq]) ?_ | with_reducible refine aC ?_ | with_reducible refine bE ?_ | with_reducible refine bO ?_ | with_reducible refine bP ?_ | with_reducible refine bQ ?_ | with_reducible refine ai ?_ | refine eP hsm (fun r hr => ?_))
 all_goals grind [Up2,qG,oN,bq,sH,uj]
def yP (l:List Txn) (i:Nat):Prop:=∀ j:Nat,j < i → ¬ ((idx l (j:Int)).Proc=(idx l (i:Int)).Proc∧((idx l (j:Int)).To = -1∨(idx l (j:Int)).To ≥ (idx l (i:Int)).From))
def sI (l:List Txn) (i:Nat):Prop :=
 1≤(idx l (i:Int)).Status∧(idx l (i:Int)).Status≤3∧0≤(idx l (i:Int)).From∧((idx l (i:Int)).To = -1→(idx l (i:Int)).Status=3) ∧
  ((idx l (i:Int)).To ≠ -1→(idx l (i:Int)).From < (idx l (i:Int)).To)∧(0 < i→(idx l ((i - 1:Nat):Int)).From < (idx l (i:Int)).From)∧yP l i
theorem Cr {l:List Txn} {i:Nat} (hi:i < l.length) (hl:l.length < 2 ^ 61):Tri (bI (dh l 0 (i:Int)) (idx l (i:Int))) (fun r=>r=true ↔ ¬ yP l i):=by
 have h1:Tri (aQ (dh l 0 (i:Int)) (idx l (i:Int))) (fun r=>0≤r ↔ ¬ yP l i):=by
  rw [mr (by omega)]
  unfold aQ;have ht:(l.take i).length=i:=by simp; omega
  refine lJ i (fun j => ¬ ((idx l (j:Int)).Proc=(idx l (i:Int)).Proc∧((idx l (j:Int)).To = -1∨(idx l (j:Int)).To ≥ (idx l (i:Int)).From))) ?_;intro k hk hJ;unfold dN kY
  dsimp only
  rw [ht]
  have hx:k < i→idx (l.take i) (k:Int)=idx l (k:Int):=fun h=>ou h
  repeat' (first | contradiction | with_reducible refine ay (fun hq => ?_) (fun hq => ?_) | with_reducible refine au (by first | omega | grind [bq]) ?_ | with_reducible refine aC ?_ | with_reducible refine bE ?_ | with_reducible refine bO ?_ | with_reducible refine bP ?_ | with_reducible refine bQ ?_ | with_reducible refine ai ?_)
  all_goals grind [Nxt,yP,bq]
 unfold bI;refine eP h1 (fun r hr => ?_)
 repeat' (first | contradiction | with_reducible refine ay (fun hq => ?_) (fun hq => ?_) | with_reducible refine au (by first | omega | grind [bq]) ?_ | with_reducible refine aC ?_ | with_reducible refine bE ?_ | with_reducible refine bO ?_ | with_reducible refine bP ?_ | with_reducible refine bQ ?_ | with_reducible refine ai ?_)
 grind
theorem vz {l:List Txn} {i:Nat} (hi:i < l.length) (hl:l.length < 2 ^ 61):Tri (aY (dh l 0 (i:Int)) (idx l (i:Int))) (fun r=>r=true↔sI l i):=by
 have hf:=Cr hi hl;have hlen:(dh l 0 (i:Int)).length=i:=by rw [mr (by omega)]; simp; omega
 have hx:0 < i→idx (dh l 0 (i:Int)) (w64 ((i:Int) - 1))=idx l ((i - 1:Nat):Int):=fun h=>by
  rw [nk (by omega) (by omega),mr (by omega),ou (by omega)]
 have hw:0 < i→w64 ((i:Int) - 1)=((i - 1:Nat):Int):=fun h=>nk (by omega) (by omega);unfold aY kK kJ kI jm sI
 simp only [cond_true,cond_false,hlen]
 repeat' (first | contradiction | with_reducible refine ay (fun hq => ?_) (fun hq => ?_) | with_reducible refine au (by first | omega | grind [bq]) ?_ | with_reducible refine aC ?_ | with_reducible refine bE ?_ | with_reducible refine bO ?_ | with_reducible refine bP ?_ | with_reducible refine bQ ?_ | with_reducible refine ai ?_ | refine eP hf (fun r hr => ?_))
 all_goals grind
theorem qU {l:List Txn} {i:Nat} (hi:i < l.length) (hl:l.length < 2 ^ 61):Tri (aA l (i:Int)) (fun r=>r=true↔sI l i):=by
 have h1:Tri (iter (jE l (i:Int)) 0) (fun r=>r=true↔yP l i):=by
  refine lJ i (fun j => ¬ ((idx l (j:Int)).Proc=(idx l (i:Int)).Proc∧((idx l (j:Int)).To = -1∨(idx l (j:Int)).To ≥ (idx l (i:Int)).From))) ?_;intro k hk hJ;unfold jE gX
  simp only [cond_true,cond_false]
  repeat' (first | contradiction | with_reducible refine ay (fun hq => ?_) (fun hq => ?_) | with_reducible refine au (by first | omega | grind [bq]) ?_ | with_reducible refine aC ?_ | with_reducible refine bE ?_ | with_reducible refine bO ?_ | with_reducible refine bP ?_ | with_reducible refine bQ ?_ | with_reducible refine ai ?_)
  all_goals grind [Nxt,yP,bq]
 have hw:0 < i→w64 ((i:Int) - 1)=((i - 1:Nat):Int):=fun h=>nk (by omega) (by omega);unfold aA bY jF sI
 simp only [cond_true,cond_false]
 repeat' (first | contradiction | with_reducible refine ay (fun hq => ?_) (fun hq => ?_) | with_reducible refine au (by first | omega | grind [bq]) ?_ | with_reducible refine aC ?_ | with_reducible refine bE ?_ | with_reducible refine bO ?_ | with_reducible refine bP ?_ | with_reducible refine bQ ?_ | with_reducible refine ai ?_ | refine dG h1 (fun r hr => ?_))
 all_goals grind
def BI (l:List ByteArray) (s:ByteArray) (r:Int):Prop :=
 (r = -1∧∀ j:Nat,j < l.length→idx l (j:Int)≠s)∨(∃ k:Nat,r=(k:Int)∧k < l.length∧idx l (k:Int)=s∧∀ j:Nat,j < k→idx l (j:Int)≠s)
theorem wD {l:List ByteArray} {s:ByteArray} (hl:l.length < 2 ^ 61):Tri (eF l s) (BI l s):=by
 unfold eF;refine lJ l.length (fun j=>idx l (j:Int)≠s) ?_;intro k hk hJ;unfold nJ
 dsimp only
 repeat' (first | contradiction | with_reducible refine ay (fun hq => ?_) (fun hq => ?_) | with_reducible refine au (by first | omega | grind [bq]) ?_ | with_reducible refine aC ?_ | with_reducible refine bE ?_ | with_reducible refine bO ?_ | with_reducible refine bP ?_ | with_reducible refine bQ ?_ | with_reducible refine ai ?_)
 ·exact .inr ⟨k,rfl,by omega,by assumption,hJ⟩
 ·grind [Nxt,bq]
 ·exact .inl ⟨rfl,fun j hj=>hJ j (by omega)⟩
def uG (l:List ByteArray) (i:Nat):Prop:=1≤(idx l (i:Int)).size∧(idx l (i:Int)).size≤32∧∀ j:Nat,j < i→idx l (j:Int)≠idx l (i:Int)
def lD (l:List ByteArray):Prop:=l.length≤32∧∀ i:Nat,i < l.length→uG l i
theorem yI {l:List ByteArray} {s:ByteArray} (hl:l.length < 2 ^ 61):Tri (slices_Contains_string l s) (fun r=>r=true↔∃ j:Nat,j < l.length∧idx l (j:Int)=s):=by
 have h1:Tri (slices_Index_string l s) (fun r=>0≤r↔∃ j:Nat,j < l.length∧idx l (j:Int)=s):=by
  unfold slices_Index_string;refine lJ l.length (fun j=>idx l (j:Int)≠s) ?_;intro k hk hJ;unfold jd
  dsimp only
  repeat' (first | contradiction | with_reducible refine ay (fun hq => ?_) (fun hq => ?_) | with_reducible refine au (by first | omega | grind [bq]) ?_ | with_reducible refine aC ?_ | with_reducible refine bE ?_ | with_reducible refine bO ?_ | with_reducible refine bP ?_ | with_reducible refine bQ ?_ | with_reducible refine ai ?_)
  all_goals grind [Nxt,bq]
 unfold slices_Contains_string;refine eP h1 (fun r hr => ?_)
 repeat' (first | contradiction | with_reducible refine ay (fun hq => ?_) (fun hq => ?_) | with_reducible refine au (by first | omega | grind [bq]) ?_ | with_reducible refine aC ?_ | with_reducible refine bE ?_ | with_reducible refine bO ?_ | with_reducible refine bP ?_ | with_reducible refine bQ ?_ | with_reducible refine ai ?_)
 grind
theorem xQ {l:List ByteArray} (hl:l.length < 2 ^ 61):Tri (df l) (fun r=>r=true↔lD l):=by
 unfold df;refine lJ l.length (uG l) ?_;intro k hk hJ;unfold mR iD
 simp only [cond_true,cond_false]
 have hf:Tri (eF (dh l 0 (k:Int)) (idx l (k:Int))) (fun r=>0≤r↔∃ j:Nat,j < k∧idx l (j:Int)=idx l (k:Int)):=by
  rw [mr (by omega)]
  refine dG (wD (by simp; omega)) (fun r hr => ?_);have ht:(l.take k).length=k:=by simp; omega
  have hx:∀ j:Nat,j < k→idx (l.take k) (j:Int)=idx l (j:Int):=fun j h=>ou h;unfold BI at hr
  rw [ht] at hr
  grind
 have hN:lD l→k < l.length→uG l k:=fun h hk=>h.2 k hk
 repeat' (first | contradiction | with_reducible refine ay (fun hq => ?_) (fun hq => ?_) | with_reducible refine au (by first | omega | grind [bq]) ?_ | with_reducible refine aC ?_ | with_reducible refine bE ?_ | with_reducible refine bO ?_ | with_reducible refine bP ?_ | with_reducible refine bQ ?_ | with_reducible refine ai ?_ | refine eP hf (fun r hr => ?_))
 all_goals (have hNk:uG l k↔(1≤(idx l (k:Int)).size∧(idx l (k:Int)).size≤32∧∀ j:Nat,j < k→idx l (j:Int)≠idx l (k:Int)):=Iff.rfl)
 all_goals grind [Nxt,lD,bq]
end Go.Proofs.YtnlkggppokcmfaaT
namespace Go.Proofs.YtnlkggppokcmfaaT
open Go Go.Proofs Go.Proofs.YtnlkggppokcmfaaE
set_option linter.unusedVariables false
set_option linter.unusedSimpArgs false
def typ (k:Int):Int:=(k - 1) % 4 + 1
theorem sJ {k:Int} (h1:1≤k) (h2:k≤8):kg k=some (typ k):=by
 have:k=1∨k=2∨k=3∨k=4∨k=5∨k=6∨k=7∨k=8:=by omega
 rcases this with h | h | h | h | h | h | h | h <;> subst h <;> decide
theorem zi {k:Int} (h1:1≤k) (h2:k≤8):iU k=some (typ k):=by
 have:k=1∨k=2∨k=3∨k=4∨k=5∨k=6∨k=7∨k=8:=by omega
 rcases this with h | h | h | h | h | h | h | h <;> subst h <;> decide
structure Sim (g:aN) (b:av) (n:Nat):Prop where
 keys:g.keys=b.keys
 types:g.types=b.types
 len:b.keys.length≤32
 tl:b.types.length=b.keys.length
 wl:b.wrote.length=b.keys.length
 il:b.incs.length=b.keys.length
 ll:b.last_.length=b.keys.length
 nd:∀ i j:Nat,i < b.keys.length→j < b.keys.length→idx b.keys (i:Int)=idx b.keys (j:Int)→i=j
 has:∀ s,ja g.at_ s=true↔∃ j:Nat,j < b.keys.length∧idx b.keys (j:Int)=s
 at_:∀ j:Nat,j < b.keys.length→mat g.at_ (idx b.keys (j:Int))=(j:Int)
 facts:∀ j:Nat,j < b.keys.length→∀ a,ja g.facts ⟨idx b.keys (j:Int),a⟩=true↔∃ m:Nat,m < (idx b.wrote (j:Int)).length∧idx (idx b.wrote (j:Int)) (m:Int)=a
 fout:∀ s a,ja g.facts ⟨s,a⟩=true→∃ j:Nat,j < b.keys.length∧idx b.keys (j:Int)=s
 wn:∀ j:Nat,j < b.keys.length→(idx b.wrote (j:Int)).length≤n
 incs:∀ j:Nat,j < b.keys.length→((mat g.incs (idx b.keys (j:Int))).length:Int)=idx b.incs (j:Int)
 i8:∀ j:Nat,j < b.keys.length→(mat g.incs (idx b.keys (j:Int))).length≤8
 iout:∀ s,(∀ j:Nat,j < b.keys.length→idx b.keys (j:Int)≠s)→mat g.incs s=[]
 last:∀ j:Nat,j < b.keys.length→((mat g.incs (idx b.keys (j:Int))).length=0→idx b.last_ (j:Int) = -1) ∧
  (0 < (mat g.incs (idx b.keys (j:Int))).length→idx b.last_ (j:Int)=idx (mat g.incs (idx b.keys (j:Int))) (((mat g.incs (idx b.keys (j:Int))).length - 1:Nat):Int))
theorem Sim.start:Sim ⟨[],[],[],[],[]⟩ ⟨[],[],[],[],[]⟩ 0:=by
 refine ⟨rfl,rfl,by simp,rfl,rfl,rfl,rfl,?_,?_,?_,?_,?_,?_,?_,?_,?_,?_⟩
 all_goals simp [Aj,Fw]
 rfl
theorem Sim.mono {g:aN} {b:av} {n m:Nat} (h:Sim g b n) (hm:n≤m):Sim g b m :=
 { h with wn:=fun j hj=>Nat.le_trans (h.wn j hj) hm }
theorem Sim.new {g:aN} {b:av} {n:Nat} (h:Sim g b n) {s:ByteArray} {t:Int} (hn:∀ j:Nat,j < b.keys.length→idx b.keys (j:Int)≠s) (a1:b.keys.length < 32) :
  Sim ⟨g.keys++[s],fH g.at_ s (g.keys.length:Int),g.types++[t],g.facts,g.incs⟩ ⟨b.keys++[s],b.types++[t],b.wrote++[[]],b.incs++[0],b.last_++[-1]⟩ n:=by
 have hk:=h.keys;have hl:(b.keys++[s]).length=b.keys.length + 1:=by simp
 have k1:∀ j:Nat,j < b.keys.length→idx (b.keys++[s]) (j:Int)=idx b.keys (j:Int):=fun j hj=>iK hj;have k2:idx (b.keys++[s]) ((b.keys.length:Nat):Int)=s:=gZ rfl;have w1:∀ j:Nat,j < b.keys.length→idx (b.wrote++[[]]) (j:Int)=idx b.wrote (j:Int):=fun j hj=>iK (by rw [h.wl]; exact hj);have w2:idx (b.wrote++[[]]) ((b.keys.length:Nat):Int)=[]:=gZ h.wl.symm;have i1:∀ j:Nat,j < b.keys.length→idx (b.incs++[0]) (j:Int)=idx b.incs (j:Int):=fun j hj=>iK (by rw [h.il]; exact hj);have i2:idx (b.incs++[0]) ((b.keys.length:Nat):Int)=0:=gZ h.il.symm;have l1:∀ j:Nat,j < b.keys.length→idx (b.last_++[-1]) (j:Int)=idx b.last_ (j:Int):=fun j hj=>iK (by rw [h.ll]; exact hj);have l2:idx (b.last_++[-1]) ((b.keys.length:Nat):Int) = -1:=gZ h.ll.symm;have a0:=h.iout s hn;have cut:∀ j:Nat,j < b.keys.length + 1→j < b.keys.length∨j=b.keys.length:=by omega
 refine ⟨by simp [hk],by simp [h.types],by simp; omega,by simp [h.tl],by simp [h.wl],by simp [h.il],by simp [h.ll],?_,?_,?_,?_,?_,?_,?_,?_,?_,?_⟩
 ·intro i j hi hj he
  dsimp only at hi hj he
  rw [hl] at hi hj
  have:=h.nd i j;rcases cut i hi with hi' | hi' <;> rcases cut j hj with hj' | hj' <;> grind
 ·intro x
  dsimp only
  rw [sQ,hl,h.has]
  constructor
  ·rintro (rfl | ⟨j,hj,he⟩)
   ·exact ⟨_,Nat.lt_succ_self _,k2⟩
   ·exact ⟨j,by omega,(k1 j hj).trans he⟩
  ·rintro ⟨j,hj,he⟩;rcases cut j hj with hj' | hj'
   ·exact .inr ⟨j,hj',(k1 j hj') ▸ he⟩
   ·subst hj'; exact .inl (k2.symm.trans he).symm
 ·intro j hj
  dsimp only at hj ⊢
  rw [hl] at hj
  rw [mO,hk]
  rcases cut j hj with hj' | hj'
  ·rw [k1 j hj',if_neg (hn j hj')]; exact h.at_ j hj'
  ·subst hj'; rw [k2,if_pos rfl]
 ·intro j hj a
  dsimp only at hj ⊢
  rw [hl] at hj
  rcases cut j hj with hj' | hj'
  ·rw [k1 j hj',w1 j hj']; exact h.facts j hj' a
  ·subst hj'
   rw [k2,w2]
   constructor
   ·intro hh;obtain ⟨i,hi,he⟩:=h.fout s a hh;exact absurd he (hn i hi)
   ·rintro ⟨m,hm,_⟩; simp at hm
 ·intro x a hh;obtain ⟨i,hi,he⟩:=h.fout x a hh;exact ⟨i,by simp; omega,(k1 i hi).trans he⟩
 ·intro j hj
  dsimp only at hj ⊢
  rw [hl] at hj
  rcases cut j hj with hj' | hj'
  ·rw [w1 j hj']; exact h.wn j hj'
  ·subst hj'; rw [w2]; simp
 ·intro j hj
  dsimp only at hj ⊢
  rw [hl] at hj
  rcases cut j hj with hj' | hj'
  ·rw [k1 j hj',i1 j hj']; exact h.incs j hj'
  ·subst hj'; rw [k2,i2,a0]; rfl
 ·intro j hj
  dsimp only at hj ⊢
  rw [hl] at hj
  rcases cut j hj with hj' | hj'
  ·rw [k1 j hj']; exact h.i8 j hj'
  ·subst hj'; rw [k2,a0]; simp
 ·intro x hx
  dsimp only at hx ⊢
  rw [hl] at hx
  exact h.iout x (fun j hj=>by rw [← k1 j hj]; exact hx j (by omega))
 ·intro j hj
  dsimp only at hj ⊢
  rw [hl] at hj
  rcases cut j hj with hj' | hj'
  ·rw [k1 j hj',l1 j hj']; exact h.last j hj'
  ·subst hj'; rw [k2,l2,a0]; simp
theorem Sim.write {g:aN} {b:av} {n k:Nat} (h:Sim g b n) {s:ByteArray} {a:Int} (hk:k < b.keys.length) (hs:idx b.keys (k:Int)=s) :
  Sim ⟨g.keys,g.at_,g.types,fH g.facts ⟨s,a⟩ (),g.incs⟩ ⟨b.keys,b.types,b.wrote.set k (idx b.wrote (k:Int)++[a]),b.incs,b.last_⟩ (n + 1):=by
 have w1:∀ j:Nat,idx (b.wrote.set k (idx b.wrote (k:Int)++[a])) (j:Int)=if j=k then idx b.wrote (k:Int)++[a] else idx b.wrote (j:Int):=fun j=>ow (by rw [h.wl]; exact hk);refine ⟨h.keys,h.types,h.len,h.tl,by simp [h.wl],h.il,h.ll,h.nd,h.has,h.at_,?_,?_,?_,h.incs,h.i8,h.iout,h.last⟩
 ·intro j hj x
  dsimp only at hj ⊢
  rw [sQ,w1 j,h.facts j hj]
  by_cases e:j=k
  ·subst e
   rw [if_pos rfl,hs]
   constructor
   ·rintro (he | ⟨m,hm,he⟩)
    ·have:x=a:=by injection he
     subst this;exact ⟨_,by simp,gZ rfl⟩
    ·exact ⟨m,by simp; omega,(iK hm).trans he⟩
   ·rintro ⟨m,hm,he⟩;rcases Nat.lt_or_ge m (idx b.wrote (j:Int)).length with h1 | h1
    ·exact .inr ⟨m,h1,(iK h1).symm.trans he⟩
    ·simp at hm
     rw [gZ (by omega)] at he
     rw [he]; exact .inl rfl
  ·rw [if_neg e]
   constructor
   ·rintro (he | hh)
    ·injection he with h1 h2
     exact absurd (h.nd j k hj hk (h1.trans hs.symm)) e
    ·exact hh
   ·exact .inr
 ·intro x y hh
  dsimp only at hh ⊢
  rcases sQ.1 hh with he | hh
  ·injection he with h1 h2
   exact ⟨k,hk,hs.trans h1.symm⟩
  ·exact h.fout x y hh
 ·intro j hj
  dsimp only at hj ⊢
  rw [w1 j]
  have:=h.wn j hj
  split
  ·rename_i e; subst e; simp; omega
  ·omega
theorem Sim.inc {g:aN} {b:av} {n k:Nat} (h:Sim g b n) {s:ByteArray} {a:Int} (hk:k < b.keys.length) (hs:idx b.keys (k:Int)=s) (h8:(mat g.incs s).length < 8) :
  Sim ⟨g.keys,g.at_,g.types,g.facts,fH g.incs s (mat g.incs s++[a])⟩ ⟨b.keys,b.types,b.wrote,b.incs.set k (idx b.incs (k:Int) + 1),b.last_.set k a⟩ n:=by
 have i1:∀ j:Nat,idx (b.incs.set k (idx b.incs (k:Int) + 1)) (j:Int)=if j=k then idx b.incs (k:Int) + 1 else idx b.incs (j:Int):=fun j=>ow (by rw [h.il]; exact hk);have l1:∀ j:Nat,idx (b.last_.set k a) (j:Int)=if j=k then a else idx b.last_ (j:Int):=fun j=>ow (by rw [h.ll]; exact hk);have hne:∀ j:Nat,j < b.keys.length→j≠k→idx b.keys (j:Int)≠s:=fun j hj e he=>e (h.nd j k hj hk (he.trans hs.symm));refine ⟨h.keys,h.types,h.len,h.tl,h.wl,by simp [h.il],by simp [h.ll],h.nd,h.has,h.at_,h.facts,h.fout,h.wn,?_,?_,?_,?_⟩
 ·intro j hj
  dsimp only at hj ⊢
  rw [mO,i1 j]
  by_cases e:j=k
  ·subst e
   rw [if_pos hs,if_pos rfl,← h.incs j hj,hs]; simp
  ·rw [if_neg (hne j hj e),if_neg e]; exact h.incs j hj
 ·intro j hj
  dsimp only at hj ⊢
  rw [mO]
  by_cases e:j=k
  ·subst e
   rw [if_pos hs]; simp; omega
  ·rw [if_neg (hne j hj e)]; exact h.i8 j hj
 ·intro x hx
  dsimp only at hx ⊢
  rw [mO,if_neg (fun e=>hx k hk (hs.trans e.symm))]
  exact h.iout x hx
 ·intro j hj
  dsimp only at hj ⊢
  rw [mO,l1 j]
  by_cases e:j=k
  ·subst e
   rw [if_pos hs,if_pos rfl]
   refine ⟨fun h0=>by simp at h0,fun _ => ?_⟩
   rw [gZ (by simp)]
  ·rw [if_neg (hne j hj e),if_neg e]; exact h.last j hj
theorem AY {c:Call} {who:Int} {a4:List ByteArray} {a2:List Int} {a0:List (List Int)} {a1 a3:List Int} {k:Nat} {Q:Int×av→Prop} (hk:k < a0.length) (hb:(idx a0 (k:Int)).length≤4096)
  (h1:(∃ m:Nat,m < (idx a0 (k:Int)).length∧idx (idx a0 (k:Int)) (m:Int)=c.Arg)→Q (3,⟨a4,a2,a0,a1,a3⟩))
  (h2:(¬ ∃ m:Nat,m < (idx a0 (k:Int)).length∧idx (idx a0 (k:Int)) (m:Int)=c.Arg)→Tri (dW c who a4 a2 a1 a3 (k:Int) (a0.set k (idx a0 (k:Int)++[c.Arg]))) Q) :
  Tri (iter (ib c who a4 a2 a0 a1 a3 (k:Int)) 0) Q:=by
 refine lJ (idx a0 (k:Int)).length (fun m=>idx (idx a0 (k:Int)) (m:Int)≠c.Arg) ?_;intro m hm hJ;unfold ib
 dsimp only
 rw [Int.toNat_natCast]
 repeat' (first | contradiction | with_reducible refine ay (fun hq => ?_) (fun hq => ?_) | with_reducible refine au (by first | omega | grind [bq]) ?_ | with_reducible refine aC ?_ | with_reducible refine bE ?_ | with_reducible refine bO ?_ | with_reducible refine bP ?_ | with_reducible refine bQ ?_ | with_reducible refine ai ?_)
 ·exact h1 ⟨m,by omega,by assumption⟩
 ·grind [Nxt,bq]
 ·exact h2 (by grind)
def Both (r:Int×aN) (n:Nat) (r':Int×av):Prop:=r.1=r'.1∧(r.1=0→Sim r.2 r'.2 n)
def AZ (b:av) (c:Call) (who:Int) (k:Nat) (r:Int×av):Prop :=
 (idx b.types (k:Int)≠typ c.Kind∧r=(50,b)) ∨
 (idx b.types (k:Int)=typ c.Kind∧(c.Kind=2∨c.Kind=3)∧(∃ m:Nat,m < (idx b.wrote (k:Int)).length∧idx (idx b.wrote (k:Int)) (m:Int)=c.Arg)∧r=(3,b)) ∨
 (idx b.types (k:Int)=typ c.Kind∧(c.Kind=2∨c.Kind=3)∧(¬ ∃ m:Nat,m < (idx b.wrote (k:Int)).length∧idx (idx b.wrote (k:Int)) (m:Int)=c.Arg) ∧
  r=(0,⟨b.keys,b.types,b.wrote.set k (idx b.wrote (k:Int)++[c.Arg]),b.incs,b.last_⟩)) ∨
 (idx b.types (k:Int)=typ c.Kind∧c.Kind=4∧idx b.last_ (k:Int)≠who∧idx b.incs (k:Int) + 1 > 8∧r.1=51) ∨
 (idx b.types (k:Int)=typ c.Kind∧c.Kind=4∧idx b.last_ (k:Int)≠who∧idx b.incs (k:Int) + 1≤8 ∧
  r=(0,⟨b.keys,b.types,b.wrote,b.incs.set k (idx b.incs (k:Int) + 1),b.last_.set k who⟩)) ∨
 (idx b.types (k:Int)=typ c.Kind∧c.Kind=4∧idx b.last_ (k:Int)=who∧r=(0,b)) ∨
 (idx b.types (k:Int)=typ c.Kind∧c.Kind≠2∧c.Kind≠3∧c.Kind≠4∧r=(0,b))
theorem zk {b:av} {k:Nat} {c:Call} {who:Int} (hk:k < b.keys.length) (t1:b.types.length=b.keys.length) (t2:b.wrote.length=b.keys.length) (t3:b.incs.length=b.keys.length)
  (t4:b.last_.length=b.keys.length) (hwr:(idx b.wrote (k:Int)).length≤4096) (hin:0≤idx b.incs (k:Int)∧idx b.incs (k:Int)≤8)
  (h1:1≤c.Kind) (h8:c.Kind≤8):Tri (dE c who b.keys b.types b.wrote b.incs b.last_ (k:Int)) (AZ b c who k):=by
 have e1:w64 (idx b.incs (k:Int) + 1)=idx b.incs (k:Int) + 1:=bq (by omega) (by omega);have e2:idx (b.incs.set k (idx b.incs (k:Int) + 1)) (k:Int)=idx b.incs (k:Int) + 1:=by rw [ow (by omega),if_pos rfl]
 unfold dE ig dW fA fw
 simp only [cond_true,cond_false,zi h1 h8,Int.toNat_natCast,e1,e2]
 repeat' (first | contradiction | with_reducible refine ay (fun hq => ?_) (fun hq => ?_) | with_reducible refine au (by first | omega | grind [bq]) ?_ | with_reducible refine aC ?_ | with_reducible refine bE ?_ | with_reducible refine bO ?_ | with_reducible refine bP ?_ | with_reducible refine bQ ?_ | with_reducible refine ai ?_ | refine AY (by omega) hwr (fun h => ?_) (fun h => ?_))
 all_goals try unfold dW fA fw
 all_goals try simp only [cond_true,cond_false,Int.toNat_natCast,e1,e2]
 repeat' (first | contradiction | with_reducible refine ay (fun hq => ?_) (fun hq => ?_) | with_reducible refine au (by first | omega | grind [bq]) ?_ | with_reducible refine aC ?_ | with_reducible refine bE ?_ | with_reducible refine bO ?_ | with_reducible refine bP ?_ | with_reducible refine bQ ?_ | with_reducible refine ai ?_)
 all_goals grind [AZ]
theorem enter_at {g:aN} {b:av} {n k:Nat} {a0:aN} {c:Call} {who:Int} (h:Sim g b n) (hf:a0.facts=g.facts) (hi:a0.incs=g.incs) (hk:k < b.keys.length) (hs:idx b.keys (k:Int)=c.Key)
  (h1:1≤c.Kind) (h8:c.Kind≤8) (hw:0≤who) (hn:n≤2048) :
  Tri (fC a0 c who g.keys g.at_ g.types (k:Int)) (fun r=>Tri (dE c who b.keys b.types b.wrote b.incs b.last_ (k:Int)) (Both r (n + 1))):=by
 obtain ⟨gk,ga,gt,gf,gi⟩:=g
 dsimp only at hf hi
 have htl:=h.types;have hkk:=h.keys
 dsimp only at htl hkk ⊢
 subst htl hkk;have t1:=h.tl;have t2:=h.wl;have t3:=h.il;have t4:=h.ll;have hfa:=h.facts k hk c.Arg;have hin:=h.incs k hk;have a1:=h.i8 k hk;have hla:=h.last k hk;have hwr:=h.wn k hk
 rw [hs] at hfa hin a1 hla
 dsimp only at hfa hin a1 hla
 obtain ⟨r',hr',spec⟩:=zk (who:=who) hk t1 t2 t3 t4 (by omega) (by omega) h1 h8;have s0:=h.mono (Nat.le_succ n);have s1:=h.write (a:=c.Arg) hk hs;have s2:(mat gi c.Key).length < 8→_:=fun hl=>(h.inc (a:=who) hk hs hl).mono (Nat.le_succ n)
 dsimp only at s1 s2
 have e3:0 < (mat gi c.Key).length→w64 (((mat gi c.Key).length:Int) - 1)=(((mat gi c.Key).length - 1:Nat):Int):=fun h=>nk (by omega) (by omega);have m1:mat (fH gi c.Key (mat gi c.Key++[who])) c.Key=mat gi c.Key++[who]:=by rw [mO,if_pos rfl]
 unfold fC gT jy gQ gP fB
 simp only [cond_true,cond_false,sJ h1 h8,hf,hi,m1]
 repeat' (first | contradiction | with_reducible refine ay (fun hq => ?_) (fun hq => ?_) | with_reducible refine au (by first | omega | grind [bq]) ?_ | with_reducible refine aC ?_ | with_reducible refine bE ?_ | with_reducible refine bO ?_ | with_reducible refine bP ?_ | with_reducible refine bQ ?_ | with_reducible refine ai ?_)
 all_goals refine ⟨r',hr',?_⟩
 all_goals unfold AZ at spec
 all_goals simp only [Both]
 all_goals grind
theorem Ba {g:aN} {b:av} {n:Nat} {c:Call} {who:Int} (h:Sim g b n) (h1:1≤c.Kind) (h8:c.Kind≤8) (hw:0≤who) (hn:n≤2048) :
  Tri (aj g c who) (fun r=>Tri (af b c who) (Both r (n + 1))):=by
 have hl:=h.len;have t1:=h.tl;have t2:=h.wl;have t3:=h.il;have t4:=h.ll;have hk:=h.keys;have ht:=h.types;obtain ⟨r0,a3,hf⟩:=wD (l:=b.keys) (s:=c.Key) (by omega);rcases hf with ⟨rfl,hno⟩ | ⟨k,rfl,a2,a1,_⟩
 ·have hm:¬ ja g.at_ c.Key=true:=fun hh=>by
   obtain ⟨j,hj,he⟩:=(h.has c.Key).1 hh;exact hno j hj he
  unfold aj af jA
  simp only [a3,sJ h1 h8,hk,ht]
  refine ay (fun _ => ?_) (fun hh=>absurd hm hh);refine ay (fun a4 => ?_) (fun a4 => ?_)
  ·refine ai (bE ?_)
   repeat' (first | contradiction | with_reducible refine ay (fun hq => ?_) (fun hq => ?_) | with_reducible refine au (by first | omega | grind [bq]) ?_ | with_reducible refine aC ?_ | with_reducible refine bE ?_ | with_reducible refine bO ?_ | with_reducible refine bP ?_ | with_reducible refine bQ ?_ | with_reducible refine ai ?_)
   ·exact ⟨rfl,fun h=>by cases h⟩
   ·omega
  ·have hS:=h.new (s:=c.Key) (t:=typ c.Kind) hno (by omega)
   rw [hk,ht] at hS
   have he:=enter_at (a0:=g) (who:=who) hS rfl rfl (k:=b.keys.length) (by simp) (gZ rfl) h1 h8 hw hn
   dsimp only at he
   refine au (by omega) (bE (au (by omega) ?_));refine dG he (fun r hr => ?_);unfold iq ik
   simp only [zi h1 h8]
   repeat' (first | contradiction | with_reducible refine ay (fun hq => ?_) (fun hq => ?_) | with_reducible refine au (by first | omega | grind [bq]) ?_ | with_reducible refine aC ?_ | with_reducible refine bE ?_ | with_reducible refine bO ?_ | with_reducible refine bP ?_ | with_reducible refine bQ ?_ | with_reducible refine ai ?_ | exact hr)
   omega
 ·have hm:ja g.at_ c.Key=true:=(h.has c.Key).2 ⟨k,a2,a1⟩;have hat:mat g.at_ c.Key=(k:Int):=by rw [← a1]; exact h.at_ k a2
  have he:=enter_at (a0:=g) (who:=who) h rfl rfl a2 a1 h1 h8 hw hn;unfold aj af
  simp only [a3,hat]
  refine ay (fun hh=>absurd hm hh) (fun _ => ?_);refine dG he (fun r hr=>bE ?_)
  repeat' (first | contradiction | with_reducible refine ay (fun hq => ?_) (fun hq => ?_) | with_reducible refine au (by first | omega | grind [bq]) ?_ | with_reducible refine aC ?_ | with_reducible refine bE ?_ | with_reducible refine bO ?_ | with_reducible refine bP ?_ | with_reducible refine bQ ?_ | with_reducible refine ai ?_ | exact hr)
abbrev GS:=List ByteArray×(List (ByteArray×Int))×List Int×(List (bD×Unit))×(List (ByteArray×(List Int)))×Int
abbrev BS:=List ByteArray×List Int×(List (List Int))×List Int×List Int×Int
def zQ (g:aN) (x:Int):GS:=(g.keys,g.at_,g.types,g.facts,g.incs,x)
def vC (b:av) (x:Int):BS:=(b.keys,b.types,b.wrote,b.incs,b.last_,x)
def Go1 (i n:Nat):GS ⊕ (Int ⊕ Int)→(List Call×Int) ⊕ (BS ⊕ Int)→Prop
 | .inl s,.inr (.inl t)=>∃ g b,s=zQ g ((i + 1:Nat):Int)∧t=vC b ((i + 1:Nat):Int)∧Sim g b n
 | .inr (.inr a),.inr (.inr b)=>a=1∧b=1
 | _,_=>False
theorem enters {g:aN} {b:av} {n i:Nat} {l:List Call} {y:Event×Bool} (h:Sim g b n) (hy:y.1.Calls=l) (hl:l.length≤16) (hi:i < 64) (hn:n≤1024) (hc:oN l (fun c=>1≤c.Kind∧c.Kind≤8)) :
  Tri (iter (kZ (i:Int) y) (zQ g 0)) (fun x=>Tri (iter (eG (i:Int) l) (vC b 0)) (Go1 i (n + 16) x)):=by
 refine yV l.length (fun k s t=>∃ g b,s=zQ g (k:Int)∧t=vC b (k:Int)∧Sim g b (n + k)) (Nat.zero_le _) ⟨g,b,rfl,rfl,h⟩ ?_;rintro k s t hk ⟨g,b,rfl,rfl,hS⟩;unfold kZ eG zQ vC
 dsimp only
 rw [hy]
 refine ay (fun h => ?_) (fun h => ?_)
 ·refine au (by omega) ?_;obtain ⟨r,hr,r',hr',hb⟩:=Ba (who:=(i:Int)) hS (hc k (by omega)).1 (hc k (by omega)).2 (by omega) (by omega);refine fM hr ?_;have hw:w64 ((k:Int) + 1)=((k + 1:Nat):Int):=bW (by omega)
  rw [hw]
  repeat' (first | contradiction | with_reducible refine ay (fun hq => ?_) (fun hq => ?_) | with_reducible refine au (by first | omega | grind [bq]) ?_ | with_reducible refine aC ?_ | with_reducible refine bE ?_ | with_reducible refine bO ?_ | with_reducible refine bP ?_ | with_reducible refine bQ ?_ | with_reducible refine ai ?_ | refine fM hr' ?_)
  ·exact ⟨rfl,rfl⟩
  ·exact absurd (by rw [hb.1]; omega) ‹r.1≠0›
  ·exact absurd (by rw [← hb.1]; omega) ‹r'.1≠0›
  ·exact ⟨by omega,r.2,r'.2,rfl,rfl,hb.2 (by omega)⟩
 ·have hw:w64 ((i:Int) + 1)=((i + 1:Nat):Int):=bW (by omega)
  rw [hw]
  repeat' (first | contradiction | with_reducible refine ay (fun hq => ?_) (fun hq => ?_) | with_reducible refine au (by first | omega | grind [bq]) ?_ | with_reducible refine aC ?_ | with_reducible refine bE ?_ | with_reducible refine bO ?_ | with_reducible refine bP ?_ | with_reducible refine bQ ?_ | with_reducible refine ai ?_)
  exact ⟨g,b,rfl,rfl,hS.mono (by omega)⟩
theorem zl {h:History} {i:Nat} {b:av} {Q:BS ⊕ Int→Prop} (hi:i < h.Txns.length) (hs:xP (idx h.Txns (i:Int))) (a1:(idx h.Txns (i:Int)).Ops.length≤16)
  (h1:¬ (qG h (idx h.Txns (i:Int))∧uF (uj h (idx h.Txns (i:Int))))→Q (.inr 1))
  (h2:qG h (idx h.Txns (i:Int))→uF (uj h (idx h.Txns (i:Int)))→Tri (iter (eG (i:Int) (bM h (idx h.Txns (i:Int)))) (vC b 0)) (fun x=>match x with | .inl _=>False | .inr y=>Q y)) :
  Tri (iter (eH h b.keys b.types b.wrote b.incs b.last_ (i:Int)) ([],0)) Q:=by
 generalize ht:idx h.Txns (i:Int)=t at hs a1 h1 h2;refine xz t.Ops.length (fun k l=>l=(bM h t).take k∧∀ j:Nat,j < k→0≤(idx t.Ops (j:Int)).Key∧(idx t.Ops (j:Int)).Key < (h.Keys.length:Int)) ⟨rfl,by omega⟩ ?_
 rintro k l hk ⟨rfl,hJ⟩;have hlen:((bM h t).take k).length=k:=by simp [bM]; omega
 unfold eH jT mV
 simp only [cond_true,cond_false,hlen,ht]
 have hsm:=xc (e:=⟨0,t.Status,(bM h t).take k⟩) (hs.small k);have hfull:k=t.Ops.length→(bM h t).take k=bM h t:=fun e=>List.take_of_length_le (by simp [bM]; omega);have hnext:k < t.Ops.length→(bM h t).take (k + 1)=(bM h t).take k++[sH h (idx t.Ops (k:Int))]:=fun hk=>by
  rw [jw (by simpa [bM] using hk),bM,tF hk]
 have hw:w64 ((k:Int) + 1)=((k + 1:Nat):Int):=bW (by omega)
 rw [hw]
 repeat' (first | contradiction | with_reducible refine ay (fun hq => ?_) (fun hq => ?_) | with_reducible refine au (by first | omega | grind [bq]) ?_ | with_reducible refine aC ?_ | with_reducible refine bE ?_ | with_reducible refine bO ?_ | with_reducible refine bP ?_ | with_reducible refine bQ ?_ | with_reducible refine ai ?_ | refine eP hsm (fun r hr => ?_))
 ·grind [Up2,qG,oN]
 ·grind [Up2,qG,oN]
 ·grind [Up2,sH]
 ·have a0:k=t.Ops.length:=by omega
  rw [hfull a0] at hr
  refine h1 (fun hh => ?_);have:=hr.1.2 hh.2
  contradiction
 ·have a0:k=t.Ops.length:=by omega
  rw [hfull a0] at hr ⊢
  have hK:qG _ t:=fun j hj=>hJ j (by omega);refine dG (h2 hK (hr.1.1 (by omega))) ?_;rintro (x | y) hxy
  ·exact hxy.elim
  ·exact hxy
def vD (h:History) (i:Nat):Prop:=sI h.Txns i∧qG h (idx h.Txns (i:Int))∧uF (uj h (idx h.Txns (i:Int)))
def sK (h:History):Prop:=h.Keys.length * 16≤140737488351232∧h.Txns.length * 56≤140737488351232∧oN h.Txns xP
theorem Cs {h:History} (hs:sK h) (hN:lD h.Keys) (a7:h.Txns.length≤32) :
  Tri (iter (jO h) (zQ ⟨[],[],[],[],[]⟩ 0)) (fun x=>Tri (iter (iG h) (vC ⟨[],[],[],[],[]⟩ 0)) (fun y=>(∃ v,x = .inr v∧v=y)∧(y=0∨y=1))):=by
 obtain ⟨a8,a9,a1⟩:=hs;refine yV h.Txns.length (fun k s t=>∃ g b,s=zQ g (k:Int)∧t=vC b (k:Int)∧Sim g b (k * 16)∧∀ j:Nat,j < k→vD h j) (Nat.zero_le _) ⟨_,_,rfl,rfl,Sim.start,fun j hj=>absurd hj (Nat.not_lt_zero _)⟩ ?_;rintro k s t hk ⟨g,b,rfl,rfl,hS,hJ⟩;unfold jO lc iG iF zQ vC
 simp only [cond_true,cond_false]
 refine ay (fun a5 => ?_) (fun a5 => ?_)
 ·have a0:k < h.Txns.length:=by omega
  obtain ⟨r,hr,a2,a6⟩:=wC (h:=h) (a1 k a0);obtain ⟨p,hp,a4⟩:=vz (l:=h.Txns) a0 (by omega);obtain ⟨p',hp',hp1'⟩:=qU (l:=h.Txns) a0 (by omega);have hco:uF (uj h (idx h.Txns (k:Int)))→(idx h.Txns (k:Int)).Ops.length≤16:=fun he=>by
   have:=he.2.2.1
   simpa [uj,bM] using this
  refine au (by omega) (fM hr ?_)
  by_cases hok:vD h k
  ·have e1:r.2=true:=a2.2 ⟨hok.2.1,hok.2.2⟩;have e2:p=true:=a4.2 hok.1;have e3:p'=true:=hp1'.2 hok.1;have hc:oN (bM h (idx h.Txns (k:Int))) (fun c=>1≤c.Kind∧c.Kind≤8):=fun j hj=>⟨(hok.2.2.2.2.2 j hj).1,(hok.2.2.2.2.2 j hj).2.1⟩;obtain ⟨x,hx,y,hy,hxy⟩:=enters (y:=r) (i:=k) hS (congrArg Event.Calls (a6 e1)) hok.2.2.2.2.1 (by omega) (by omega) hc;refine ay (fun h=>absurd e1 h) (fun _ => ?_);refine au (by omega) (fM hp ?_);refine ay (fun h=>absurd e2 h) (fun _ => ?_);refine ⟨x,hx,?_⟩
   repeat' (first | contradiction | with_reducible refine ay (fun hq => ?_) (fun hq => ?_) | with_reducible refine au (by first | omega | grind [bq]) ?_ | with_reducible refine aC ?_ | with_reducible refine bE ?_ | with_reducible refine bO ?_ | with_reducible refine bP ?_ | with_reducible refine bQ ?_ | with_reducible refine ai ?_ | refine fM hp' ?_)
   ·exact absurd (hco hok.2.2) (by omega)
   ·refine zl a0 (a1 k a0) (hco hok.2.2) (fun hn=>absurd ⟨hok.2.1,hok.2.2⟩ hn) (fun _ _=>⟨y,hy,?_⟩);rcases x with s | a | a <;> rcases y with t | t | t
    ·exact hxy.elim
    ·obtain ⟨g',b',rfl,rfl,hS'⟩:=hxy;refine ⟨by omega,g',b',rfl,rfl,(show k * 16 + 16=(k + 1) * 16 by omega) ▸ hS',fun j hj => ?_⟩
     rcases Nat.lt_or_ge j k with h1 | h1
     ·exact hJ j h1
     ·rw [show j=k by omega]; exact hok
    ·exact hxy.elim
    ·exact hxy.elim
    ·exact hxy.elim
    ·exact hxy.elim
    ·exact hxy.elim
    ·exact hxy.elim
    ·obtain ⟨rfl,rfl⟩:=hxy;exact ⟨⟨1,rfl,rfl⟩,.inr rfl⟩
  ·have h1:Tri (iter (eH h b.keys b.types b.wrote b.incs b.last_ (k:Int)) ([],0)) (fun y=>p'=true→(idx h.Txns (k:Int)).Ops.length≤16→y = .inr 1) ∨ ¬ ((idx h.Txns (k:Int)).Ops.length≤16) ∨ ¬ p'=true:=by
    by_cases a3:(idx h.Txns (k:Int)).Ops.length≤16
    ·by_cases h3:p'=true
     ·refine .inl (zl a0 (a1 k a0) a3 (fun _ _ _=>rfl) (fun q1 q2=>absurd ⟨hp1'.1 h3,q1,q2⟩ hok))
     ·exact .inr (.inr h3)
    ·exact .inr (.inl a3)
   have hend:Tri (aA h.Txns (k:Int)) (fun y=>Tri (bif !y then (out (some 1):Option (BS ⊕ Int)) else bif decide ((((idx h.Txns (k:Int)).Ops).length:Int) > 16) then out (some 1) else iter (eH h b.keys b.types b.wrote b.incs b.last_ (k:Int)) ([],0)) (fun y=>y = .inr 1)):=by
    refine ⟨p',hp',?_⟩
    repeat' (first | contradiction | with_reducible refine ay (fun hq => ?_) (fun hq => ?_) | with_reducible refine au (by first | omega | grind [bq]) ?_ | with_reducible refine aC ?_ | with_reducible refine bE ?_ | with_reducible refine bO ?_ | with_reducible refine bP ?_ | with_reducible refine bQ ?_ | with_reducible refine ai ?_)
    ·rfl
    ·rfl
    ·rcases h1 with h1 | h1 | h1
     ·exact dG h1 (fun y hy=>hy (Decidable.of_not_not ‹¬¬p'=true›) (by omega))
     ·omega
     ·contradiction
   have hend2:∀ {Q:BS ⊕ Int→Prop},Q (.inr 1)→Tri ((aA h.Txns (k:Int)).bind fun y=>bif !y then (out (some 1):Option (BS ⊕ Int)) else bif decide ((((idx h.Txns (k:Int)).Ops).length:Int) > 16) then out (some 1) else iter (eH h b.keys b.types b.wrote b.incs b.last_ (k:Int)) ([],0)) Q:=by
    intro Q hQ;refine eP hend (fun y hy=>dG hy ?_);rintro _ rfl;exact hQ
   repeat' (first | contradiction | with_reducible refine ay (fun hq => ?_) (fun hq => ?_) | with_reducible refine au (by first | omega | grind [bq]) ?_ | with_reducible refine aC ?_ | with_reducible refine bE ?_ | with_reducible refine bO ?_ | with_reducible refine bP ?_ | with_reducible refine bQ ?_ | with_reducible refine ai ?_ | refine fM hp ?_)
   ·refine hend2 ?_;exact ⟨⟨1,rfl,rfl⟩,.inr rfl⟩
   ·refine hend2 ?_;exact ⟨⟨1,rfl,rfl⟩,.inr rfl⟩
   ·exact absurd ⟨a4.1 (by grind),a2.1 (by grind)⟩ hok
 ·repeat' (first | contradiction | with_reducible refine ay (fun hq => ?_) (fun hq => ?_) | with_reducible refine au (by first | omega | grind [bq]) ?_ | with_reducible refine aC ?_ | with_reducible refine bE ?_ | with_reducible refine bO ?_ | with_reducible refine bP ?_ | with_reducible refine bQ ?_ | with_reducible refine ai ?_)
  exact ⟨⟨0,rfl,rfl⟩,.inl rfl⟩
theorem wE {h:History} (hs:sK h):Tri (az h) (fun v=>Tri (ah h) (fun v'=>v=v'∧(v=0∨v=1))):=by
 obtain ⟨a2,a4,a3⟩:=hs;obtain ⟨y,hy,hn⟩:=xQ (l:=h.Keys) (by omega);have hT:=fun hN a0=>Cs (h:=h) ⟨a2,a4,a3⟩ hN a0;have hfail:¬ (lD h.Keys∧h.Txns.length≤32)→ah h=some 1:=by
  intro hno;refine kR.1 ?_;unfold ah fP
  simp only [cond_true,cond_false]
  repeat' (first | contradiction | with_reducible refine ay (fun hq => ?_) (fun hq => ?_) | with_reducible refine au (by first | omega | grind [bq]) ?_ | with_reducible refine aC ?_ | with_reducible refine bE ?_ | with_reducible refine bO ?_ | with_reducible refine bP ?_ | with_reducible refine bQ ?_ | with_reducible refine ai ?_ | refine fM hy ?_)
  ·rfl
  ·rfl
  ·exact absurd ⟨hn.1 (Decidable.of_not_not ‹¬¬y=true›),by omega⟩ hno
 have hgood:lD h.Keys→h.Txns.length≤32→Tri (iter (jO h) (zQ ⟨[],[],[],[],[]⟩ 0)) (fun x=>Tri (ah h) (fun v'=>x = .inr v'∧(v'=0∨v'=1))):=by
  intro hN a0;refine dG (hT hN a0) (fun x hx => ?_);unfold ah fP
  simp only [cond_true,cond_false]
  have:=hn.2 hN
  repeat' (first | contradiction | with_reducible refine ay (fun hq => ?_) (fun hq => ?_) | with_reducible refine au (by first | omega | grind [bq]) ?_ | with_reducible refine aC ?_ | with_reducible refine bE ?_ | with_reducible refine bO ?_ | with_reducible refine bP ?_ | with_reducible refine bQ ?_ | with_reducible refine ai ?_ | refine fM hy ?_)
  ·omega
  ·refine dG hx (fun v hv => ?_);obtain ⟨⟨v2,rfl,rfl⟩,h2⟩:=hv;exact ⟨rfl,h2⟩
 have hbad:¬ (lD h.Keys∧h.Txns.length≤32)→Tri (ah h) (fun v'=>(1:Int)=v'∧((1:Int)=0∨(1:Int)=1)):=fun hno=>⟨1,hfail hno,rfl,.inr rfl⟩;unfold az lg
 simp only [cond_true,cond_false]
 repeat' (first | contradiction | with_reducible refine ay (fun hq => ?_) (fun hq => ?_) | with_reducible refine au (by first | omega | grind [bq]) ?_ | with_reducible refine aC ?_ | with_reducible refine bE ?_ | with_reducible refine bO ?_ | with_reducible refine bP ?_ | with_reducible refine bQ ?_ | with_reducible refine ai ?_)
 ·exact hbad (fun hh=>by have:=hh.1.1; omega)
 ·exact hbad (fun hh=>by have:=hh.2; omega)
 ·refine lJ h.Keys.length (uG h.Keys) ?_;intro k hk hJ;unfold nT jN
  simp only [cond_true,cond_false]
  have hf:k < h.Keys.length→Tri (slices_Contains_string (dh h.Keys 0 (k:Int)) (idx h.Keys (k:Int))) (fun r=>r=true↔∃ j:Nat,j < k∧idx h.Keys (j:Int)=idx h.Keys (k:Int)):=by
   intro hk'
   rw [mr (by omega)]
   refine dG (yI (by simp; omega)) (fun r hr => ?_);have ht:(h.Keys.take k).length=k:=by simp; omega
   have hx:∀ j:Nat,j < k→idx (h.Keys.take k) (j:Int)=idx h.Keys (j:Int):=fun j h=>ou h
   rw [ht] at hr
   grind
  have he:=yO (k:=idx h.Keys (k:Int));have hw:w64 ((k:Int) + 1)=((k + 1:Nat):Int):=bW (by omega)
  rw [hw]
  have hNk:uG h.Keys k↔(1≤(idx h.Keys (k:Int)).size∧(idx h.Keys (k:Int)).size≤32∧∀ j:Nat,j < k→idx h.Keys (j:Int)≠idx h.Keys (k:Int)):=Iff.rfl;have hno:k < h.Keys.length → ¬ uG h.Keys k → ¬ (lD h.Keys∧h.Txns.length≤32):=fun h1 h2 h3=>h2 (h3.1.2 k h1);refine ay (fun a1 => ?_) (fun a1 => ?_)
  ·refine au (by omega) ?_
   repeat' (first | contradiction | with_reducible refine ay (fun hq => ?_) (fun hq => ?_) | with_reducible refine au (by first | omega | grind [bq]) ?_ | with_reducible refine aC ?_ | with_reducible refine bE ?_ | with_reducible refine bO ?_ | with_reducible refine bP ?_ | with_reducible refine bQ ?_ | with_reducible refine ai ?_ | refine eP (hf (by omega)) (fun r hr => ?_))
   ·exact hbad (hno (by omega) (by grind))
   ·exact hbad (hno (by omega) (by grind))
   ·exact hbad (hno (by omega) (by grind))
   ·exact ⟨rfl,by omega,by grind⟩
  ·have hN:lD h.Keys:=⟨by omega,fun i hi=>hJ i (by omega)⟩
   unfold kH;refine bE ?_;obtain ⟨x,hx,v,hv,hq⟩:=hgood hN (by omega);obtain ⟨rfl,h2⟩:=hq;exact ⟨_,hx,v,hv,rfl,h2⟩
end Go.Proofs.YtnlkggppokcmfaaT
namespace Go.Proofs.YtnlkggppokcmfaaT
open Go Go.Proofs Go.Proofs.YtnlkggppokcmfaaE
set_option linter.unusedVariables false
set_option linter.unusedSimpArgs false
def lF (l:List Int) (c:Call) (w:Int) (s:ByteArray):List Int:=if c.Kind=4∧c.Key=s∧(l.length=0∨idx l ((l.length - 1:Nat):Int)≠w) then l++[w] else l
def ji (E:List (Call×Int)) (s:ByteArray):List Int:=E.foldl (fun l e=>lF l e.1 e.2 s) []
theorem wF {E:List (Call×Int)} {c:Call} {w:Int} {s:ByteArray}:ji (E++[(c,w)]) s=lF (ji E s) c w s:=by
 unfold ji; rw [List.foldl_append]; rfl
theorem oh {l:List Int} {c:Call} {w:Int} {s:ByteArray} (h:¬ (c.Kind=4∧c.Key=s)):lF l c w s=l:=by
 unfold lF; rw [if_neg (fun hh=>h ⟨hh.1,hh.2.1⟩)]
def Dp (E:List (Call×Int)) (c:Call) (w:Int):Prop :=
 ((c.Kind=2∨c.Kind=3)→∀ e ∈ E,e.1.Key=c.Key→(e.1.Kind=2∨e.1.Kind=3)→e.1.Arg≠c.Arg)∧(c.Kind=4→(lF (ji E c.Key) c w c.Key).length≤8)
def BJ (E:List (Call×Int)) (c:Call) (w:Int):Prop:=(∀ e ∈ E,e.1.Key=c.Key→typ e.1.Kind=typ c.Kind)∧Dp E c w
structure BookInv0 (E:List (Call×Int)) (b:av):Prop where
 tl:b.types.length=b.keys.length
 wl:b.wrote.length=b.keys.length
 il:b.incs.length=b.keys.length
 ll:b.last_.length=b.keys.length
 nd:∀ i j:Nat,i < b.keys.length→j < b.keys.length→idx b.keys (i:Int)=idx b.keys (j:Int)→i=j
 ks:∀ e ∈ E,∃ j:Nat,j < b.keys.length∧idx b.keys (j:Int)=e.1.Key
 ty:∀ e ∈ E,∀ j:Nat,j < b.keys.length→idx b.keys (j:Int)=e.1.Key→idx b.types (j:Int)=typ e.1.Kind
 wr:∀ j:Nat,j < b.keys.length→∀ a,(∃ m:Nat,m < (idx b.wrote (j:Int)).length∧idx (idx b.wrote (j:Int)) (m:Int)=a)↔∃ e ∈ E,e.1.Key=idx b.keys (j:Int)∧(e.1.Kind=2∨e.1.Kind=3)∧e.1.Arg=a
 wn:∀ j:Nat,j < b.keys.length→(idx b.wrote (j:Int)).length≤E.length
 ic:∀ j:Nat,j < b.keys.length→idx b.incs (j:Int)=((ji E (idx b.keys (j:Int))).length:Int)
 i8:∀ j:Nat,j < b.keys.length→(ji E (idx b.keys (j:Int))).length≤8
 io:∀ s,(∀ j:Nat,j < b.keys.length→idx b.keys (j:Int)≠s)→ji E s=[]
 la:∀ j:Nat,j < b.keys.length→((ji E (idx b.keys (j:Int))).length=0→idx b.last_ (j:Int) = -1) ∧
  (0 < (ji E (idx b.keys (j:Int))).length→idx b.last_ (j:Int)=idx (ji E (idx b.keys (j:Int))) (((ji E (idx b.keys (j:Int))).length - 1:Nat):Int))
theorem BookInv0.start:BookInv0 [] ⟨[],[],[],[],[]⟩:=by
 refine ⟨rfl,rfl,rfl,rfl,?_,?_,?_,?_,?_,?_,?_,?_,?_⟩
 all_goals simp [ji]
theorem BookInv0.new {E:List (Call×Int)} {b:av} (h:BookInv0 E b) {s:ByteArray} {t:Int} (hn:∀ j:Nat,j < b.keys.length→idx b.keys (j:Int)≠s) :
  BookInv0 E ⟨b.keys++[s],b.types++[t],b.wrote++[[]],b.incs++[0],b.last_++[-1]⟩:=by
 have hl:(b.keys++[s]).length=b.keys.length + 1:=by simp
 have k1:∀ j:Nat,j < b.keys.length→idx (b.keys++[s]) (j:Int)=idx b.keys (j:Int):=fun j hj=>iK hj;have k2:idx (b.keys++[s]) ((b.keys.length:Nat):Int)=s:=gZ rfl;have t1:∀ j:Nat,j < b.keys.length→idx (b.types++[t]) (j:Int)=idx b.types (j:Int):=fun j hj=>iK (by rw [h.tl]; exact hj);have w1:∀ j:Nat,j < b.keys.length→idx (b.wrote++[[]]) (j:Int)=idx b.wrote (j:Int):=fun j hj=>iK (by rw [h.wl]; exact hj);have w2:idx (b.wrote++[[]]) ((b.keys.length:Nat):Int)=[]:=gZ h.wl.symm;have i1:∀ j:Nat,j < b.keys.length→idx (b.incs++[0]) (j:Int)=idx b.incs (j:Int):=fun j hj=>iK (by rw [h.il]; exact hj);have i2:idx (b.incs++[0]) ((b.keys.length:Nat):Int)=0:=gZ h.il.symm;have l1:∀ j:Nat,j < b.keys.length→idx (b.last_++[-1]) (j:Int)=idx b.last_ (j:Int):=fun j hj=>iK (by rw [h.ll]; exact hj);have l2:idx (b.last_++[-1]) ((b.keys.length:Nat):Int) = -1:=gZ h.ll.symm;have ho:=h.io s hn;have hne:∀ e ∈ E,e.1.Key≠s:=fun e he hs=>by
  obtain ⟨j,hj,hk⟩:=h.ks e he;exact hn j hj (hk.trans hs)
 have cut:∀ j:Nat,j < b.keys.length + 1→j < b.keys.length∨j=b.keys.length:=by omega
 refine ⟨by simp [h.tl],by simp [h.wl],by simp [h.il],by simp [h.ll],?_,?_,?_,?_,?_,?_,?_,?_,?_⟩
 ·intro i j hi hj he
  dsimp only at hi hj he
  rw [hl] at hi hj
  have:=h.nd i j;rcases cut i hi with hi' | hi' <;> rcases cut j hj with hj' | hj' <;> grind
 ·intro e he;obtain ⟨j,hj,hk⟩:=h.ks e he;exact ⟨j,by simp; omega,(k1 j hj).trans hk⟩
 ·intro e he j hj hk
  dsimp only at hj hk ⊢
  rw [hl] at hj
  rcases cut j hj with hj' | hj'
  ·rw [k1 j hj'] at hk; rw [t1 j hj']; exact h.ty e he j hj' hk
  ·subst hj'; rw [k2] at hk; exact absurd hk.symm (hne e he)
 ·intro j hj a
  dsimp only at hj ⊢
  rw [hl] at hj
  rcases cut j hj with hj' | hj'
  ·rw [k1 j hj',w1 j hj']; exact h.wr j hj' a
  ·subst hj'
   rw [k2,w2]
   constructor
   ·rintro ⟨m,hm,_⟩; simp at hm
   ·rintro ⟨e,he,hk,_⟩; exact absurd hk (hne e he)
 ·intro j hj
  dsimp only at hj ⊢
  rw [hl] at hj
  rcases cut j hj with hj' | hj'
  ·rw [w1 j hj']; exact h.wn j hj'
  ·subst hj'; rw [w2]; simp
 ·intro j hj
  dsimp only at hj ⊢
  rw [hl] at hj
  rcases cut j hj with hj' | hj'
  ·rw [k1 j hj',i1 j hj']; exact h.ic j hj'
  ·subst hj'; rw [k2,i2,ho]; rfl
 ·intro j hj
  dsimp only at hj ⊢
  rw [hl] at hj
  rcases cut j hj with hj' | hj'
  ·rw [k1 j hj']; exact h.i8 j hj'
  ·subst hj'; rw [k2,ho]; simp
 ·intro x hx
  dsimp only at hx ⊢
  rw [hl] at hx
  exact h.io x (fun j hj=>by rw [← k1 j hj]; exact hx j (by omega))
 ·intro j hj
  dsimp only at hj ⊢
  rw [hl] at hj
  rcases cut j hj with hj' | hj'
  ·rw [k1 j hj',l1 j hj']; exact h.la j hj'
  ·subst hj'; rw [k2,l2,ho]; simp
theorem fG {E:List (Call×Int)} {c:Call} {w:Int} {e:Call×Int}:e ∈ E++[(c,w)]↔e ∈ E∨e=(c,w):=by simp
theorem BookInv0.same {E:List (Call×Int)} {b:av} {c:Call} {w:Int} {k:Nat} (h:BookInv0 E b) (hk:k < b.keys.length) (hs:idx b.keys (k:Int)=c.Key) (ht:idx b.types (k:Int)=typ c.Kind)
  (h2:c.Kind≠2) (h3:c.Kind≠3) (hw:lF (ji E c.Key) c w c.Key=ji E c.Key):BookInv0 (E++[(c,w)]) b:=by
 have hws:∀ s,ji (E++[(c,w)]) s=ji E s:=fun s=>by
  rw [wF]
  by_cases e:c.Kind=4∧c.Key=s
  ·rw [← e.2]; exact hw
  ·exact oh e
 refine ⟨h.tl,h.wl,h.il,h.ll,h.nd,?_,?_,?_,?_,?_,?_,?_,?_⟩
 ·intro e he;rcases fG.1 he with he | rfl
  ·exact h.ks e he
  ·exact ⟨k,hk,hs⟩
 ·intro e he j hj hkj;rcases fG.1 he with he | rfl
  ·exact h.ty e he j hj hkj
  ·have:=h.nd j k hj hk (hkj.trans hs.symm);subst this;exact ht
 ·intro j hj a
  rw [h.wr j hj a]
  constructor
  ·rintro ⟨e,he,r⟩; exact ⟨e,fG.2 (.inl he),r⟩
  ·rintro ⟨e,he,r⟩;rcases fG.1 he with he | rfl
   ·exact ⟨e,he,r⟩
   ·rcases r.2.1 with r | r <;> contradiction
 ·intro j hj;have:=h.wn j hj
  simp; omega
 ·intro j hj; rw [hws]; exact h.ic j hj
 ·intro j hj; rw [hws]; exact h.i8 j hj
 ·intro s hs'; rw [hws]; exact h.io s hs'
 ·intro j hj; rw [hws]; exact h.la j hj
theorem BookInv0.write {E:List (Call×Int)} {b:av} {c:Call} {w:Int} {k:Nat} (h:BookInv0 E b) (hk:k < b.keys.length) (hs:idx b.keys (k:Int)=c.Key) (ht:idx b.types (k:Int)=typ c.Kind)
  (a0:c.Kind=2∨c.Kind=3):BookInv0 (E++[(c,w)]) ⟨b.keys,b.types,b.wrote.set k (idx b.wrote (k:Int)++[c.Arg]),b.incs,b.last_⟩:=by
 have hws:∀ s,ji (E++[(c,w)]) s=ji E s:=fun s=>by
  rw [wF]
  exact oh (fun e=>by omega)
 have w1:∀ j:Nat,idx (b.wrote.set k (idx b.wrote (k:Int)++[c.Arg])) (j:Int)=if j=k then idx b.wrote (k:Int)++[c.Arg] else idx b.wrote (j:Int):=fun j=>ow (by rw [h.wl]; exact hk);refine ⟨h.tl,by simp [h.wl],h.il,h.ll,h.nd,?_,?_,?_,?_,?_,?_,?_,?_⟩
 ·intro e he;rcases fG.1 he with he | rfl
  ·exact h.ks e he
  ·exact ⟨k,hk,hs⟩
 ·intro e he j hj hkj;rcases fG.1 he with he | rfl
  ·exact h.ty e he j hj hkj
  ·have:=h.nd j k hj hk (hkj.trans hs.symm);subst this;exact ht
 ·intro j hj a
  dsimp only at hj ⊢
  rw [w1 j]
  have hold:=h.wr j hj a
  by_cases e:j=k
  ·subst e
   rw [if_pos rfl]
   constructor
   ·rintro ⟨m,hm,he⟩;rcases Nat.lt_or_ge m (idx b.wrote (j:Int)).length with h1 | h1
    ·rw [iK h1] at he
     obtain ⟨e,he',r⟩:=hold.1 ⟨m,h1,he⟩;exact ⟨e,fG.2 (.inl he'),r⟩
    ·simp at hm
     rw [gZ (by omega)] at he
     exact ⟨(c,w),fG.2 (.inr rfl),hs.symm,a0,he⟩
   ·rintro ⟨e,he,r⟩;rcases fG.1 he with he | rfl
    ·obtain ⟨m,hm,hh⟩:=hold.2 ⟨e,he,r⟩;exact ⟨m,by simp; omega,(iK hm).trans hh⟩
    ·exact ⟨_,by simp,(gZ rfl).trans r.2.2⟩
  ·rw [if_neg e,hold]
   constructor
   ·rintro ⟨e,he,r⟩; exact ⟨e,fG.2 (.inl he),r⟩
   ·rintro ⟨e',he,r⟩;rcases fG.1 he with he | rfl
    ·exact ⟨e',he,r⟩
    ·exact absurd (h.nd j k hj hk (r.1.symm.trans hs.symm)) e
 ·intro j hj
  dsimp only at hj ⊢
  rw [w1 j]
  have:=h.wn j hj
  split
  ·rename_i e; subst e; simp; omega
  ·simp; omega
 ·intro j hj; rw [hws]; exact h.ic j hj
 ·intro j hj; rw [hws]; exact h.i8 j hj
 ·intro s hs'; rw [hws]; exact h.io s hs'
 ·intro j hj; rw [hws]; exact h.la j hj
theorem BookInv0.inc {E:List (Call×Int)} {b:av} {c:Call} {w:Int} {k:Nat} (h:BookInv0 E b) (hk:k < b.keys.length) (hs:idx b.keys (k:Int)=c.Key) (ht:idx b.types (k:Int)=typ c.Kind)
  (h4:c.Kind=4) (hw:lF (ji E c.Key) c w c.Key=ji E c.Key++[w]) (h8:(ji E c.Key).length + 1≤8) :
  BookInv0 (E++[(c,w)]) ⟨b.keys,b.types,b.wrote,b.incs.set k (idx b.incs (k:Int) + 1),b.last_.set k w⟩:=by
 have hws:∀ s,ji (E++[(c,w)]) s=if c.Key=s then ji E s++[w] else ji E s:=fun s=>by
  rw [wF]
  by_cases e:c.Key=s
  ·rw [if_pos e,← e]; exact hw
  ·rw [if_neg e]; exact oh (fun hh=>e hh.2)
 have i1:∀ j:Nat,idx (b.incs.set k (idx b.incs (k:Int) + 1)) (j:Int)=if j=k then idx b.incs (k:Int) + 1 else idx b.incs (j:Int):=fun j=>ow (by rw [h.il]; exact hk);have l1:∀ j:Nat,idx (b.last_.set k w) (j:Int)=if j=k then w else idx b.last_ (j:Int):=fun j=>ow (by rw [h.ll]; exact hk);have hne:∀ j:Nat,j < b.keys.length→(c.Key=idx b.keys (j:Int)↔j=k):=fun j hj=>⟨fun e=>h.nd j k hj hk (e.symm.trans hs.symm),fun e=>by rw [e,hs]⟩
 refine ⟨h.tl,h.wl,by simp [h.il],by simp [h.ll],h.nd,?_,?_,?_,?_,?_,?_,?_,?_⟩
 ·intro e he;rcases fG.1 he with he | rfl
  ·exact h.ks e he
  ·exact ⟨k,hk,hs⟩
 ·intro e he j hj hkj;rcases fG.1 he with he | rfl
  ·exact h.ty e he j hj hkj
  ·have:=h.nd j k hj hk (hkj.trans hs.symm);subst this;exact ht
 ·intro j hj a
  dsimp only at hj ⊢
  rw [h.wr j hj a]
  constructor
  ·rintro ⟨e,he,r⟩; exact ⟨e,fG.2 (.inl he),r⟩
  ·rintro ⟨e,he,r⟩;rcases fG.1 he with he | rfl
   ·exact ⟨e,he,r⟩
   ·have:=r.2.1; dsimp only at this; omega
 ·intro j hj;have:=h.wn j hj
  simp; omega
 ·intro j hj
  dsimp only at hj ⊢
  have:=h.ic j hj
  rw [hws,i1 j]
  by_cases e:j=k
  ·rw [if_pos e,if_pos ((hne j hj).2 e)]; subst e; simp; omega
  ·rw [if_neg e,if_neg (fun hh=>e ((hne j hj).1 hh))]; exact this
 ·intro j hj
  dsimp only at hj ⊢
  rw [hws]
  by_cases e:j=k
  ·rw [if_pos ((hne j hj).2 e)]; subst e; rw [hs]; simp; omega
  ·rw [if_neg (fun hh=>e ((hne j hj).1 hh))]; exact h.i8 j hj
 ·intro s hs'
  dsimp only at hs'
  rw [hws,if_neg (fun e=>hs' k hk (hs.trans e))]
  exact h.io s hs'
 ·intro j hj
  dsimp only at hj ⊢
  rw [hws,l1 j]
  by_cases e:j=k
  ·rw [if_pos e,if_pos ((hne j hj).2 e)]
   refine ⟨fun h0=>by simp at h0,fun _ => ?_⟩
   rw [gZ (by simp)]
  ·rw [if_neg e,if_neg (fun hh=>e ((hne j hj).1 hh))]; exact h.la j hj
theorem BK {E:List (Call×Int)} {b:av} {c:Call} {w:Int} {k:Nat} (h:BookInv0 E b) (hk:k < b.keys.length) (hs:idx b.keys (k:Int)=c.Key) (ht:idx b.types (k:Int)=typ c.Kind)
  (h1:1≤c.Kind) (h8:c.Kind≤8) (hw:0≤w) (hE:E.length≤4096) :
  Tri (dE c w b.keys b.types b.wrote b.incs b.last_ (k:Int)) (fun r=>(r.1=0↔Dp E c w)∧(r.1=0→BookInv0 (E++[(c,w)]) r.2∧r.2.keys=b.keys∧r.2.types=b.types)):=by
 have hin:=h.ic k hk;have a0:=h.i8 k hk;have hla:=h.la k hk;have hwr:=h.wr k hk c.Arg;have hwn:=h.wn k hk
 rw [hs] at hin a0 hla hwr
 refine dG (zk (who:=w) hk h.tl h.wl h.il h.ll (by omega) (by omega) h1 h8) (fun r hr => ?_);have stay:∀ {l:List Int},lF (ji E c.Key) c w c.Key=l→l=if c.Kind=4∧((ji E c.Key).length=0∨idx (ji E c.Key) (((ji E c.Key).length - 1:Nat):Int)≠w) then ji E c.Key++[w] else ji E c.Key:=by
  rintro l rfl;unfold lF
  simp
 have st:=stay rfl;rcases hr with ⟨a,rfl⟩ | ⟨_,b1,b2,rfl⟩ | ⟨_,b1,b2,rfl⟩ | ⟨_,b1,b2,b3,b4⟩ | ⟨_,b1,b2,b3,rfl⟩ | ⟨_,b1,b2,rfl⟩ | ⟨_,b1,b2,b3,rfl⟩
 ·exact absurd ht a
 ·refine ⟨⟨fun h=>by simp at h,fun hh => ?_⟩,fun h=>by simp at h⟩
  obtain ⟨e,he,r1,r2,r3⟩:=hwr.1 b2;exact absurd r3 (hh.1 b1 e he r1 r2)
 ·refine ⟨⟨fun _=>⟨fun _ e he r1 r2 r3=>b2 (hwr.2 ⟨e,he,r1,r2,r3⟩),fun h4=>by omega⟩,fun _=>rfl⟩,fun _=>⟨h.write hk hs ht b1,rfl,rfl⟩⟩
 ·have hne:(ji E c.Key).length=0∨idx (ji E c.Key) (((ji E c.Key).length - 1:Nat):Int)≠w:=by grind
  rw [if_pos ⟨b1,hne⟩] at st
  refine ⟨⟨fun h0=>by omega,fun hh => ?_⟩,fun h0=>by omega⟩
  have:=hh.2 b1
  rw [st] at this
  simp at this
  omega
 ·have hne:(ji E c.Key).length=0∨idx (ji E c.Key) (((ji E c.Key).length - 1:Nat):Int)≠w:=by grind
  rw [if_pos ⟨b1,hne⟩] at st
  refine ⟨⟨fun _=>⟨fun h=>by omega,fun _=>by rw [st]; simp; omega⟩,fun _=>rfl⟩,fun _=>⟨h.inc hk hs ht b1 st (by omega),rfl,rfl⟩⟩
 ·have hne:¬ ((ji E c.Key).length=0∨idx (ji E c.Key) (((ji E c.Key).length - 1:Nat):Int)≠w):=by grind
  rw [if_neg (fun hh=>hne hh.2)] at st
  refine ⟨⟨fun _=>⟨fun h=>by omega,fun _=>by rw [st]; exact a0⟩,fun _=>rfl⟩,fun _=>⟨h.same hk hs ht (by omega) (by omega) st,rfl,rfl⟩⟩
 ·rw [if_neg (fun hh=>b3 hh.1)] at st
  refine ⟨⟨fun _=>⟨fun h=>by omega,fun h=>by omega⟩,fun _=>rfl⟩,fun _=>⟨h.same hk hs ht b1 b2 st,rfl,rfl⟩⟩
structure lG (E:List (Call×Int)) (b:av):Prop extends BookInv0 E b where
 len:b.keys.length≤32
 kex:∀ j:Nat,j < b.keys.length→∃ e ∈ E,e.1.Key=idx b.keys (j:Int)
theorem lG.start:lG [] ⟨[],[],[],[],[]⟩:=⟨BookInv0.start,by simp,fun j hj=>by simp at hj⟩
theorem Ct {E:List (Call×Int)} {b:av} {c:Call} {w:Int} (h:lG E b) (hroom:b.keys.length=32→∃ j:Nat,j < b.keys.length∧idx b.keys (j:Int)=c.Key)
  (h1:1≤c.Kind) (h8:c.Kind≤8) (hw:0≤w) (hE:E.length≤4096) :
  Tri (af b c w) (fun r=>(r.1=0↔BJ E c w)∧(r.1=0→lG (E++[(c,w)]) r.2)):=by
 have hl:=h.len;have t1:=h.tl;have t2:=h.wl;have t3:=h.il;have t4:=h.ll;obtain ⟨r0,a4,hf⟩:=wD (l:=b.keys) (s:=c.Key) (by omega);unfold af
 rw [a4]
 refine bE ?_;rcases hf with ⟨rfl,hno⟩ | ⟨k,rfl,a0,a1,_⟩
 ·refine ay (fun _ => ?_) (fun hh=>by omega);refine ay (fun a5 => ?_) (fun a5 => ?_)
  ·obtain ⟨j,hj,he⟩:=hroom (by omega);exact absurd he (hno j hj)
  ·have hn:=h.toBookInv0.new (s:=c.Key) (t:=typ c.Kind) hno;have hat:=BK (w:=w) hn (k:=b.keys.length) (by simp) (gZ rfl) (gZ t1.symm) h1 h8 hw hE;have hne:∀ e ∈ E,e.1.Key≠c.Key:=fun e he hs=>by
    obtain ⟨j,hj,hk⟩:=h.ks e he;exact hno j hj (hk.trans hs)
   unfold iq ik
   simp only [zi h1 h8]
   refine au (by omega) (bE (au (by omega) (au (by omega) (au (by omega) (au (by omega) ?_)))));refine dG hat (fun r hr => ?_);refine ⟨hr.1.trans ⟨fun hh=>⟨fun e he hs=>absurd hs (hne e he),hh⟩,fun hh=>hh.2⟩,fun h0 => ?_⟩;obtain ⟨q1,q2,q3⟩:=hr.2 h0;refine ⟨q1,by rw [q2]; simp; omega,fun j hj => ?_⟩
   rw [q2] at hj ⊢
   have hj:j < b.keys.length + 1:=by simpa using hj
   rcases (by omega:j < b.keys.length∨j=b.keys.length) with hj' | hj'
   ·obtain ⟨e,he,hk⟩:=h.kex j hj';exact ⟨e,fG.2 (.inl he),by rw [hk]; exact (iK hj').symm⟩
   ·subst hj';exact ⟨(c,w),fG.2 (.inr rfl),(gZ rfl).symm⟩
 ·refine ay (fun hh=>by omega) (fun _ => ?_);obtain ⟨e0,a2,a3⟩:=h.kex k a0;have hty:=h.ty e0 a2 k a0 a3.symm
  by_cases ht:idx b.types (k:Int)=typ c.Kind
  ·have hat:=BK (w:=w) h.toBookInv0 a0 a1 ht h1 h8 hw hE;refine dG hat (fun r hr => ?_);refine ⟨hr.1.trans ⟨fun hh=>⟨fun e he hs => ?_,hh⟩,fun hh=>hh.2⟩,fun h0 => ?_⟩
   ·exact (h.ty e he k a0 (a1.trans hs.symm)).symm.trans ht
   ·obtain ⟨q1,q2,q3⟩:=hr.2 h0;refine ⟨q1,by rw [q2]; exact hl,fun j hj => ?_⟩
    rw [q2] at hj ⊢
    obtain ⟨e,he,hk⟩:=h.kex j hj;exact ⟨e,fG.2 (.inl he),hk⟩
  ·have hin:=h.ic k a0;have a6:=h.i8 k a0;have hwn:=h.wn k a0;refine dG (zk (who:=w) a0 t1 t2 t3 t4 (by omega) (by omega) h1 h8) (fun r hr => ?_);have hno:¬ BJ E c w:=fun hh=>ht (hty.trans (hh.1 e0 a2 (a3.trans a1)));rcases hr with ⟨a,rfl⟩ | ⟨a,_⟩ | ⟨a,_⟩ | ⟨a,_⟩ | ⟨a,_⟩ | ⟨a,_⟩ | ⟨a,_⟩
   ·exact ⟨⟨fun h=>by simp at h,fun hh=>absurd hh hno⟩,fun h=>by simp at h⟩
   all_goals exact absurd a ht
def xR (h:History) (i:Nat):List (Call×Int):=(bM h (idx h.Txns (i:Int))).map (fun c=>(c,(i:Int)))
def nL (h:History) (k:Nat):List (Call×Int):=(List.range k).flatMap (xR h)
theorem om {h:History} {k:Nat}:nL h (k + 1)=nL h k++xR h k:=by
 unfold nL; rw [List.range_succ,List.flatMap_append]; simp
def lH (E L:List (Call×Int)):Prop:=∀ j:Nat,j < L.length→BJ (E++L.take j) (idx L (j:Int)).1 (idx L (j:Int)).2
theorem lH.append {E L M:List (Call×Int)}:lH E (L++M)↔lH E L∧lH (E++L) M:=by
 constructor
 ·intro h;refine ⟨fun j hj => ?_,fun j hj => ?_⟩
  ·have:=h j (by simp; omega)
   rwa [iK hj,List.take_append_of_le_length (by omega)] at this
  ·have:=h (L.length + j) (by simp; omega)
   rw [List.take_append,List.take_of_length_le (by omega),show L.length + j - L.length=j by omega,← List.append_assoc] at this
   rwa [show idx (L++M) ((L.length + j:Nat):Int)=idx M (j:Int) from by
    rw [dD rfl (by simp; omega),dD rfl hj,List.getElem_append_right (by omega)]; congr 1; omega] at this
 ·rintro ⟨h1,h2⟩ j hj;rcases Nat.lt_or_ge j L.length with h3 | h3
  ·rw [iK h3,List.take_append_of_le_length (by omega)]; exact h1 j h3
  ·obtain ⟨i,rfl⟩:∃ i,j=L.length + i:=⟨j - L.length,by omega⟩
   have hi:i < M.length:=by simp at hj; omega
   have:=h2 i hi
   rw [List.take_append,List.take_of_length_le (by omega),show L.length + i - L.length=i by omega,← List.append_assoc]
   rwa [show idx (L++M) ((L.length + i:Nat):Int)=idx M (i:Int) from by
    rw [dD rfl (by simp; omega),dD rfl hi,List.getElem_append_right (by omega)]; congr 1; omega]
theorem room {K l:List ByteArray} {s:ByteArray} (hK:K.length≤32) (hl:l.length=32) (nd:∀ i j:Nat,i < l.length→j < l.length→idx l (i:Int)=idx l (j:Int)→i=j)
  (hs:s ∈ K) (hsub:∀ x ∈ l,x ∈ K):∃ j:Nat,j < l.length∧idx l (j:Int)=s:=by
 have hnd:l.Nodup:=by
  rw [List.nodup_iff_pairwise_ne,List.pairwise_iff_getElem]
  intro i j hi hj hij he;have:=nd i j hi hj (by rw [dD rfl hi,dD rfl hj]; exact he)
  omega
 by_cases h:s ∈ l
 ·obtain ⟨j,hj,he⟩:=List.getElem_of_mem h;exact ⟨j,hj,(dD rfl hj).trans he⟩
 ·have h1:(s::l).Nodup:=List.nodup_cons.2 ⟨h,hnd⟩;have h2:=h1.length_le_of_subset (l₂:=K) (fun x hx=>by
   rcases List.mem_cons.1 hx with rfl | hx
   ·exact hs
   ·exact hsub x hx)
  simp at h2
  omega
def InK (K:List ByteArray) (E:List (Call×Int)):Prop:=∀ e ∈ E,e.1.Key ∈ K
theorem lG.sub {K:List ByteArray} {E:List (Call×Int)} {b:av} (h:lG E b) (hE:InK K E):∀ x ∈ b.keys,x ∈ K:=by
 intro x hx;obtain ⟨j,hj,rfl⟩:=List.getElem_of_mem hx;obtain ⟨e,he,hk⟩:=h.kex j hj;have:=hE e he
 rw [hk,dD rfl hj] at this
 exact this
theorem Bb {K:List ByteArray} {E:List (Call×Int)} {b:av} {i:Nat} {l:List Call} (h:lG E b) (hK:K.length≤32) (hEK:InK K E) (hlK:∀ c ∈ l,c.Key ∈ K) (hl:l.length≤16) (hi:i < 64) (hn:E.length≤1024)
  (hc:oN l (fun c=>1≤c.Kind∧c.Kind≤8)) :
  Tri (iter (eG (i:Int) l) (vC b 0)) (fun x=>(lH E (l.map (fun c=>(c,(i:Int))))→∃ b',x = .inr (.inl (vC b' ((i + 1:Nat):Int)))∧lG (E++l.map (fun c=>(c,(i:Int)))) b') ∧
   (¬ lH E (l.map (fun c=>(c,(i:Int))))→x = .inr (.inr 1))):=by
 generalize hm:l.map (fun c=>(c,(i:Int)))=m;have hml:m.length=l.length:=by rw [← hm]; simp
 have hmi:∀ k:Nat,k < l.length→idx m (k:Int)=(idx l (k:Int),(i:Int)):=fun k hk=>by rw [← hm,tF hk]
 refine gm (k0:=0) l.length (fun k s=>∃ b',s=vC b' (k:Int)∧lG (E++m.take k) b'∧∀ j:Nat,j < k→BJ (E++m.take j) (idx m (j:Int)).1 (idx m (j:Int)).2) (Nat.zero_le _) ⟨b,rfl,by simpa using h,fun j hj=>absurd hj (Nat.not_lt_zero _)⟩ ?_
 rintro k s hk ⟨b',rfl,hb,hJ⟩;unfold eG vC
 dsimp only
 refine ay (fun a1 => ?_) (fun a1 => ?_)
 ·have a0:k < l.length:=by omega
  have hin:InK K (E++m.take k):=fun e he=>by
   rcases List.mem_append.1 he with he | he
   ·exact hEK e he
   ·have:=List.mem_of_mem_take he
    rw [← hm] at this
    obtain ⟨c,hc,rfl⟩:=List.mem_map.1 this;exact hlK c hc
  have hcK:(idx l (k:Int)).Key ∈ K:=hlK _ (by rw [dD rfl a0]; exact List.getElem_mem a0);have hw:w64 ((k:Int) + 1)=((k + 1:Nat):Int):=bW (by omega);obtain ⟨r,hr,q1,q2⟩:=Ct (c:=idx l (k:Int)) (w:=(i:Int)) hb (fun a2=>room hK a2 hb.nd hcK (hb.sub hin)) (hc k a0).1 (hc k a0).2 (by omega) (by simp; omega);refine au (by omega) (fM hr ?_);refine ay (fun h0 => ?_) (fun h0 => ?_)
  ·refine aC (aC (aC (ai ⟨fun hall => ?_,fun _=>rfl⟩)));have:=hall k (by omega)
   rw [hmi k a0] at this
   exact absurd (q1.2 this) h0
  ·refine ai ⟨a0,r.2,?_,?_,?_⟩
   ·rw [hw]
   ·rw [jw (by omega),hmi k a0,← List.append_assoc]
    exact q2 (by omega)
   ·intro j hj;rcases Nat.lt_or_ge j k with h1 | h1
    ·exact hJ j h1
    ·rw [show j=k by omega,hmi k a0]; exact q1.1 (by omega)
 ·have hw:w64 ((i:Int) + 1)=((i + 1:Nat):Int):=bW (by omega)
  rw [hw]
  have hfull:m.take k=m:=List.take_of_length_le (by omega)
  rw [hfull] at hb
  refine aC (aC (ai ⟨fun _=>⟨b',rfl,hb⟩,fun hno=>absurd (fun j hj=>hJ j (by omega)) hno⟩))
structure kT (h:History):Prop where
 names:lD h.Keys
 len:h.Txns.length≤32
 txn:∀ i:Nat,i < h.Txns.length→vD h i
 ents:lH [] (nL h h.Txns.length)
theorem keys_in {h:History} {i:Nat} (hi:qG h (idx h.Txns (i:Int))):∀ c ∈ bM h (idx h.Txns (i:Int)),c.Key ∈ h.Keys:=by
 intro c hc;obtain ⟨o,ho,rfl⟩:=List.mem_map.1 hc;have:=(sP.1 hi) o ho
 show idx h.Keys o.Key ∈ h.Keys
 rw [dD (n:=o.Key.toNat) (by omega) (by omega)]
 exact List.getElem_mem _
theorem Cu {h:History} {i:Nat} (hi:vD h i):(xR h i).length≤16:=by
 have:=hi.2.2.2.2.1
 simpa [xR,uj,bM] using this
theorem xe {h:History} (hs:sK h):Tri (ah h) (fun v=>(v=0↔kT h)∧(v=0∨v=1)):=by
 obtain ⟨a4,a5,a3⟩:=hs;obtain ⟨y,hy,hn⟩:=xQ (l:=h.Keys) (by omega);unfold ah fP
 simp only [cond_true,cond_false]
 repeat' (first | contradiction | with_reducible refine ay (fun hq => ?_) (fun hq => ?_) | with_reducible refine au (by first | omega | grind [bq]) ?_ | with_reducible refine aC ?_ | with_reducible refine bE ?_ | with_reducible refine bO ?_ | with_reducible refine bP ?_ | with_reducible refine bQ ?_ | with_reducible refine ai ?_ | refine fM hy ?_)
 ·exact ⟨⟨fun h=>absurd h (by decide),fun hS=>absurd (hn.2 hS.names) ‹¬y=true›⟩,.inr rfl⟩
 ·exact ⟨⟨fun h=>absurd h (by decide),fun hS=>absurd hS.len (by omega)⟩,.inr rfl⟩
 ·have hN:lD h.Keys:=hn.1 (Decidable.of_not_not ‹¬¬y=true›);have a2:h.Txns.length≤32:=by omega
  refine gm (k0:=0) h.Txns.length (fun k s=>∃ b,s=vC b (k:Int)∧lG (nL h k) b∧InK h.Keys (nL h k)∧(nL h k).length≤16 * k∧lH [] (nL h k)∧∀ j:Nat,j < k→vD h j) (Nat.zero_le _)
   ⟨⟨[],[],[],[],[]⟩,rfl,lG.start,fun e he=>by simp [nL] at he,by simp [nL],fun j hj=>by simp [nL] at hj,fun j hj=>absurd hj (Nat.not_lt_zero _)⟩ ?_
  rintro k s hk ⟨b,rfl,hb,hin,hlen,hents,hJ⟩;unfold iG iF vC
  simp only [cond_true,cond_false]
  have hbad:(k < h.Txns.length → ¬ vD h k)→k < h.Txns.length → ¬ kT h:=fun h1 h2 hS=>h1 h2 (hS.txn k h2);refine ay (fun a1 => ?_) (fun a1 => ?_)
  ·have a0:k < h.Txns.length:=by omega
   obtain ⟨p',hp',hp1'⟩:=qU (l:=h.Txns) a0 (by omega);have hco:uF (uj h (idx h.Txns (k:Int)))→(idx h.Txns (k:Int)).Ops.length≤16:=fun he=>by
    have:=he.2.2.1
    simpa [uj,bM] using this
   repeat' (first | contradiction | with_reducible refine ay (fun hq => ?_) (fun hq => ?_) | with_reducible refine au (by first | omega | grind [bq]) ?_ | with_reducible refine aC ?_ | with_reducible refine bE ?_ | with_reducible refine bO ?_ | with_reducible refine bP ?_ | with_reducible refine bQ ?_ | with_reducible refine ai ?_ | refine fM hp' ?_)
   ·exact ⟨⟨fun h=>absurd h (by decide),fun hS=>absurd (hp1'.2 (hS.txn k a0).1) ‹¬p'=true›⟩,.inr rfl⟩
   ·exact ⟨⟨fun h=>absurd h (by decide),fun hS=>absurd (hco (hS.txn k a0).2.2) (by omega)⟩,.inr rfl⟩
   ·refine zl (b:=b) a0 (a3 k a0) (by omega) (fun hno => ?_) (fun hKo hEv => ?_)
    ·exact ⟨⟨fun h=>absurd h (by decide),fun hS=>absurd ⟨(hS.txn k a0).2.1,(hS.txn k a0).2.2⟩ hno⟩,.inr rfl⟩
    ·have hok:vD h k:=⟨hp1'.1 (Decidable.of_not_not ‹¬¬p'=true›),hKo,hEv⟩;have hc:oN (bM h (idx h.Txns (k:Int))) (fun c=>1≤c.Kind∧c.Kind≤8):=fun j hj=>⟨(hEv.2.2.2 j hj).1,(hEv.2.2.2 j hj).2.1⟩;refine dG (Bb (i:=k) hb hN.1 hin (keys_in hKo) hEv.2.2.1 (by omega) (by omega) hc) (fun x hx => ?_)
     by_cases hall:lH (nL h k) (xR h k)
     ·obtain ⟨b',rfl,hb'⟩:=hx.1 hall;refine ⟨a0,b',rfl,by rw [om]; exact hb',?_,?_,?_,?_⟩
      ·rw [om]
       intro e he;rcases List.mem_append.1 he with he | he
       ·exact hin e he
       ·obtain ⟨c,hc,rfl⟩:=List.mem_map.1 he;exact keys_in hKo c hc
      ·have:=Cu hok
       rw [om,List.length_append]; omega
      ·rw [om]
       exact lH.append.2 ⟨hents,hall⟩
      ·intro j hj;rcases Nat.lt_or_ge j k with h1 | h1
       ·exact hJ j h1
       ·rw [show j=k by omega]; exact hok
     ·rw [hx.2 hall]
      refine ⟨⟨fun h=>absurd h (by decide),fun hS=>absurd ?_ hall⟩,.inr rfl⟩;have hsp:∀ n:Nat,k + 1≤n→lH [] (nL h n)→lH (nL h k) (xR h k):=by
       intro n
       induction n with
       | zero=>intro h; omega
       | succ n ih =>
        intro hn hE
        rw [om,lH.append] at hE
        rcases Nat.lt_or_ge k n with h1 | h1
        ·exact ih (by omega) hE.1
        ·rw [show n=k by omega] at hE
         exact hE.2
      exact hsp _ a0 hS.ents
  ·have a0:k=h.Txns.length:=by omega
   repeat' (first | contradiction | with_reducible refine ay (fun hq => ?_) (fun hq => ?_) | with_reducible refine au (by first | omega | grind [bq]) ?_ | with_reducible refine aC ?_ | with_reducible refine bE ?_ | with_reducible refine bO ?_ | with_reducible refine bP ?_ | with_reducible refine bQ ?_ | with_reducible refine ai ?_)
   rw [a0] at hents hJ
   exact ⟨⟨fun _=>⟨hN,a2,hJ,hents⟩,fun _=>rfl⟩,.inl rfl⟩
theorem Bc {h:History} (hs:sK h):∃ v,az h=some v∧ah h=some v∧(v=0∨v=1)∧(v=0↔kT h):=by
 obtain ⟨v,hv,v',hv',rfl,a0⟩:=wE hs;obtain ⟨w,hw,h1,h2⟩:=xe hs;have:v=w:=Option.some.inj (hv'.symm.trans hw);subst this;exact ⟨v,hv,hv',a0,h1⟩
end Go.Proofs.YtnlkggppokcmfaaT
namespace Go.Proofs.YtnlkggppokcmfaaT
open Go Go.Proofs Go.Proofs.YtnlkggppokcmfaaE
set_option linter.unusedVariables false
set_option linter.unusedSimpArgs false
def qj (ops:List Op) (key:Int) (p:Nat):List Int:=((ops.take p).filter (fun o=>decide (o.Key=key∧o.Kind≤4))).map (·.Arg)
theorem Cv {ops:List Op} {key:Int}:qj ops key 0=[]:=rfl
theorem wG {ops:List Op} {key:Int} {p:Nat} (h:p < ops.length):qj ops key (p + 1)=if (idx ops (p:Int)).Key=key∧(idx ops (p:Int)).Kind≤4 then qj ops key p++[(idx ops (p:Int)).Arg] else qj ops key p:=by
 unfold qj
 rw [jw h,List.filter_append,List.map_append]
 by_cases e:(idx ops (p:Int)).Key=key∧(idx ops (p:Int)).Kind≤4
 ·simp [e]
 ·rw [if_neg e]
  simp only [List.filter_cons,List.filter_nil,decide_eq_true_eq,if_neg e]
  simp
theorem vE {ops:List Op} {key:Int} {p:Nat}:(qj ops key p).length≤ops.length:=by
 unfold qj
 rw [List.length_map]
 exact Nat.le_trans (List.length_filter_le _ _) (by simp; omega)
def wL (ops:List Op) (t:Int) (p:Nat):List Ask :=
 let o:=idx ops (p:Int)
 let mine:=qj ops o.Key p
 if o.Kind≤4 then [] else if mine=[] then [⟨t,p,o.Key,o.Vals⟩] else if (before (o.Kind - 4) o.Vals mine).2=true∧o.Kind≠5 then [⟨t,p,o.Key,(before (o.Kind - 4) o.Vals mine).1⟩] else []
def xS (ops:List Op) (t:Int) (p:Nat):List fq :=
 let o:=idx ops (p:Int)
 let mine:=qj ops o.Key p
 if o.Kind≤4 then [] else if mine=[] then [] else if (before (o.Kind - 4) o.Vals mine).2=true then [] else [⟨t,p⟩]
def oo (ops:List Op) (t:Int) (k:Nat):List Ask:=(List.range k).flatMap (wL ops t)
def pG (ops:List Op) (t:Int) (k:Nat):List fq:=(List.range k).flatMap (xS ops t)
theorem wM {ops:List Op} {t:Int} {k:Nat}:oo ops t (k + 1)=oo ops t k++wL ops t k:=by
 unfold oo; rw [List.range_succ,List.flatMap_append]; simp
theorem vF {ops:List Op} {t:Int} {k:Nat}:pG ops t (k + 1)=pG ops t k++xS ops t k:=by
 unfold pG; rw [List.range_succ,List.flatMap_append]; simp
theorem xU {ops:List Op} {t:Int} {k:Nat}:(oo ops t k).length≤k:=by
 induction k with
 | zero=>simp [oo]
 | succ k ih =>
  rw [wM,List.length_append]
  have:(wL ops t k).length≤1:=by
   unfold wL
   dsimp only
   split
   ·simp
   ·split
    ·simp
    ·split <;> simp
  omega
theorem wN {ops:List Op} {t:Int} {k:Nat}:(pG ops t k).length≤k:=by
 induction k with
 | zero=>simp [pG]
 | succ k ih =>
  rw [vF,List.length_append]
  have:(xS ops t k).length≤1:=by
   unfold xS
   dsimp only
   split
   ·simp
   ·split
    ·simp
    ·split <;> simp
  omega
def pX (h:History) (t:Int):List Ask:=if (idx h.Txns t).Status=1 then oo (idx h.Txns t).Ops t (idx h.Txns t).Ops.length else []
def tu (h:History) (t:Int):List fq:=if (idx h.Txns t).Status=1 then pG (idx h.Txns t).Ops t (idx h.Txns t).Ops.length else []
def Dq (ops:List Op):Prop:=ops.length≤16∧oN ops (fun o=>1≤o.Kind∧o.Kind≤8∧o.Vals.length≤64)
theorem vD.ops {h:History} {i:Nat} (hi:vD h i):Dq (idx h.Txns (i:Int)).Ops:=by
 obtain ⟨_,_,_,_,h1,h2⟩:=hi;refine ⟨by simpa [uj,bM] using h1,fun j hj => ?_⟩
 have:=h2 j (by simpa [uj,bM] using hj)
 dsimp only [uj,bM] at this
 rw [tF hj] at this
 unfold nH sH at this
 dsimp only at this
 grind
theorem Cw {h:History} {t:Nat} {f:dw} (ht:t < h.Txns.length) (ho:Dq (idx h.Txns (t:Int)).Ops) (ha:f.asks.length≤1000000) (hb:f.bad.length≤1000000) :
  Tri (aJ f h (t:Int)) (fun r=>r=⟨f.asks++pX h (t:Int),f.bad++tu h (t:Int)⟩):=by
 unfold aJ pX tu;refine au (by omega) ?_;refine ay (fun h1 => ?_) (fun h1 => ?_)
 ·rw [if_neg h1,if_neg h1]
  exact ai (by simp)
 ·have h1:(idx h.Txns (t:Int)).Status=1:=Decidable.of_not_not h1
  rw [if_pos h1,if_pos h1]
  generalize hx:(idx h.Txns (t:Int)).Ops=ops at ho ⊢;obtain ⟨a3,hall⟩:=ho;refine gm (k0:=0) ops.length (fun k s=>s.1=f.asks++oo ops (t:Int) k∧s.2.1=f.bad++pG ops (t:Int) k∧(∀ key,mat s.2.2.1 key=qj ops key k)∧s.2.2.2=(k:Int)) (Nat.zero_le _)
   ⟨by simp [oo],by simp [pG],fun key=>rfl,rfl⟩ ?_
  rintro k ⟨l1,l2,m,x⟩ hk ⟨e1,e2,hm,e4⟩
  dsimp only at e1 e2 hm e4
  subst e1 e2 e4;unfold ky iP iO fe
  simp only [cond_true,cond_false,hx,hm]
  have hw:w64 ((k:Int) + 1)=((k + 1:Nat):Int):=bW (by omega);have l1:=xU (ops:=ops) (t:=(t:Int)) (k:=k);have l2:=wN (ops:=ops) (t:=(t:Int)) (k:=k);have l3:=vE (ops:=ops) (key:=(idx ops (k:Int)).Key) (p:=k);have hn:∀ key,k < ops.length→qj ops key (k + 1)=_:=fun key hk=>wG hk
  rw [hw]
  refine ay (fun a2 => ?_) (fun a2 => ?_)
  ·have a0:k < ops.length:=by omega
   obtain ⟨o1,o2,o3⟩:=hall k a0;have a1:w64 ((idx ops (k:Int)).Kind - 4)=(idx ops (k:Int)).Kind - 4:=bq (by omega) (by omega);have hbf:=vw ((idx ops (k:Int)).Kind - 4) (s:=(idx ops (k:Int)).Vals) (args:=qj ops (idx ops (k:Int)).Key k) (by omega) (by omega);have hcl:dO (idx ops (k:Int)).Vals=some (idx ops (k:Int)).Vals:=jr _ (by omega)
   rw [a1,hbf,hcl]
   simp only [List.length_append]
   have hA:=wM (ops:=ops) (t:=(t:Int)) (k:=k);have hB:=vF (ops:=ops) (t:=(t:Int)) (k:=k);have hnil:∀ l:List Int,l=[]↔l.length=0:=fun l=>List.length_eq_zero_iff.symm;unfold wL at hA;unfold xS at hB
   dsimp only at hA hB
   repeat' (first | contradiction | with_reducible refine ay (fun hq => ?_) (fun hq => ?_) | with_reducible refine au (by first | omega | grind [bq]) ?_ | with_reducible refine aC ?_ | with_reducible refine bE ?_ | with_reducible refine bO ?_ | with_reducible refine bP ?_ | with_reducible refine bQ ?_ | with_reducible refine ai ?_)
   all_goals (refine ⟨a0,?_,?_,fun key => ?_,rfl⟩ <;> dsimp only)
   all_goals grind [mO]
  ·have:k=ops.length:=by omega
   subst this
   repeat' (first | contradiction | with_reducible refine ay (fun hq => ?_) (fun hq => ?_) | with_reducible refine au (by first | omega | grind [bq]) ?_ | with_reducible refine aC ?_ | with_reducible refine bE ?_ | with_reducible refine bO ?_ | with_reducible refine bP ?_ | with_reducible refine bQ ?_ | with_reducible refine ai ?_)
   rfl
end Go.Proofs.YtnlkggppokcmfaaT
namespace Go.Proofs.YtnlkggppokcmfaaT
open Go Go.Proofs Go.Proofs.YtnlkggppokcmfaaE
set_option linter.unusedVariables false
set_option linter.unusedSimpArgs false
end Go.Proofs.YtnlkggppokcmfaaT
namespace Go.Proofs.YtnlkggppokcmfaaT
open Go Go.Proofs Go.Proofs.YtnlkggppokcmfaaE
set_option linter.unusedVariables false
set_option linter.unusedSimpArgs false
abbrev OG (y:Op):Prop:=((Lit.int .i64 (y).Kind).wf=true)∧((Lit.int .i64 (y).Key).wf=true)∧((Lit.int .i64 (y).Arg).wf=true)∧(True)∧((∀ z ∈ (y).Vals,(Lit.int .i64 z).wf=true)∧((y).Vals).length * 8≤140737488351232)
abbrev TG (y:Txn):Prop:=((Lit.int .i64 (y).Proc).wf=true)∧((Lit.int .i64 (y).Status).wf=true)∧((Lit.int .i64 (y).From).wf=true)∧((Lit.int .i64 (y).To).wf=true)∧((∀ z ∈ (y).Ops,OG z)∧((y).Ops).length * 56≤140737488351232)
abbrev HG (K:ByteArray→Prop) (x:History):Prop:=((∀ y ∈ (x).Keys,K y)∧((x).Keys).length * 16≤140737488351232)∧((∀ y ∈ (x).Txns,TG y)∧((x).Txns).length * 56≤140737488351232)
theorem HG.small {K:ByteArray→Prop} {h:History} (g:HG K h):sK h :=
 ⟨g.1.2,g.2.2,sP.2 fun t ht=>⟨(g.2.1 t ht).2.2.2.2.2,sP.2 fun o ho=>((g.2.1 t ht).2.2.2.2.1 o ho).2.2.2.2.2⟩⟩
theorem zm {h:History} {t:Nat} (ho:Dq (idx h.Txns (t:Int)).Ops):(pX h (t:Int)).length≤16∧(tu h (t:Int)).length≤16∧oN (pX h (t:Int)) (fun x=>x.Base.length < 2 ^ 62):=by
 have h1:=xU (ops:=(idx h.Txns (t:Int)).Ops) (t:=(t:Int)) (k:=(idx h.Txns (t:Int)).Ops.length);have h2:=wN (ops:=(idx h.Txns (t:Int)).Ops) (t:=(t:Int)) (k:=(idx h.Txns (t:Int)).Ops.length);have h3:=ho.1;refine ⟨?_,?_,?_⟩
 ·unfold pX; split
  ·omega
  ·simp
 ·unfold tu; split
  ·omega
  ·simp
 ·rw [sP]
  intro x hx;unfold pX at hx
  split at hx
  ·unfold oo at hx
   rw [List.mem_flatMap] at hx
   obtain ⟨p,hp,hx⟩:=hx;have hp:p < _:=List.mem_range.1 hp;have hv:=(ho.2 p hp).2.2;have hb:=zh ((idx (idx h.Txns (t:Int)).Ops (p:Int)).Kind - 4) (idx (idx h.Txns (t:Int)).Ops (p:Int)).Vals (qj (idx h.Txns (t:Int)).Ops (idx (idx h.Txns (t:Int)).Ops (p:Int)).Key p);unfold wL at hx
   dsimp only at hx
   split at hx
   ·simp at hx
   ·split at hx
    ·simp at hx; subst hx; dsimp only; omega
    ·split at hx
     ·simp at hx; subst hx; dsimp only; omega
     ·simp at hx
  ·simp at hx
end Go.Proofs.YtnlkggppokcmfaaT
namespace Go.Proofs.YtnlkggppokcmfaaT
open Go Go.Proofs Go.Proofs.YtnlkggppokcmfaaE
set_option linter.unusedVariables false
set_option linter.unusedSimpArgs false
def dH (h:History) (k:Nat):List Ask:=(List.range k).flatMap (fun t=>pX h ((t:Nat):Int))
def gM (h:History) (k:Nat):List fq:=(List.range k).flatMap (fun t=>tu h ((t:Nat):Int))
theorem vG {h:History} {k:Nat}:dH h (k + 1)=dH h k++pX h (k:Int):=by
 unfold dH; rw [List.range_succ,List.flatMap_append]; simp
theorem ut {h:History} {k:Nat}:gM h (k + 1)=gM h k++tu h (k:Int):=by
 unfold gM; rw [List.range_succ,List.flatMap_append]; simp
theorem yQ {h:History} (hS:kT h):∀ k:Nat,k≤h.Txns.length→(dH h k).length≤16 * k∧(gM h k).length≤16 * k∧oN (dH h k) (fun x=>x.Base.length < 2 ^ 62):=by
 intro k
 induction k with
 | zero=>intro _; simp [dH,gM,oN]
 | succ k ih =>
  intro hk;obtain ⟨i1,i2,i3⟩:=ih (by omega);obtain ⟨b1,b2,b3⟩:=zm (hS.txn k (by omega)).ops
  rw [vG,ut,List.length_append,List.length_append]
  refine ⟨by omega,by omega,?_⟩
  rw [sP] at i3 b3 ⊢
  intro x hx;rcases List.mem_append.1 hx with hx | hx
  ·exact i3 x hx
  ·exact b3 x hx
theorem zR {h:History} (hs:sK h) (hS:kT h) (hc:az h=some 0):iT h=some (⟨dH h h.Txns.length,gM h h.Txns.length⟩,0):=by
 have a2:=hS.len;refine kR.1 ?_;unfold iT;refine fM hc ?_
 rw [bne_self_eq_false,cond_false]
 refine gm (k0:=0) h.Txns.length (fun k s=>s=(dH h k,gM h k,(k:Int))) (Nat.zero_le _) rfl ?_;rintro k s hk rfl;have hw:w64 ((k:Int) + 1)=((k + 1:Nat):Int):=bW (by omega);obtain ⟨i1,i2,i3⟩:=yQ hS k hk;unfold qz
 dsimp only
 refine ay (fun a1 => ?_) (fun a1 => ?_)
 ·have a0:k < h.Txns.length:=by omega
  refine eP (Cw a0 (hS.txn k a0).ops (by dsimp only; omega) (by dsimp only; omega)) (fun r hr => ?_);subst hr;refine ai ⟨a0,?_⟩
  dsimp only
  rw [hw,vG,ut]
 ·have:k=h.Txns.length:=by omega
  subst this;exact aC (ai rfl)
end Go.Proofs.YtnlkggppokcmfaaT
namespace Go.Proofs.YtnlkggppokcmfaaT
open Go Go.Proofs Go.Proofs.YtnlkggppokcmfaaE
set_option linter.unusedVariables false
set_option linter.unusedSimpArgs false
def jK (h:History) (t:Int) (key:Int):List Int:=qj (idx h.Txns t).Ops key (idx h.Txns t).Ops.length
theorem zS {h:History} {t key:Int}:(jK h t key).length≤(idx h.Txns t).Ops.length:=vE
theorem Bd {x:Txn} {key:Int} (ho:x.Ops.length≤16):cz x key=some (qj x.Ops key x.Ops.length):=by
 refine kR.1 ?_;unfold cz;refine gm (k0:=0) x.Ops.length (fun k s=>s=(qj x.Ops key k,(k:Int))) (Nat.zero_le _) rfl ?_;rintro k s hk rfl;have hw:w64 ((k:Int) + 1)=((k + 1:Nat):Int):=bW (by omega);have l3:=vE (ops:=x.Ops) (key:=key) (p:=k);have hn:k < x.Ops.length→qj x.Ops key (k + 1)=_:=fun hk=>wG hk;unfold nU lm lh
 dsimp only
 rw [hw]
 refine ay (fun a1 => ?_) (fun a1 => ?_)
 ·have a0:k < x.Ops.length:=by omega
  replace hn:=hn a0
  repeat' (first | contradiction | with_reducible refine ay (fun hq => ?_) (fun hq => ?_) | with_reducible refine au (by first | omega | grind [bq]) ?_ | with_reducible refine aC ?_ | with_reducible refine bE ?_ | with_reducible refine bO ?_ | with_reducible refine bP ?_ | with_reducible refine bQ ?_ | with_reducible refine ai ?_)
  all_goals (refine ⟨a0,?_⟩; dsimp only; grind)
 ·have:k=x.Ops.length:=by omega
  subst this
  repeat' (first | contradiction | with_reducible refine ay (fun hq => ?_) (fun hq => ?_) | with_reducible refine au (by first | omega | grind [bq]) ?_ | with_reducible refine aC ?_ | with_reducible refine bE ?_ | with_reducible refine bO ?_ | with_reducible refine bP ?_ | with_reducible refine bQ ?_ | with_reducible refine ai ?_)
  all_goals rfl
theorem Be {h:History} (hS:kT h) (hc:az h=some 0) {t key:Int}:fu h t key =
  some (if 0≤t∧t < (h.Txns.length:Int) then (jK h t key,decide (0 < (jK h t key).length)) else ([],false)):=by
 refine kR.1 ?_;unfold fu jR
 simp only [hc,Option.bind_some]
 by_cases ht:0≤t∧t < (h.Txns.length:Int)
 ·have h2:t=((t.toNat:Nat):Int):=by omega
  have ho:=(hS.txn t.toNat (by omega)).ops.1
  rw [← h2] at ho
  have hwt:=Bd (x:=idx h.Txns t) (key:=key) ho
  simp only [hwt,Option.bind_some]
  rw [if_pos ht]
  unfold jK
  repeat' (first | contradiction | with_reducible refine ay (fun hq => ?_) (fun hq => ?_) | with_reducible refine au (by first | omega | grind [bq]) ?_ | with_reducible refine aC ?_ | with_reducible refine bE ?_ | with_reducible refine bO ?_ | with_reducible refine bP ?_ | with_reducible refine bQ ?_ | with_reducible refine ai ?_)
  all_goals (first | omega | simp)
 ·rw [if_neg ht]
  repeat' (first | contradiction | with_reducible refine ay (fun hq => ?_) (fun hq => ?_) | with_reducible refine au (by first | omega | grind [bq]) ?_ | with_reducible refine aC ?_ | with_reducible refine bE ?_ | with_reducible refine bO ?_ | with_reducible refine bP ?_ | with_reducible refine bQ ?_ | with_reducible refine ai ?_)
  all_goals (first | omega | rfl | simp)
end Go.Proofs.YtnlkggppokcmfaaT
namespace Go.Proofs.YtnlkggppokcmfaaT
open Go Go.Proofs Go.Proofs.YtnlkggppokcmfaaE
set_option linter.unusedVariables false
set_option linter.unusedSimpArgs false
def opAt (h:History) (t p:Int):Op:=idx (idx h.Txns t).Ops p
theorem BL {h:History} {n t p:Nat} (ht:t < n) (hp:p < (idx h.Txns (t:Int)).Ops.length):(sH h (opAt h (t:Int) (p:Int)),(t:Int)) ∈ nL h n:=by
 unfold nL xR bM opAt
 rw [List.mem_flatMap]
 refine ⟨t,List.mem_range.2 ht,?_⟩
 rw [List.map_map,List.mem_map]
 refine ⟨idx (idx h.Txns (t:Int)).Ops (p:Int),?_,rfl⟩
 rw [dD (n:=p) rfl hp]
 exact List.getElem_mem _
theorem Dr {L:List (Call×Int)} (h:lH [] L) {e f:Call×Int} (he:e ∈ L) (hf:f ∈ L) (hk:e.1.Key=f.1.Key):typ e.1.Kind=typ f.1.Kind:=by
 obtain ⟨i,hi,rfl⟩:=List.getElem_of_mem he;obtain ⟨j,hj,rfl⟩:=List.getElem_of_mem hf;rcases Nat.lt_trichotomy i j with hij | hij | hij
 ·have:=(h j hj).1 L[i] (by rw [List.nil_append]; exact List.mem_take_iff_getElem.2 ⟨i,by omega,rfl⟩) (by rw [dD (n:=j) rfl hj]; exact hk)
  rwa [dD (n:=j) rfl hj] at this
 ·subst hij; rfl
 ·have:=(h i hi).1 L[j] (by rw [List.nil_append]; exact List.mem_take_iff_getElem.2 ⟨j,by omega,rfl⟩) (by rw [dD (n:=i) rfl hi]; exact hk.symm)
  rw [dD (n:=i) rfl hi] at this
  exact this.symm
theorem zT {h:History} (hS:kT h) {t p t' p':Nat} (ht:t < h.Txns.length) (hp:p < (idx h.Txns (t:Int)).Ops.length) (ht':t' < h.Txns.length) (hp':p' < (idx h.Txns (t':Int)).Ops.length)
  (hk:(opAt h (t:Int) (p:Int)).Key=(opAt h (t':Int) (p':Int)).Key):typ (opAt h (t:Int) (p:Int)).Kind=typ (opAt h (t':Int) (p':Int)).Kind :=
 Dr hS.ents (BL ht hp) (BL ht' hp') (by show idx h.Keys _=idx h.Keys _; rw [hk])
theorem zn {h:History} (hS:kT h) {t p:Nat} (ht:t < h.Txns.length) (hp:p < (idx h.Txns (t:Int)).Ops.length):1≤(opAt h (t:Int) (p:Int)).Kind∧(opAt h (t:Int) (p:Int)).Kind≤8:=by
 obtain ⟨h1,h2⟩:=(hS.txn t ht).ops;have:=h2 p hp;exact ⟨this.1,this.2.1⟩
theorem Cx {h:History} (hS:kT h) (hc:az h=some 0) {key:Int} {t0 p0:Nat} (a5:t0 < h.Txns.length) (a2:p0 < (idx h.Txns (t0:Int)).Ops.length) (a4:(opAt h (t0:Int) (p0:Int)).Key=key) :
  dK h key=some (typ (opAt h (t0:Int) (p0:Int)).Kind):=by
 have b0:=hS.len;refine kR.1 ?_;unfold dK;refine fM hc ?_
 rw [bne_self_eq_false,cond_false]
 refine gm (k0:=0) h.Txns.length (fun k s=>s=(k:Int)∧∀ t p:Nat,t < k→p < (idx h.Txns (t:Int)).Ops.length→(opAt h (t:Int) (p:Int)).Key≠key) (Nat.zero_le _) ⟨rfl,fun t p h=>absurd h (Nat.not_lt_zero _)⟩ ?_;rintro k s hk ⟨rfl,hno⟩;have hw:w64 ((k:Int) + 1)=((k + 1:Nat):Int):=bW (by omega);unfold pR;refine ay (fun a6 => ?_) (fun a6 => ?_)
 ·have a0:k < h.Txns.length:=by omega
  refine au (by omega) ?_;have a9:=(hS.txn k a0).ops.1;refine gm (k0:=0) (idx h.Txns (k:Int)).Ops.length (fun m s=>s=(m:Int)∧∀ p:Nat,p < m→(opAt h (k:Int) (p:Int)).Key≠key) (Nat.zero_le _) ⟨rfl,fun p h=>absurd h (Nat.not_lt_zero _)⟩ ?_;rintro m s hm ⟨rfl,a3⟩;have a7:w64 ((m:Int) + 1)=((m + 1:Nat):Int):=bW (by omega);unfold pQ
  dsimp only
  rw [hw,a7]
  refine ay (fun a8 => ?_) (fun a8 => ?_)
  ·have a1:m < (idx h.Txns (k:Int)).Ops.length:=by omega
   refine au (by omega) ?_;refine ay (fun he => ?_) (fun he => ?_)
   ·obtain ⟨k1,k2⟩:=zn hS a0 a1;refine fM (sJ k1 k2) (aC (aC (ai ?_)));exact zT hS a0 a1 a5 a2 ((show (opAt h (k:Int) (m:Int)).Key=key from he).trans a4.symm)
   ·refine ai ⟨a1,rfl,fun p hp => ?_⟩;rcases Nat.lt_or_ge p m with h1 | h1
    ·exact a3 p h1
    ·have:p=m:=by omega
     subst this;exact he
  ·have:m=(idx h.Txns (k:Int)).Ops.length:=by omega
   subst this;refine aC (ai ⟨a0,rfl,fun t p ht hp => ?_⟩);rcases Nat.lt_or_ge t k with h1 | h1
   ·exact hno t p h1 hp
   ·have:t=k:=by omega
    subst this;exact a3 p hp
 ·have:k=h.Txns.length:=by omega
  subst this;exact absurd a4 (hno t0 p0 a5 a2)
end Go.Proofs.YtnlkggppokcmfaaT
namespace Go.Proofs.YtnlkggppokcmfaaT
open Go Go.Proofs Go.Proofs.YtnlkggppokcmfaaE
set_option linter.unusedVariables false
set_option linter.unusedSimpArgs false
def Gz (h:History) (key ty:Int):Prop:=∀ t p:Nat,t < h.Txns.length→p < (idx h.Txns (t:Int)).Ops.length→(opAt h (t:Int) (p:Int)).Key=key→typ (opAt h (t:Int) (p:Int)).Kind=ty
theorem Cy {h:History} {t key v:Int}:v ∈ jK h t key↔∃ o ∈ (idx h.Txns t).Ops,o.Key=key∧o.Kind≤4∧o.Arg=v:=by
 unfold jK qj
 rw [List.take_length]
 simp only [List.mem_map,List.mem_filter,decide_eq_true_eq]
 constructor
 ·rintro ⟨o,⟨h1,h2,h3⟩,h4⟩; exact ⟨o,h1,h2,h3,h4⟩
 ·rintro ⟨o,h1,h2,h3,h4⟩; exact ⟨o,⟨h1,h2,h3⟩,h4⟩
theorem GA {h:History} {t:Nat} {o:Op} (ho:o ∈ (idx h.Txns (t:Int)).Ops):∃ p:Nat,p < (idx h.Txns (t:Int)).Ops.length∧opAt h (t:Int) (p:Int)=o:=by
 obtain ⟨p,hp,rfl⟩:=List.getElem_of_mem ho;exact ⟨p,hp,dD rfl hp⟩
structure FR (h:History) (a:Ask) (t p:Nat):Prop where
 tl:t < h.Txns.length
 pl:p < (idx h.Txns (t:Int)).Ops.length
 e1:a.Txn=(t:Int)
 e2:a.Place=(p:Int)
 e3:a.Key=(opAt h (t:Int) (p:Int)).Key
 rd:5≤(opAt h (t:Int) (p:Int)).Kind
 b64:a.Base.length≤64
 b4:typ (opAt h (t:Int) (p:Int)).Kind=4→a.Base.length=1
 b3:typ (opAt h (t:Int) (p:Int)).Kind=3→a.Base.Nodup
theorem yR {s:List Int} (h:Asc s):s.Nodup:=by
 exact (tq.1 h).imp (fun h=>by omega)
theorem Dt {h:History} (hS:kT h) {a:Ask} (ha:a ∈ dH h h.Txns.length):∃ t p,FR h a t p:=by
 unfold dH at ha;obtain ⟨t,ht,ha⟩:=List.mem_flatMap.1 ha;have ht:=List.mem_range.1 ht;unfold pX at ha
 split at ha
 case isFalse=>cases ha
 case isTrue hst =>
 unfold oo at ha;obtain ⟨p,hp,ha⟩:=List.mem_flatMap.1 ha;have hp:=List.mem_range.1 hp;refine ⟨t,p,?_⟩;obtain ⟨k1,k8⟩:=zn hS ht hp;obtain ⟨_,_,_,_,_,hcs⟩:=hS.txn t ht;have hc:=hcs p (by simpa [uj,bM] using hp)
 dsimp only [uj,bM] at hc
 rw [tF hp] at hc
 unfold nH sH at hc
 dsimp only at hc
 unfold wL at ha
 dsimp only at ha
 have ho:idx (idx h.Txns (t:Int)).Ops (p:Int)=opAt h (t:Int) (p:Int):=rfl
 rw [ho] at ha hc
 generalize opAt h (t:Int) (p:Int)=o at ha hc k1 k8 ho;obtain ⟨c1,c8,c3,c4,c5,c6⟩:=hc;have hoo:opAt h (t:Int) (p:Int)=o:=ho
 split at ha
 ·cases ha
 ·rename_i h4
  obtain ⟨d1,d2,d3,d4⟩:=c6 (by omega);have hg:o.Got=true:=d2.2 hst;obtain ⟨f1,f2,f3,f4⟩:=d4 hg
  split at ha
  ·rw [List.mem_singleton] at ha
   subst ha;exact ⟨ht,hp,rfl,rfl,by rw [hoo],by rw [hoo]; omega,f4,fun h=>f2 (by rw [hoo] at h; unfold typ at h; omega),fun h=>yR (f3 (by rw [hoo] at h; unfold typ at h; omega))⟩
  ·split at ha
   ·rename_i hb
    rw [List.mem_singleton] at ha
    subst ha;obtain ⟨hb,h5⟩:=hb;refine ⟨ht,hp,rfl,rfl,by rw [hoo],by rw [hoo]; omega,?_,fun h => ?_,fun h => ?_⟩
    ·dsimp only
     unfold before;have:=List.length_filter_le (fun x=>decide (x ∉ qj (idx h.Txns (t:Int)).Ops o.Key p)) o.Vals
     split
     ·simp
     ·split
      ·simp
      ·split
       ·split
        ·simp; omega
        ·simp
       ·split
        ·split
         ·dsimp only; omega
         ·simp
        ·simp
    ·have h8:o.Kind=8:=by rw [hoo] at h; unfold typ at h; omega
     dsimp only
     unfold before at hb ⊢
     rw [h8] at hb ⊢
     split at hb
     ·cases hb
     ·rename_i hq
      rw [if_neg hq]
      simp
    ·have h7:o.Kind=7:=by rw [hoo] at h; unfold typ at h; omega
     have hnd:=yR (f3 h7)
     dsimp only
     unfold before
     rw [h7]
     split
     ·simp
     ·simp only [show ¬ ((7:Int) - 4=1) by omega,show ¬ ((7:Int) - 4=2) by omega,if_false]
      split
      ·split
       ·exact hnd.filter _
       ·simp
      ·rename_i h0
       exact absurd (show (7:Int) - 4=3 by omega) h0
   ·cases ha
end Go.Proofs.YtnlkggppokcmfaaT
namespace Go.Proofs.YtnlkggppokcmfaaT
open Go Go.Proofs Go.Proofs.YtnlkggppokcmfaaE
set_option linter.unusedVariables false
set_option linter.unusedSimpArgs false
structure Parts (O:List Int) (W:Int→List Int):Prop where
 ne:∀ t ∈ O,0 < (W t).length
 ap:∀ t ∈ O,∀ u ∈ O,∀ v,v ∈ W t→v ∈ W u→t=u
 nd:∀ t ∈ O,(W t).Nodup
 ol:O.length≤32
 wl:∀ t ∈ O,(W t).length≤16
 pos:∀ t ∈ O,0≤t
section
variable {O:List Int} {W:Int→List Int}
theorem qH {l:List Int} {j:Nat} (hj:j < l.length):idx l (j:Int) ∈ l:=by rw [dD (n:=j) rfl hj]; exact List.getElem_mem _
theorem BN {l:List Int} {t:Int} (h:t ∈ l):∃ j:Nat,j < l.length∧idx l (j:Int)=t:=by
 obtain ⟨j,hj,e⟩:=List.getElem_of_mem h;exact ⟨j,hj,(dD rfl hj).trans e⟩
theorem zU {p s:List Int} (hp:p <+: s) (h0:0 < p.length):idx p 0=idx s 0:=by
 obtain ⟨r,rfl⟩:=hp;exact (iK (j:=0) h0).symm
theorem Bf (hP:Parts O W) {rest:List Int} {t u:Int} (ht:t ∈ O) (hu:u ∈ O) (h1:idx (W t) 0=idx rest 0) (h2:idx (W u) 0=idx rest 0):t=u:=by
 have e1:=hP.ne t ht;have e2:=hP.ne u hu;refine hP.ap t ht u hu (idx rest 0) ?_ ?_
 ·rw [← h1]; exact qH (j:=0) e1
 ·rw [← h2]; exact qH (j:=0) e2
end
end Go.Proofs.YtnlkggppokcmfaaT
namespace Go.Proofs.YtnlkggppokcmfaaT
open Go Go.Proofs Go.Proofs.YtnlkggppokcmfaaE
set_option linter.unusedVariables false
set_option linter.unusedSimpArgs false
def Stp (O:List Int) (W:Int→List Int) (rest l:List Int):Option (Option Int)→Prop
 | none=>rest.length=0
 | some none=>0 < rest.length∧∀ t ∈ O,W t <+: rest→t ∈ l
 | some (some t)=>0 < rest.length∧t ∈ O∧W t <+: rest∧t ∉ l
section
variable {O:List Int} {W:Int→List Int} {rest l:List Int}
theorem Stp.det (hP:Parts O W) {x y:Option (Option Int)} (hx:Stp O W rest l x) (hy:Stp O W rest l y):x=y:=by
 match x,y,hx,hy with
 | none,none,_,_=>rfl
 | none,some none,h1,h2=>exact absurd (show rest.length=0 from h1) (by have:0 < rest.length:=h2.1; omega)
 | none,some (some t),h1,h2=>exact absurd (show rest.length=0 from h1) (by have:0 < rest.length:=h2.1; omega)
 | some none,none,h1,h2=>exact absurd (show rest.length=0 from h2) (by have:0 < rest.length:=h1.1; omega)
 | some (some t),none,h1,h2=>exact absurd (show rest.length=0 from h2) (by have:0 < rest.length:=h1.1; omega)
 | some none,some none,_,_=>rfl
 | some none,some (some t),h1,h2=>exact absurd (h1.2 t h2.2.1 h2.2.2.1) h2.2.2.2
 | some (some t),some none,h1,h2=>exact absurd (h2.2 t h1.2.1 h1.2.2.1) h1.2.2.2
 | some (some t),some (some u),h1,h2 =>
  rw [Bf hP h1.2.1 h2.2.1 (zU h1.2.2.1 (hP.ne t h1.2.1)) (zU h2.2.2.1 (hP.ne u h2.2.1))]
end
end Go.Proofs.YtnlkggppokcmfaaT
namespace Go.Proofs.YtnlkggppokcmfaaT
open Go Go.Proofs Go.Proofs.YtnlkggppokcmfaaE
set_option linter.unusedVariables false
set_option linter.unusedSimpArgs false
section
variable {O:List Int} {W:Int→List Int} {rest l:List Int}
end
end Go.Proofs.YtnlkggppokcmfaaT
namespace Go.Proofs.YtnlkggppokcmfaaT
open Go Go.Proofs Go.Proofs.YtnlkggppokcmfaaE
set_option linter.unusedVariables false
set_option linter.unusedSimpArgs false
theorem xw {l:List Int}:∀ {m:List Int},l.Nodup→(∀ x ∈ l,x ∈ m)→l.length≤m.length:=by
 induction l with
 | nil=>intro m _ _; simp
 | cons x l ih =>
  intro m hn hs;obtain ⟨h1,h2⟩:=List.nodup_cons.1 hn;have hx:=hs x (by simp);have:=ih (m:=m.erase x) h2 (fun y hy=>(List.mem_erase_of_ne (fun (e:y=x)=>h1 (e ▸ hy))).2 (hs y (by simp [hy])))
  rw [List.length_erase_of_mem hx] at this
  have:0 < m.length:=List.length_pos_of_mem hx
  simp
  omega
def cnt (base w:List Int):Nat:=(w.filter (fun v=>decide (v ∈ base))).length
def Whole (O:List Int) (W:Int→List Int) (base:List Int):Prop:=(∀ t ∈ O,cnt base (W t)=0∨cnt base (W t)=(W t).length)∧∀ v ∈ base,∃ t ∈ O,v ∈ W t
def GD (O:List Int) (W:Int→List Int) (base:List Int):List Int:=O.filter (fun t=>decide (0 < cnt base (W t)))
def zo (O:List Int) (W:Int→List Int) (base:List Int) (r:List Int×Bool):Prop:=(r=(GD O W base,true)∧Whole O W base)∨(r=([],false) ∧ ¬ Whole O W base)
theorem zo.det {O:List Int} {W:Int→List Int} {base:List Int} {r s:List Int×Bool} (h1:zo O W base r) (h2:zo O W base s):r=s:=by
 rcases h1 with ⟨rfl,h1⟩ | ⟨rfl,h1⟩ <;> rcases h2 with ⟨rfl,h2⟩ | ⟨rfl,h2⟩
 ·rfl
 ·exact absurd h1 h2
 ·exact absurd h2 h1
 ·rfl
section
variable {O:List Int} {W:Int→List Int} {base:List Int}
end
end Go.Proofs.YtnlkggppokcmfaaT
namespace Go.Proofs.YtnlkggppokcmfaaT
open Go Go.Proofs Go.Proofs.YtnlkggppokcmfaaE
set_option linter.unusedVariables false
set_option linter.unusedSimpArgs false
section
variable {O:List Int} {W:Int→List Int} {base:List Int}
end
end Go.Proofs.YtnlkggppokcmfaaT
namespace Go.Proofs.YtnlkggppokcmfaaT
open Go Go.Proofs Go.Proofs.YtnlkggppokcmfaaE
set_option linter.unusedVariables false
set_option linter.unusedSimpArgs false
def zV (s:Int) (w:List Int):Int:=w.foldl (fun x v=>w64 (x + v)) s
theorem Cz {s:Int} {w:List Int} {k:Nat} (hk:k < w.length):zV s (w.take (k + 1))=w64 (zV s (w.take k) + idx w (k:Int)):=by
 unfold zV
 rw [List.take_succ_eq_append_getElem hk,List.foldl_append,(dD (n:=k) rfl hk:idx w (k:Int)=w[k])]
 rfl
section
variable {O:List Int} {W:Int→List Int} {want:Int}
def picks (O:List Int) (f:Nat→Prop) [DecidablePred f] (k:Nat):List Int:=((List.range k).filter (fun j=>decide (f j))).map (fun j:Nat=>idx O (j:Int))
end
end Go.Proofs.YtnlkggppokcmfaaT
namespace Go.Proofs.YtnlkggppokcmfaaT
open Go Go.Proofs Go.Proofs.YtnlkggppokcmfaaE
set_option linter.unusedVariables false
set_option linter.unusedSimpArgs false
theorem wbm (x:Int):w64 x=Int.bmod x 18446744073709551616:=by
 unfold w64 IntKind.wrap
 simp only [IntKind.bits,IntKind.signed,Bool.true_and,Int.bmod_def]
 have h1:(2 ^ 64:Int)=18446744073709551616:=by decide
 have h2:=Int.emod_nonneg x (show (18446744073709551616:Int)≠0 by decide);have h3:=Int.emod_lt_of_pos x (show (0:Int) < 18446744073709551616 by decide)
 simp only [h1]
 by_cases h:x % 18446744073709551616 < 9223372036854775808
 ·rw [if_neg (by simp; omega),if_pos (by simp; omega)]
  rfl
 ·rw [if_pos (by simp; omega),if_neg (by simp; omega)]
  rfl
theorem GU (x y:Int):w64 (w64 x + y)=w64 (x + y):=by rw [wbm,wbm,wbm,Int.bmod_add_bmod]
theorem yS:∀ (w:List Int) (s:Int),zV (w64 s) w=w64 (s + w.sum)
 | [],s=>by simp [zV]
 | v::w,s=>by
  show zV (w64 (w64 s + v)) w=_
  rw [GU,yS w,List.sum_cons,Int.add_assoc]
theorem CB (w:List Int):zV 0 w=w64 w.sum:=by
 have h:=yS w 0
 rw [Int.zero_add] at h
 exact h
section
variable {O:List Int} {W:Int→List Int} {want:Int}
end
end Go.Proofs.YtnlkggppokcmfaaT
namespace Go.Proofs.YtnlkggppokcmfaaT
open Go Go.Proofs Go.Proofs.YtnlkggppokcmfaaE
set_option linter.unusedVariables false
set_option linter.unusedSimpArgs false
section
variable {O:List Int} {W:Int→List Int}
end
end Go.Proofs.YtnlkggppokcmfaaT
namespace Go.Proofs.YtnlkggppokcmfaaT
open Go Go.Proofs Go.Proofs.YtnlkggppokcmfaaE
set_option linter.unusedVariables false
set_option linter.unusedSimpArgs false
section
variable {O:List Int} {W:Int→List Int}
end
end Go.Proofs.YtnlkggppokcmfaaT
namespace Go.Proofs.YtnlkggppokcmfaaT
open Go Go.Proofs Go.Proofs.YtnlkggppokcmfaaE
set_option linter.unusedVariables false
set_option linter.unusedSimpArgs false
theorem zW {l:List Ask} {j:Nat} (hj:j < l.length):idx l (j:Int) ∈ l:=by rw [dD (n:=j) rfl hj]; exact List.getElem_mem _
section
variable {h:History}
end
end Go.Proofs.YtnlkggppokcmfaaT
namespace Go.Proofs.YtnlkggppokcmfaaT
open Go Go.Proofs Go.Proofs.YtnlkggppokcmfaaE
set_option linter.unusedVariables false
set_option linter.unusedSimpArgs false
end Go.Proofs.YtnlkggppokcmfaaT
namespace Go.Proofs.YtnlkggppokcmfaaT
open Go Go.Proofs Go.Proofs.YtnlkggppokcmfaaE
set_option linter.unusedVariables false
set_option linter.unusedSimpArgs false
end Go.Proofs.YtnlkggppokcmfaaT
namespace Go.Proofs.YtnlkggppokcmfaaT
open Go Go.Proofs Go.Proofs.YtnlkggppokcmfaaE
set_option linter.unusedVariables false
set_option linter.unusedSimpArgs false
section
variable {h:History}
end
end Go.Proofs.YtnlkggppokcmfaaT
namespace Go.Proofs.YtnlkggppokcmfaaT
open Go Go.Proofs Go.Proofs.YtnlkggppokcmfaaE
set_option linter.unusedVariables false
set_option linter.unusedSimpArgs false
def pos (l:List Int) (t:Int):Nat:=l.findIdx (fun x=>decide (x=t))
theorem zq {l:List Int} {t:Int}:pos l t < l.length↔t ∈ l:=by
 unfold pos
 rw [List.findIdx_lt_length]
 constructor
 ·rintro ⟨x,hx,h⟩;have:x=t:=by simpa using h
  exact this ▸ hx
 ·intro h;exact ⟨t,h,by simp⟩
theorem xx {l:List Int} {t:Int} (h:t ∈ l):idx l (pos l t:Int)=t:=by
 have hl:=zq.2 h
 rw [dD (n:=pos l t) rfl hl]
 have:=List.findIdx_getElem (xs:=l) (p:=fun x=>decide (x=t)) (w:=hl);exact of_decide_eq_true this
theorem Du {l:List Int} {i j:Nat} (hn:l.Nodup) (hi:i < l.length) (hj:j < l.length) (e:idx l (i:Int)=idx l (j:Int)):i=j:=by
 rw [dD (n:=i) rfl hi,dD (n:=j) rfl hj] at e
 have hp:=List.pairwise_iff_getElem.1 hn;rcases Nat.lt_trichotomy i j with h | h | h
 ·exact absurd e (hp i j hi hj h)
 ·exact h
 ·exact absurd e.symm (hp j i hj hi h)
structure lI (h:History) (l:List Int):Prop where
 nd:l.Nodup
 rg:∀ t ∈ l,0≤t∧t < (h.Txns.length:Int)∧(idx h.Txns t).Status≠2
 dn:∀ t:Nat,t < h.Txns.length→(idx h.Txns (t:Int)).Status=1→(t:Int) ∈ l
theorem lI.len {h:History} {l:List Int} (ho:lI h l):l.length≤h.Txns.length:=by
 have h1:∀ x ∈ l,x ∈ (List.range h.Txns.length).map (fun j:Nat=>(j:Int)):=fun x hx=>by
  have:=ho.rg x hx;exact List.mem_map.2 ⟨x.toNat,List.mem_range.2 (by omega),by omega⟩
 have:=xw ho.nd h1
 simpa using this
section
variable {h:History} {l:List Int}
abbrev qV (m:List (Int×Int)):List Int:=m.map (·.1)
theorem uH {x v:Int}:∀ {m:List (Int×Int)},qV (fH m x v)=if x ∈ qV m then qV m else qV m++[x]
 | []=>by simp [fH]
 | p::m=>by
  unfold fH
  by_cases e:p.1=x
  ·simp [e]
  ·rw [if_neg e]
   show p.1::qV (fH m x v)=_
   rw [uH]
   have e':¬ x=p.1:=fun h=>e h.symm
   by_cases hx:x ∈ qV m
   ·simp [hx]
   ·simp [hx,e']
theorem BO {x:Int} {m:List (Int×Int)}:ja m x=true↔x ∈ qV m:=by
 unfold ja
 simp [List.any_eq_true]
structure sM (l:List Int) (k:Nat) (m:List (Int×Int)):Prop where
 nd:(qV m).Nodup
 mem:∀ x,x ∈ qV m↔x ∈ l.take k
 at_:∀ j:Nat,j < k→(∀ i:Nat,j < i→i < k→idx l (i:Int)≠idx l (j:Int))→mat m (idx l (j:Int))=(j:Int)
theorem sM.zero:sM l 0 []:=⟨List.nodup_nil,fun x=>by simp,fun j hj=>absurd hj (Nat.not_lt_zero _)⟩
theorem sM.put {k:Nat} {m:List (Int×Int)} (hm:sM l k m) (hk:k < l.length):sM l (k + 1) (fH m (idx l (k:Int)) (k:Int)):=by
 refine ⟨?_,fun x => ?_,fun j hj hno => ?_⟩
 ·rw [uH]
  split
  ·exact hm.nd
  ·rename_i hx
   rw [List.nodup_append]
   exact ⟨hm.nd,by simp,by intro a ha b hb; rw [List.mem_singleton.1 hb]; intro e; exact hx (e ▸ ha)⟩
 ·rw [uH,jw hk,List.mem_append,List.mem_singleton]
  split
  ·rename_i hx
   rw [hm.mem]
   constructor
   ·exact .inl
   ·rintro (h | rfl)
    ·exact h
    ·exact (hm.mem _).1 hx
  ·rw [List.mem_append,List.mem_singleton,hm.mem]
 ·rw [mO]
  split
  ·rename_i e
   rcases Nat.lt_or_ge j k with h1 | h1
   ·exact absurd e.symm (hno k h1 (by omega))
   ·have:j=k:=by omega
    rw [this]
  ·rename_i e
   rcases Nat.lt_or_ge j k with h1 | h1
   ·exact hm.at_ j h1 (fun i h2 h3=>hno i h2 (by omega))
   ·have:j=k:=by omega
    subst this;exact absurd rfl e
theorem sM.len {m:List (Int×Int)} (hm:sM l l.length m):m.length=l.length↔l.Nodup:=by
 have hmem:∀ x,x ∈ qV m↔x ∈ l:=fun x=>by rw [hm.mem,List.take_length]
 have hl:(qV m).length=m.length:=List.length_map _
 constructor
 ·intro he
  apply Classical.byContradiction
  intro hn;have:∃ i j:Nat,i < j∧j < l.length∧idx l (i:Int)=idx l (j:Int):=by
   apply Classical.byContradiction
   intro hno;refine hn (List.pairwise_iff_getElem.2 fun i j hi hj hij e=>hno ⟨i,j,hij,hj,?_⟩)
   rw [dD (n:=i) rfl hi,dD (n:=j) rfl hj,e]
  obtain ⟨i,j,hij,hj,e⟩:=this;have hsub:∀ x ∈ qV m,x ∈ l.eraseIdx j:=fun x hx=>by
   have hx:=(hmem x).1 hx;obtain ⟨q,hq,rfl⟩:=BN hx
   rw [List.mem_eraseIdx_iff_getElem]
   by_cases hqj:q=j
   ·subst hqj;exact ⟨i,by omega,by omega,by rw [← dD (n:=i) rfl (by omega:i < l.length)]; exact e⟩
   ·exact ⟨q,by omega,by omega,(dD (n:=q) rfl hq).symm⟩
  have:=xw hm.nd hsub
  rw [List.length_eraseIdx,if_pos hj] at this
  omega
 ·intro hn;have h1:=xw hm.nd (fun x hx=>(hmem x).1 hx);have h2:=xw hn (fun x hx=>(hmem x).2 hx)
  omega
structure sN (l:List Int) (m:List (Int×Int)):Prop where
 has:∀ x,ja m x=true↔x ∈ l
 at_:∀ x ∈ l,mat m x=(pos l x:Int)
theorem sM.ord {m:List (Int×Int)} (hm:sM l l.length m) (hn:l.Nodup):sN l m:=by
 refine ⟨fun x=>by rw [BO,hm.mem,List.take_length],fun x hx => ?_⟩
 have hl:=zq.2 hx;have:=hm.at_ (pos l x) hl (fun i h1 h2 e=>by have:=Du hn h2 hl e; omega)
 rwa [xx hx] at this
theorem sN.hasB {m:List (Int×Int)} (hm:sN l m) (x:Int):ja m x=decide (x ∈ l):=by
 by_cases hx:x ∈ l
 ·rw [(hm.has x).2 hx,decide_eq_true hx]
 ·rw [decide_eq_false hx]
  cases e:ja m x with
  | false=>rfl
  | true=>exact absurd ((hm.has x).1 e) hx
theorem CE (a2:h.Txns.length≤32) (hl:l.length < 2 ^ 60):Tri (dz h l) (fun r=>r.1.h=h∧r.1.order=l∧(r.2=true↔lI h l)∧(r.2=true→sN l r.1.at_)):=by
 unfold dz;refine gm (k0:=0) l.length (fun k s=>s.2=(k:Int)∧sM l k s.1∧∀ t ∈ l.take k,0≤t∧t < (h.Txns.length:Int)∧(idx h.Txns t).Status≠2) (Nat.zero_le _) ⟨rfl,sM.zero,fun t ht=>by simp at ht⟩ ?_
 rintro k ⟨m,x⟩ hk ⟨rfl,hm,hrg⟩;have hw:w64 ((k:Int) + 1)=((k + 1:Nat):Int):=bW (by omega);unfold rV mQ
 dsimp only at hm ⊢
 rw [hw]
 have bad:∀ t ∈ l,¬ (0≤t∧t < (h.Txns.length:Int)∧(idx h.Txns t).Status≠2) → ¬ lI h l:=fun t ht hn ho=>hn (ho.rg t ht);have no:∀ {m:List (Int×Int)},¬ lI h l→(⟨h,l,m⟩:bn).h=h∧(⟨h,l,m⟩:bn).order=l∧((false:Bool)=true↔lI h l)∧((false:Bool)=true→sN l (⟨h,l,m⟩:bn).at_):=fun hn=>⟨rfl,rfl,⟨fun h=>(nomatch h),fun h=>absurd h hn⟩,fun h=>(nomatch h)⟩;refine ay (fun h1 => ?_) (fun h1 => ?_)
 ·have a0:k < l.length:=by omega
  have hmem:idx l (k:Int) ∈ l:=qH a0;refine au (by omega) ?_;refine ay (fun h2 => ?_) (fun h2 => ?_)
  ·exact ay (fun _=>aC (ai (no (bad _ hmem (fun h3=>by omega))))) (fun h3=>absurd trivial h3)
  ·refine ay (fun h3 => ?_) (fun h3 => ?_)
   ·exact ay (fun _=>aC (ai (no (bad _ hmem (fun h3=>by omega))))) (fun h3=>absurd trivial h3)
   ·refine au (by omega) ?_;refine ay (fun h4=>aC (ai (no (bad _ hmem (fun h5=>h5.2.2 h4))))) (fun h4 => ?_);refine ai ⟨a0,rfl,hm.put a0,fun t ht => ?_⟩
    rw [jw a0,List.mem_append,List.mem_singleton] at ht
    rcases ht with ht | rfl
    ·exact hrg t ht
    ·exact ⟨by omega,by omega,h4⟩
 ·have:k=l.length:=by omega
  subst this
  rw [List.take_length] at hrg
  refine ay (fun h2 => ?_) (fun h2 => ?_)
  ·exact aC (ai (no (fun ho=>h2 (by have:=hm.len.2 ho.nd; omega))))
  ·have hnd:l.Nodup:=hm.len.1 (by omega);have hom:=hm.ord hnd;have hb:=hom.hasB
   suffices hs:Tri (iter (oQ h l m) 0) (fun y:(List (Int×Int)×Int) ⊕ (bn×Bool)=>∃ b,y = .inr (⟨h,l,m⟩,b)∧(b=true↔lI h l)) from
    dG hs (by rintro y ⟨b,rfl,hb⟩; exact ⟨rfl,rfl,hb,fun _=>hom⟩)
   refine gm (k0:=0) h.Txns.length (fun j s=>s=(j:Int)∧∀ t:Nat,t < j→(idx h.Txns (t:Int)).Status=1→(t:Int) ∈ l) (Nat.zero_le _) ⟨rfl,fun t ht=>absurd ht (Nat.not_lt_zero _)⟩ ?_;rintro j s hj ⟨rfl,hdn⟩;have hw:w64 ((j:Int) + 1)=((j + 1:Nat):Int):=bW (by omega);unfold oQ oP
   dsimp only
   rw [hw,hb]
   refine ay (fun h3 => ?_) (fun h3 => ?_)
   ·have a1:j < h.Txns.length:=by omega
    have next:((idx h.Txns (j:Int)).Status=1→(j:Int) ∈ l)→Upm h.Txns.length j (fun j s=>s=(j:Int)∧∀ t:Nat,t < j→(idx h.Txns (t:Int)).Status=1→(t:Int) ∈ l) (fun y:(List (Int×Int)×Int) ⊕ (bn×Bool)=>∃ b,y = .inr (⟨h,l,m⟩,b)∧(b=true↔lI h l)) (.inl ((j + 1:Nat):Int)):=fun h4=>⟨a1,rfl,fun t ht hst=>by
     rcases Nat.lt_or_ge t j with h5 | h5
     ·exact hdn t h5 hst
     ·have:t=j:=by omega
      subst this;exact h4 hst⟩
    refine au (by omega) ?_;refine ay (fun h4 => ?_) (fun h4 => ?_)
    ·refine ay (fun h5 => ?_) (fun h5=>ai (next (fun h6=>absurd h6 h5)));refine aC (aC (ai ⟨false,rfl,fun h=>(nomatch h),fun ho=>absurd (ho.dn j a1 h5) h4⟩))
    ·refine ay (fun h5=>absurd h5 (by simp)) (fun h5=>ai (next (fun _=>Classical.byContradiction h4)))
   ·have:j=h.Txns.length:=by omega
    subst this;exact aC (aC (ai ⟨true,rfl,fun _=>⟨hnd,hrg,hdn⟩,fun _=>rfl⟩))
structure GV (h:History) (l:List Int) (at_:List Int):Prop where
 len:at_.length=h.Txns.length
 at_:∀ t:Nat,t < h.Txns.length→idx at_ (t:Int)=if (t:Int) ∈ l then (pos l (t:Int):Int) + 1 else 0
end
end Go.Proofs.YtnlkggppokcmfaaT
