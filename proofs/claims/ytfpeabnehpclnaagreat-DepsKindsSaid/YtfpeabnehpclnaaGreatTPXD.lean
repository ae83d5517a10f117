import Derived.Test.YtfpeabnehpclnaaGreatTD
import Derived.Test.YtfpeabnehpclnaaGreatY
import Derived.Test.YtfpeabnehpclnaaGreatTF
namespace Go.Proofs.YtfpeabnehpclnaaGreatT
open Go Go.Proofs Go.Proofs.YtfpeabnehpclnaaGreatE
set_option linter.unusedVariables false
set_option linter.unusedSimpArgs false
set_option maxRecDepth 4096
def BQ (N:Int) (e:Edge):Prop:=0≤e.From∧e.From < N∧0≤e.To∧e.To < N∧1≤e.Kind∧e.Kind≤16∧dw .i64 e.Kind (w64 (e.Kind - 1))=0
structure Good (g:fT):Prop where
 n0:0≤g.N
 n1:g.N≤64
 m:g.Edges.length≤262144
 e:∀ k:Nat,k < g.Edges.length→BQ g.N (idx g.Edges k)
theorem ones (k:Int) (h1:1≤k) (h2:k≤16):Tri (kZ (IntKind.wrap .u64 k)) (fun c=>(c != 1)=(dw .i64 k (w64 (k - 1)) != 0)):=by
 have h:k=1∨k=2∨k=3∨k=4∨k=5∨k=6∨k=7∨k=8∨k=9∨k=10∨k=11∨k=12∨k=13∨k=14∨k=15∨k=16:=by omega
 have key:∀ n:Fin 17,1≤n.1→(kZ (IntKind.wrap .u64 (n.1:Int))).map (fun c=>(c != 1))=some (dw .i64 (n.1:Int) (w64 ((n.1:Int) - 1)) != 0):=by decide +kernel
 obtain ⟨n,rfl⟩:∃ n:Nat,k=n:=⟨k.toNat,by omega⟩
 have:=key ⟨n,by omega⟩ (by simp; omega)
 simp only at this
 cases hb:kZ (IntKind.wrap .u64 (n:Int)) with
 | none=>rw [hb] at this; cases this
 | some c=>rw [hb] at this; exact ⟨c,rfl,Option.some.inj this⟩
theorem Jr (x:Int) (g:fT):mo x g=some (decide (0≤x) && decide (x < g.N)):=by
 unfold mo
 by_cases h:x ≥ 0
 ·have h':0≤x:=h
  simp [h']
 ·have h':¬ 0≤x:=h
  simp [h']
def Told (g:fT) (r:Int):Prop:=(r=0∧Good g)∨(r=60 ∧ ¬ Good g)
theorem AP {g:fT} {k:Nat} (b:Bool) (hk:k < g.Edges.length) (hm:g.Edges.length≤262144) (hb:b=true → ¬ BQ g.N (idx g.Edges k)) (hb':b=false→BQ g.N (idx g.Edges k))
  (hJ:∀ i:Nat,i < k→BQ g.N (idx g.Edges i)):Tri (iJ (k:Int) b) (Up g.Edges.length k (fun k=>∀ i:Nat,i < k→BQ g.N (idx g.Edges i)) (Told g)):=by
 unfold iJ;cases b with
 | true=>exact ⟨_,rfl,Or.inr ⟨rfl,fun hg=>hb rfl (hg.e k hk)⟩⟩
 | false =>
  refine ⟨_,rfl,bf (by omega),hk,fun i hi => ?_⟩
  by_cases e:i=k
  ·subst e; exact hb' rfl
  ·exact hJ i (by omega)
theorem BR (g:fT):Tri (di g) (Told g):=by
 have hj:∀ b:Bool,0≤g.N→g.N≤64→b=decide ((g.Edges.length:Int) > 262144)→Tri (lc g b) (Told g):=by
  intro b h0 h1 hb;unfold lc;refine jG (fun h => ?_) (fun h => ?_)
  ·subst hb;have:(g.Edges.length:Int) > 262144:=of_decide_eq_true h;exact ⟨_,rfl,Or.inr ⟨rfl,fun hg=>by have:=hg.m; omega⟩⟩
  ·subst hb;have hm:¬ (g.Edges.length:Int) > 262144:=of_decide_eq_false h;refine IM g.Edges.length (fun k=>∀ i:Nat,i < k→BQ g.N (idx g.Edges i)) (fun i hi=>by omega) (fun k hk hJ => ?_)
   show Tri (bif decide ((k:Int) < (g.Edges.length:Int)) then _ else _) _
   refine jG (fun h => ?_) (fun h => ?_)
   ·have h:(k:Int) < g.Edges.length:=of_decide_eq_true h;have hk':k < g.Edges.length:=by omega
    refine ag ⟨by omega,h⟩ ?_
    rw [Jr,Jr]
    refine jG (fun h => ?_) (fun h => ?_)
    ·refine AP true hk' (by omega) (fun _ ho => ?_) (fun h=>by cases h) hJ
     simp [ho.1,ho.2.1] at h
    ·simp only [Bool.not_eq_false',Bool.and_eq_true,decide_eq_true_eq] at h
     refine jG (fun h' => ?_) (fun h' => ?_)
     ·refine AP true hk' (by omega) (fun _ ho => ?_) (fun h=>by cases h) hJ
      simp [ho.2.2.1,ho.2.2.2.1] at h'
     ·simp only [Bool.not_eq_false',Bool.and_eq_true,decide_eq_true_eq] at h'
      refine jG (fun h1 => ?_) (fun h1 => ?_)
      ·refine AP true hk' (by omega) (fun _ ho => ?_) (fun h=>by cases h) hJ;have:=of_decide_eq_true h1;have:=ho.2.2.2.2.1
       omega
      ·refine jG (fun h2 => ?_) (fun h2 => ?_)
       ·refine AP true hk' (by omega) (fun _ ho => ?_) (fun h=>by cases h) hJ;have:=of_decide_eq_true h2;have:=ho.2.2.2.2.2.1
        omega
       ·have h1:=of_decide_eq_false h1;have h2:=of_decide_eq_false h2;refine eF (ones _ (by omega) (by omega)) (fun c hc => ?_)
        rw [hc]
        refine AP _ hk' (by omega) (fun hx ho => ?_) (fun hx => ?_) hJ
        ·have:=ho.2.2.2.2.2.2
         rw [this] at hx
         cases hx
        ·refine ⟨h.1,h.2,h'.1,h'.2,by omega,by omega,?_⟩
         simpa using hx
   ·have h:¬ (k:Int) < g.Edges.length:=of_decide_eq_false h;exact aA ⟨_,rfl,Or.inl ⟨rfl,h0,h1,by omega,fun i hi=>hJ i (by omega)⟩⟩
 unfold di;refine jG (fun h => ?_) (fun h => ?_)
 ·exact ⟨_,rfl,Or.inr ⟨rfl,fun hg=>by have:=of_decide_eq_true h; have:=hg.n0; omega⟩⟩
 ·have h:=of_decide_eq_false h;refine jG (fun h' => ?_) (fun h' => ?_)
  ·exact ⟨_,rfl,Or.inr ⟨rfl,fun hg=>by have:=of_decide_eq_true h'; have:=hg.n1; omega⟩⟩
  ·have h':=of_decide_eq_false h';exact hj _ (by omega) (by omega) rfl
theorem DD (g:fT):(Good g∧di g=some 0)∨(¬ Good g∧di g=some 60):=by
 obtain ⟨r,h,h' | h'⟩:=BR g
 ·exact Or.inl ⟨h'.2,h'.1 ▸ h⟩
 ·exact Or.inr ⟨h'.2,h'.1 ▸ h⟩
theorem Io {g:fT} (hg:Good g):di g=some 0:=by
 rcases DD g with h | h
 ·exact h.2
 ·exact absurd hg h.1
def Rows (ws:List Int) (n:Nat) (p:Nat→Nat→Prop):Prop:=ws.length=n∧∀ i:Nat,i < n→Wd (idx ws (i:Int)) (p i)
open Relation in
def Row (l:List Bool) (n:Nat) (p:Nat→Prop):Prop:=l.length=n∧∀ j:Nat,j < n→(idx l (j:Int)=true↔p j)
def Mx (m:List (List Bool)) (n:Nat) (p:Nat→Nat→Prop):Prop:=m.length=n∧∀ i:Nat,i < n→Row (idx m (i:Int)) n (p i)
theorem Mx.congr {m:List (List Bool)} {n:Nat} {p q:Nat→Nat→Prop} (h:Mx m n p) (e:∀ i j,i < n→j < n→(p i j↔q i j)):Mx m n q :=
 ⟨h.1,fun i hi=>⟨(h.2 i hi).1,fun j hj=>((h.2 i hi).2 j hj).trans (e i j hi hj)⟩⟩
end Go.Proofs.YtfpeabnehpclnaaGreatT
namespace Go.Proofs.YtfpeabnehpclnaaGreatT
open Go Go.Proofs Go.Proofs.YtfpeabnehpclnaaGreatE
set_option linter.unusedVariables false
set_option linter.unusedSimpArgs false
def Upm {S Ω:Type} (n k:Nat) (J:Nat→S→Prop) (Q:Ω→Prop):S ⊕ Ω→Prop
 | .inl s'=>k < n∧J (k + 1) s'
 | .inr o=>Q o
theorem dE {S Ω:Type} {step:S→Option (S ⊕ Ω)} {Q:Ω→Prop} (n:Nat) (J:Nat→S→Prop) {s0:S} {k0:Nat} (a0:k0≤n) (h0:J k0 s0)
  (hs:∀ (k:Nat) (s:S),k≤n→J k s→Tri (step s) (Upm n k J Q)):Tri (iter step s0) Q:=by
 generalize hd:n - k0=d
 induction d using Nat.strongRecOn generalizing k0 s0 with
 | ind d ih =>
  obtain ⟨x,hx,hr⟩:=hs k0 s0 a0 h0
  rw [zw,hx]
  cases x with
  | inl s'=>exact ih (n - (k0 + 1)) (by have:=hr.1; omega) (k0:=k0 + 1) (by have:=hr.1; omega) hr.2 rfl
  | inr o=>exact ⟨o,rfl,hr⟩
def Asc (s:List Int):Prop:=∀ k:Nat,k + 1 < s.length→idx s (k:Int) < idx s ((k + 1:Nat):Int)
instance (s:List Int):Decidable (Asc s):=by
 unfold Asc;exact decidable_of_iff (∀ k,k < s.length→k + 1 < s.length→idx s (k:Int) < idx s ((k + 1:Nat):Int)) ⟨fun h k hk=>h k (by omega) hk,fun h k _ hk=>h k hk⟩
theorem lS {s:List Int} {k:Nat} (h:k < s.length):idx s (k:Int)=s[k]:=df rfl h
theorem ze {s:List Int}:Asc s↔s.Pairwise (· < ·):=by
 rw [List.pairwise_iff_getElem]
 constructor
 ·intro h i j hi hj hij
  induction j with
  | zero=>omega
  | succ j ih =>
   have h1:=h j hj
   rw [lS (by omega),lS hj] at h1
   rcases Nat.lt_or_ge i j with h2 | h2
   ·exact Int.lt_trans (ih (by omega) h2) h1
   ·have:i=j:=by omega
    subst this;exact h1
 ·intro h k hk
  rw [lS (by omega),lS hk]
  exact h k (k + 1) (by omega) hk (by omega)
def SOk (t:Int) (s:List Int):Bool:=(t == 1 && decide (s.length≤1)) || (t == 2 && decide (s.length≤64)) || (t == 3 && decide (Asc s) && decide (s.length≤64)) || (t == 4 && s.length == 1)
def chk (t:Int) (s:List Int):Int:=if 1≤t∧t≤4 then (if SOk t s then 0 else 80) else 1
theorem mf {k:Nat} (h:k < 2 ^ 62) (h1:1≤k):w64 ((k:Int) - 1)=((k - 1:Nat):Int):=by
 rw [pO (by omega) (by omega)]; omega
theorem DF {s:List Int} (hs:s.length < 2 ^ 62):gy () s=some (decide (Asc s) && decide (s.length≤64)):=by
 unfold gy;refine fA.1 ?_;refine dE (k0:=1) (s.length + 1) (fun k x=>x=(k:Int)∧1≤k∧∀ j:Nat,j + 1 < k→j + 1 < s.length→idx s (j:Int) < idx s ((j + 1:Nat):Int)) (by omega) ⟨rfl,Nat.le_refl _,fun j h=>by omega⟩ ?_
 rintro k x hk ⟨rfl,a0,hJ⟩;unfold pg;refine jG (fun h => ?_) (fun h => ?_)
 ·have h:(k:Int) < s.length:=of_decide_eq_true h;have e:=mf (k:=k) (by omega) a0;refine ag (by rw [e]; omega) (ag (by omega) (jG (fun h2 => ?_) (fun h2 => ?_)))
  ·have h2:idx s (k:Int)≤idx s (w64 ((k:Int) - 1)):=of_decide_eq_true h2
   rw [e] at h2
   refine aA (af ?_)
   show false=_
   have hn:¬ Asc s:=by
    intro hA;have:=hA (k - 1) (by omega)
    rw [show k - 1 + 1=k by omega] at this
    omega
   simp [hn]
  ·have h2:¬ idx s (k:Int)≤idx s (w64 ((k:Int) - 1)):=of_decide_eq_false h2
   rw [e] at h2
   refine ⟨_,rfl,by omega,bf (by omega),by omega,fun j hj hl => ?_⟩
   rcases Nat.lt_or_ge (j + 1) k with h3 | h3
   ·exact hJ j h3 hl
   ·have:j=k - 1:=by omega
    subst this
    rw [show k - 1 + 1=k by omega]
    omega
 ·have h:¬ (k:Int) < s.length:=of_decide_eq_false h;refine aA (af ?_)
  show decide ((s.length:Int)≤64)=_
  have hA:Asc s:=fun j hj=>hJ j (by omega) hj
  simp only [hA,decide_true,Bool.true_and]
  congr 1
  exact propext ⟨fun h=>by omega,fun h=>by omega⟩
theorem Kc {t:Int} {s:List Int} (h:1≤t∧t≤4):chk t s=if SOk t s then 0 else 80:=if_pos h
theorem four {t:Int} (h:1≤t∧t≤4):t=1∨t=2∨t=3∨t=4:=by omega
theorem PI {s:List Int} {n:Nat}:decide ((s.length:Int)≤(n:Int))=decide (s.length≤n):=by
 congr 1
 exact propext ⟨fun h=>by omega,fun h=>by omega⟩
theorem FC {t:Int} (h:¬ (1≤t∧t≤4)):jW t=some (-1):=by
 have e1:(t == 1)=false:=by rw [beq_eq_false_iff_ne]; omega
 have e2:(t == 2)=false:=by rw [beq_eq_false_iff_ne]; omega
 have e3:(t == 3)=false:=by rw [beq_eq_false_iff_ne]; omega
 have e4:(t == 4)=false:=by rw [beq_eq_false_iff_ne]; omega
 simp [jW,e1,e2,e3,e4]
theorem BU (t:Int) {s:List Int} (hs:s.length < 2 ^ 62):jY t s=some (chk t s):=by
 by_cases ht:1≤t∧t≤4
 ·rw [Kc ht]
  rcases four ht with rfl | rfl | rfl | rfl
  ·have:=PI (s:=s) (n:=1)
   simp only [Int.cast_ofNat_Int] at this
   simp [jY,jW,jX,SOk]
   by_cases h:s.length≤1
   ·have h':(s.length:Int)≤1:=by omega
    simp [h,h']
   ·have h':¬ (s.length:Int)≤1:=by omega
    simp [h,h']
  ·simp [jY,jW,nV,SOk]
   by_cases h:s.length≤64
   ·have h':(s.length:Int)≤64:=by omega
    simp [h,h']
   ·have h':¬ (s.length:Int)≤64:=by omega
    simp [h,h']
  ·simp [jY,jW,DF hs,SOk]
   by_cases h:Asc s <;> by_cases h':s.length≤64 <;> simp [h,h']
  ·simp [jY,jW,kN,SOk]
   by_cases h:s.length=1
   ·have h':(s.length:Int)=1:=by omega
    simp [h,h']
   ·have h':((s.length:Int) == 1)=false:=by rw [beq_eq_false_iff_ne]; omega
    simp [h,h']
 ·rw [chk,if_neg ht]
  simp [jY,FC ht]
def lb (s:List Int) (a:Int):Nat:=s.findIdx (fun x=>decide (a≤x))
def hit (s:List Int) (a:Int):Bool:=decide (lb s a < s.length) && (idx s (lb s a:Int) == a)
def ins (s:List Int) (a:Int):List Int:=s.take (lb s a)++((if hit s a then [] else [a])++s.drop (lb s a))
theorem LU (s:List Int) (a:Int):lb s a≤s.length:=List.findIdx_le_length
theorem Pg {s:List Int} {a:Int} {k:Nat} (h:k < lb s a):idx s (k:Int) < a:=by
 have h1:k < s.length:=Nat.lt_of_lt_of_le h (LU s a)
 rw [lS h1]
 have:=List.not_of_lt_findIdx (p:=fun x=>decide (a≤x)) (xs:=s) h
 simpa using this
theorem Ph {s:List Int} {a:Int} (h:lb s a < s.length):a≤idx s (lb s a:Int):=by
 rw [lS h]
 have:=List.findIdx_getElem (p:=fun x=>decide (a≤x)) (xs:=s) (w:=h);exact of_decide_eq_true this
theorem Ox {s:List Int} {a:Int} {i:Nat} (hi:i≤s.length) (h1:∀ k:Nat,k < i→idx s (k:Int) < a) (h2:i < s.length→a≤idx s (i:Int)):lb s a=i:=by
 rcases Nat.lt_trichotomy (lb s a) i with h | h | h
 ·have:=Ph (s:=s) (a:=a) (by omega);have:=h1 _ h
  omega
 ·exact h
 ·have h3:=Pg h;have:=h2 (by have:=LU s a; omega)
  omega
theorem ND {i j:Nat} (hi:i < 2 ^ 62) (hj:j < 2 ^ 62):w64 (eU .u64 (IntKind.wrap .u64 (w64 ((i:Int) + (j:Int)))) (1:Int))=(((i + j) / 2:Nat):Int):=by
 have e1:w64 ((i:Int) + (j:Int))=((i + j:Nat):Int):=by rw [pO (by omega) (by omega)]; omega
 rw [e1,wrap_u64 (by omega),GY (n:=1) (i:=(1:Int)) rfl (by omega),pO (by omega) (by omega)]
 simp [Nat.shiftRight_eq_div_pow]
theorem Ke (a b:Int):nE a b=some (decide (a < b)):=by simp [nE,lY]
theorem Gx {s:List Int} (a:Int) (hA:Asc s) (hs:s.length < 2 ^ 62):bJ s a=some ((lb s a:Int),hit s a):=by
 unfold bJ;refine fA.1 ?_;have hP:=List.pairwise_iff_getElem.1 (ze.1 hA);have hmono:∀ p q:Nat,p≤q→q < s.length→idx s (p:Int)≤idx s (q:Int):=by
  intro p q hpq hq;rcases Nat.lt_or_ge p q with h | h
  ·rw [lS (by omega),lS hq]
   exact Int.le_of_lt (hP p q (by omega) hq h)
  ·have:p=q:=by omega
   subst this;exact Int.le_refl _
 refine Eh (fun x:Int×Int=>∃ i j:Nat,x=((i:Int),(j:Int))∧i≤j∧j≤s.length∧(∀ k:Nat,k < i→idx s (k:Int) < a)∧(j < s.length→a≤idx s (j:Int))) (fun x=>x.2.toNat - x.1.toNat)
  ⟨0,s.length,rfl,by omega,by omega,fun k h=>by omega,fun h=>by omega⟩ ?_
 rintro _ ⟨i,j,rfl,hij,hj,h1,h2⟩;unfold iR;refine jG (fun h => ?_) (fun h => ?_)
 ·have h:(i:Int) < j:=of_decide_eq_true h;have e:=ND (i:=i) (j:=j) (by omega) (by omega)
  rw [e]
  refine ag (by decide) (ag (by omega) ?_)
  rw [Ke]
  show Tri (bif decide _ then _ else _) _
  have hm:(i + j) / 2 < j:=by omega
  have a0:i≤(i + j) / 2:=by omega
  generalize (i + j) / 2=m at hm a0;refine jG (fun h3 => ?_) (fun h3 => ?_)
  ·have h3:idx s (m:Int) < a:=of_decide_eq_true h3;refine ⟨_,rfl,⟨m + 1,j,by rw [bf (by omega)],by omega,hj,fun k hk => ?_,h2⟩,?_⟩
   ·exact Int.lt_of_le_of_lt (hmono k m (by omega) (by omega)) h3
   ·rw [bf (by omega)]; simp only [Int.toNat_natCast]; omega
  ·have h3:¬ idx s (m:Int) < a:=of_decide_eq_false h3;refine ⟨_,rfl,⟨i,m,rfl,a0,by omega,h1,fun _=>by omega⟩,?_⟩
   simp only [Int.toNat_natCast]; omega
 ·have h:¬ (i:Int) < j:=of_decide_eq_false h;have hji:j=i:=by omega
  subst hji;have hl:lb s a=j:=Ox hj h1 h2;refine jG (fun h3 => ?_) (fun h3 => ?_)
  ·have h3:(j:Int) < s.length:=of_decide_eq_true h3;have hlt:j < s.length:=by omega
   refine ag (by omega) (jG (fun h4 => ?_) (fun h4 => ?_))
   ·refine aA (af ?_)
    simp [Rnd,hl,hit,hlt,h4]
   ·simp only [ji,Option.bind_some,bne_self_eq_false,cond_false]
    refine aA (af ?_)
    simp [Rnd,hl,hit,hlt,h4]
  ·have h3:¬ (j:Int) < s.length:=of_decide_eq_false h3;have hlt:¬ j < s.length:=by omega
   refine aA (af ?_)
   simp [Rnd,hl,hit,hlt]
theorem NE {s:List Int} {a:Int} (hA:Asc s):hit s a=true↔a ∈ s:=by
 unfold hit
 simp only [Bool.and_eq_true,decide_eq_true_eq,beq_iff_eq]
 constructor
 ·rintro ⟨h1,h2⟩
  rw [lS h1] at h2
  exact h2 ▸ List.getElem_mem h1
 ·intro h;obtain ⟨k,hk,e⟩:=List.getElem_of_mem h;have hP:=List.pairwise_iff_getElem.1 (ze.1 hA);have:lb s a=k:=by
   refine Ox (by omega) (fun j hj => ?_) (fun _ => ?_)
   ·rw [lS (by omega),← e]; exact hP j k (by omega) hk hj
   ·rw [lS hk,e]; exact Int.le_refl _
  rw [this]
  exact ⟨hk,by rw [lS hk,e]⟩
def next (t:Int) (s:List Int) (a:Int):List Int:=if t=1 then [a] else if t=2 then s++[a] else if t=3 then ins s a else [w64 (idx s 0 + a)]
def app (t:Int) (s:List Int) (a:Int):List Int×Int :=
 if chk t s≠0 then ([],chk t s) else if (next t s a).length > 64 then ([],2) else (next t s a,0)
theorem OC {t:Int} {s:List Int} (h:chk t s=0):1≤t∧t≤4∧SOk t s=true:=by
 unfold chk at h
 split at h
 ·rename_i h1
  split at h
  ·exact ⟨h1.1,h1.2,by assumption⟩
  ·cases h
 ·cases h
theorem OD {t:Int} {s:List Int} (h:SOk t s=true):s.length≤64:=by
 simp only [SOk,Bool.or_eq_true,Bool.and_eq_true,decide_eq_true_eq,beq_iff_eq] at h
 omega
theorem OE {s:List Int} (h:SOk 3 s=true):Asc s:=by
 simp [SOk] at h
 exact h.1
theorem ok_one {s:List Int} (h:SOk 4 s=true):s.length=1:=by
 simp [SOk] at h
 exact h
def start (t:Int):List Int×Int:=if 1≤t∧t≤4 then (if t=4 then [0] else [],0) else ([],1)
def step (t:Int) (x:List Int×Int) (a:Int):List Int×Int:=if x.2=0 then app t x.1 a else x
theorem Kg {a b:List Int} (ha:a.length < 2 ^ 62):dF a b=some (decide (a=b)):=by
 unfold dF
 by_cases hl:a.length=b.length
 ·have:((a.length:Int) != (b.length:Int))=false:=by simp; omega
  rw [this,cond_false]
  refine fA.1 ?_;refine IM a.length (fun k=>∀ j:Nat,j < k→idx a (j:Int)=idx b (j:Int)) (fun j h=>by omega) (fun k hk hJ => ?_);unfold kY;refine jG (fun h => ?_) (fun h => ?_)
  ·have h:(k:Int) < a.length:=of_decide_eq_true h;refine ag (by omega) (ag (by omega) (jG (fun h2 => ?_) (fun h2 => ?_)))
   ·have h2:idx a (k:Int)≠idx b (k:Int):=by simpa using h2
    refine aA (af ?_)
    show false=_
    have:a≠b:=fun e=>h2 (by rw [e])
    simp [this]
   ·have h2:idx a (k:Int)=idx b (k:Int):=by simpa using h2
    refine ⟨_,rfl,bf (by omega),by omega,fun j hj => ?_⟩
    rcases Nat.lt_or_ge j k with h3 | h3
    ·exact hJ j h3
    ·have:j=k:=by omega
     subst this;exact h2
  ·have h:¬ (k:Int) < a.length:=of_decide_eq_false h;refine aA (af ?_)
   show true=_
   have:a=b:=GV hl (fun j hj=>hJ j (by omega))
   simp [this]
 ·have:((a.length:Int) != (b.length:Int))=true:=by simp; omega
  rw [this,cond_true]
  have:a≠b:=fun e=>hl (by rw [e])
  simp [this]
end Go.Proofs.YtfpeabnehpclnaaGreatT
namespace Go.Proofs.YtfpeabnehpclnaaGreatT
open Go Go.Proofs Go.Proofs.YtfpeabnehpclnaaGreatE
set_option linter.unusedVariables false
set_option linter.unusedSimpArgs false
theorem Ad {a b:List Int} (ha:a.length < 2 ^ 62):eu a b=some (decide (a=b)):=by
 rw [← Kg ha]
 rfl
def Fit (s args:List Int):Prop:=∀ k:Nat,k < args.length→idx args (k:Int) ∈ s∧idx args (k:Int) ∉ args.take k
instance (s args:List Int):Decidable (Fit s args):=by unfold Fit; infer_instance
def before (t:Int) (s args:List Int):List Int×Bool :=
 if chk t s≠0∨args=[] then ([],false)
 else if t=1 then ([],decide (s.length=1∧idx s 0=idx args ((args.length - 1:Nat):Int)))
 else if t=2 then (if args.length≤s.length∧s.drop (s.length - args.length)=args then (s.take (s.length - args.length),true) else ([],false))
 else if t=3 then (if Fit s args then (s.filter (fun x=>decide (x ∉ args)),true) else ([],false))
 else ([args.foldl (fun v a=>w64 (v - a)) (idx s 0)],true)
theorem FD {s args:List Int} (hs:args.length < 2 ^ 62) (v:Int):iter (iE args) (v,0)=some ([args.foldl (fun v a=>w64 (v - a)) v],true):=by
 refine fA.1 ?_;refine Dn args.length (fun k x=>x=(args.take k).foldl (fun v a=>w64 (v - a)) v) rfl (fun k x hk hJ => ?_);subst hJ;unfold iE;refine jG (fun h => ?_) (fun h => ?_)
 ·have h:(k:Int) < args.length:=of_decide_eq_true h;have hks:k < args.length:=by omega
  refine ag (by omega) ⟨_,rfl,bf (by omega),hks,?_⟩
  show _=List.foldl _ _ _
  rw [List.take_add_one,List.getElem?_eq_getElem hks,List.foldl_append,lS hks]
  rfl
 ·have h:¬ (k:Int) < args.length:=of_decide_eq_false h;refine aA (af ?_)
  show ([_],true)=_
  rw [List.take_of_length_le (by omega)]
theorem AQ {s args:List Int} (hs:s.length < 2 ^ 43) (ha:args.length < 2 ^ 62):dP () s args=some (if args.length≤s.length∧s.drop (s.length - args.length)=args then (s.take (s.length - args.length),true) else ([],false)):=by
 unfold dP
 by_cases hm:args.length≤s.length
 ·have e1:w64 ((s.length:Int) - (args.length:Int))=((s.length - args.length:Nat):Int):=by rw [pO (by omega) (by omega)]; omega
  have hlt:decide (w64 ((s.length:Int) - (args.length:Int)) < 0)=false:=decide_eq_false (by rw [e1]; omega)
  rw [hlt,cond_false,jv _ (by rw [e1]; omega),e1]
  have hsl:eT s ((s.length - args.length:Nat):Int) (s.length:Int)=s.drop (s.length - args.length):=by simp [eT]
  have a0:eT s (0:Int) ((s.length - args.length:Nat):Int)=s.take (s.length - args.length):=by simp [eT]
  rw [hsl,Ad (by simp; omega)]
  simp only [Option.bind_some]
  unfold ik
  rw [e1,a0,jv _ (by omega)]
  have hc:fJ (s.take (s.length - args.length))=some (s.take (s.length - args.length)):=jv _ (by simp; omega)
  rw [hc]
  by_cases he:s.drop (s.length - args.length)=args
  ·simp [he,hm]
  ·simp [he]
 ·have hlt:decide (w64 ((s.length:Int) - (args.length:Int)) < 0)=true:=decide_eq_true (by rw [pO (by omega) (by omega)]; omega)
  rw [hlt,cond_true,ik,cond_true,if_neg (fun h=>hm h.1)]
theorem Ip {s:List Int} (p:Int→Bool) (h:Asc s):Asc (s.filter p):=ze.2 ((ze.1 h).filter p)
theorem Kh {args:List Int} {k:Nat} (h:k < args.length):args.take (k + 1)=args.take k++[idx args (k:Int)]:=by
 rw [List.take_add_one,List.getElem?_eq_getElem h,lS h]; rfl
theorem Gy {s args:List Int} {k:Nat} (h:k < args.length):s.filter (fun x=>decide (x ∉ args.take (k + 1)))=(s.filter (fun x=>decide (x ∉ args.take k))).filter (fun x=>decide (x≠idx args (k:Int))):=by
 rw [List.filter_filter]
 apply List.filter_congr
 intro x _
 rw [Kh h]
 simp only [List.mem_append,List.mem_singleton,not_or]
 rw [Bool.eq_iff_iff]
 simp only [decide_eq_true_eq,Bool.and_eq_true]
 exact ⟨fun h=>⟨h.2,h.1⟩,fun h=>⟨h.2,h.1⟩⟩
theorem Iq {l:List Int} {a:Int} (hA:Asc l) (h:hit l a=true):l.take (lb l a)++l.drop (lb l a + 1)=l.filter (fun x=>decide (x≠a)):=by
 have hP:=List.pairwise_iff_getElem.1 (ze.1 hA)
 simp only [hit,Bool.and_eq_true,decide_eq_true_eq,beq_iff_eq] at h
 obtain ⟨h1,h2⟩:=h
 rw [lS h1] at h2
 generalize lb l a=i at h1 h2
 conv=>rhs; rw [← List.take_append_drop i l,List.drop_eq_getElem_cons h1,List.filter_append,List.filter_cons,h2]
 rw [if_neg (by simp)]
 congr 1
 ·symm
  rw [List.filter_eq_self]
  intro x hx;obtain ⟨j,hj,rfl⟩:=List.getElem_of_mem hx;have hj':j < i:=by simp at hj; omega
  have:=hP j i (by omega) h1 hj'
  rw [List.getElem_take,decide_eq_true_eq]
  omega
 ·symm
  rw [List.filter_eq_self]
  intro x hx;obtain ⟨j,hj,rfl⟩:=List.getElem_of_mem hx;have hj':i + 1 + j < l.length:=by simp at hj; omega
  have:=hP i (i + 1 + j) h1 hj' (by omega)
  rw [List.getElem_drop,decide_eq_true_eq]
  omega
theorem BV {s args:List Int} (hA:Asc s) (hs:s.length < 2 ^ 43) (ha:args.length < 2 ^ 62):eX () s args=some (if Fit s args then (s.filter (fun x=>decide (x ∉ args)),true) else ([],false)):=by
 unfold eX;have hc:fJ s=some s:=jv _ (by omega)
 rw [hc]
 refine fA.1 ?_
 show Tri (iter (jZ args) (s,0)) _
 refine Dn args.length (fun k l=>l=s.filter (fun x=>decide (x ∉ args.take k))∧∀ j:Nat,j < k→idx args (j:Int) ∈ s∧idx args (j:Int) ∉ args.take j) ⟨by simp; exact (List.filter_eq_self.2 (fun _ _=>rfl)).symm,fun j h=>by omega⟩ (fun k l hk hJ => ?_)
 obtain ⟨hl,hJ⟩:=hJ;have hAl:Asc l:=by rw [hl]; exact Ip _ hA
 have hll:l.length≤s.length:=by rw [hl]; exact List.length_filter_le _ _
 unfold jZ;refine jG (fun h => ?_) (fun h => ?_)
 ·have h:(k:Int) < args.length:=of_decide_eq_true h;have hks:k < args.length:=by omega
  refine ag (by omega) ?_
  rw [Gx _ hAl (by omega)]
  have hm:=NE (s:=l) (a:=idx args (k:Int)) hAl
  show Tri (bif !hit l (idx args (k:Int)) then _ else _) _
  cases hh:hit l (idx args (k:Int))
  ·simp only [Bool.not_false,cond_true]
   refine aA (af ?_)
   show ([],false)=_
   have hn:¬ Fit s args:=by
    intro hF;have h1:=hF k hks;have:idx args (k:Int) ∈ l:=by rw [hl,List.mem_filter]; exact ⟨h1.1,by simpa using h1.2⟩
    rw [hm.2 this] at hh
    cases hh
   rw [if_neg hn]
  ·simp only [Bool.not_true,cond_false]
   have hi:=LU l (idx args (k:Int));have hlt:lb l (idx args (k:Int)) < l.length:=by
    simp only [hit,Bool.and_eq_true,decide_eq_true_eq] at hh
    exact hh.1
   have hd:iT l (lb l (idx args (k:Int)):Int) (w64 ((lb l (idx args (k:Int)):Int) + 1))=some (l.filter (fun x=>decide (x≠idx args (k:Int)))):=by
    unfold iT
    rw [bf (by omega),jv _ ⟨by omega,by omega,by omega⟩,Int.toNat_natCast,Int.toNat_natCast,Iq hAl hh]
   rw [hd]
   refine ⟨_,rfl,bf (by omega),hks,?_,fun j hj => ?_⟩
   ·rw [Gy hks,← hl]
   ·rcases Nat.lt_or_ge j k with h3 | h3
    ·exact hJ j h3
    ·have:j=k:=by omega
     subst this;have hmem:=hm.1 hh
     rw [hl,List.mem_filter] at hmem
     exact ⟨hmem.1,by simpa using hmem.2⟩
 ·have h:¬ (k:Int) < args.length:=of_decide_eq_false h;have hF:Fit s args:=fun j hj=>hJ j (by omega);refine aA (af ?_)
  show (l,true)=_
  rw [if_pos hF,hl,List.take_of_length_le (by omega)]
theorem LV {s args:List Int} (ha:args.length < 2 ^ 62) (h0:args≠[]):gT () s args=some ([],decide (s.length=1∧idx s 0=idx args ((args.length - 1:Nat):Int))):=by
 unfold gT;have hp:0 < args.length:=List.length_pos_iff.2 h0;have e1:w64 ((args.length:Int) - 1)=((args.length - 1:Nat):Int):=mf ha hp
 rw [e1]
 by_cases h1:s.length=1
 ·have h2:((s.length:Int) == 1)=true:=by rw [beq_iff_eq]; omega
  rw [h2,cond_true,jv _ (by omega),jv _ (by omega)]
  simp [h1]
  rw [Bool.eq_iff_iff]; simp
 ·have h2:((s.length:Int) == 1)=false:=by rw [beq_eq_false_iff_ne]; omega
  rw [h2,cond_false]
  simp [h1]
theorem AR (t:Int) {s args:List Int} (hs:s.length < 2 ^ 62) (ha:args.length < 2 ^ 62):gz t s args=some (before t s args):=by
 unfold gz before
 rw [BU t hs]
 by_cases hc:chk t s=0
 ·obtain ⟨h1,h2,h3⟩:=OC hc;have hl:=OD h3
  simp only [hc,Option.bind_some,bne_self_eq_false,cond_false,ne_eq,not_true,false_or]
  by_cases h0:args=[]
  ·subst h0
   simp [jQ]
  ·have hp:((args.length:Int) == 0)=false:=by
    have:0 < args.length:=List.length_pos_iff.2 h0
    rw [beq_eq_false_iff_ne]; omega
   rw [hp,if_neg h0]
   unfold jQ;rcases four ⟨h1,h2⟩ with rfl | rfl | rfl | rfl
   ·simp [jW,LV ha h0]
   ·simp [jW,AQ (s:=s) (by omega) ha]
   ·simp [jW,BV (OE h3) (by omega) ha]
   ·have:=ok_one h3
    simp [jW,dQ]
    rw [jv _ (by omega),FD (s:=s) ha]
    simp
 ·have:(chk t s != 0)=true:=by simpa using hc
  simp [hc,this,jQ]
theorem FE (t:Int) (s args:List Int):(before t s args).1.length≤s.length + 1:=by
 unfold before
 split
 ·simp
 ·split
  ·simp
  ·split
   ·split <;> simp <;> omega
   ·split
    ·split
     ·exact Nat.le_trans (List.length_filter_le _ _) (by omega)
     ·simp
    ·simp
end Go.Proofs.YtfpeabnehpclnaaGreatT
namespace Go.Proofs.YtfpeabnehpclnaaGreatT
open Go Go.Proofs Go.Proofs.YtfpeabnehpclnaaGreatE
set_option linter.unusedVariables false
set_option linter.unusedSimpArgs false
def sN (c:Call) (k:Int):Prop :=
 1≤c.Kind∧c.Kind≤8∧1≤c.Key.size∧c.Key.size≤32 ∧
  (c.Kind≤4→c.Got=false∧c.Vals.length=0∧(c.Kind=4 → -1048576≤c.Arg∧c.Arg≤1048576)) ∧
  (5≤c.Kind→c.Arg=0∧(c.Got=true↔k=1)∧(c.Got=false→c.Vals.length=0) ∧
   (c.Got=true→(c.Kind=5→c.Vals.length≤1)∧(c.Kind=8→c.Vals.length=1)∧(c.Kind=7→Asc c.Vals)∧c.Vals.length≤64))
theorem ES {k:ByteArray}:k=(⟨#[]⟩:ByteArray)↔k.size=0:=by
 constructor
 ·rintro rfl; rfl
 ·intro h;obtain ⟨a⟩:=k;have:a = #[]:=Array.eq_empty_of_size_eq_zero h
  rw [this]
theorem LW {c:Call} (hs:c.Vals.length < 2 ^ 61):Tri (iter (rJ c) 1) (fun r=>r=true↔(c.Kind=7→Asc c.Vals)):=by
 refine dE (k0:=1) (c.Vals.length + 1) (fun k x=>x=(k:Int)∧1≤k∧∀ j:Nat,j + 1 < k→j + 1 < c.Vals.length→idx c.Vals (j:Int) < idx c.Vals ((j + 1:Nat):Int)) (by omega) ⟨rfl,Nat.le_refl _,fun j h=>by omega⟩ ?_
 rintro k x hk ⟨rfl,a0,hJ⟩;unfold rJ rH
 dsimp only
 have e:=mf (k:=k) (by omega) a0;have e2:=bf (k:=k) (by omega)
 rw [e,e2]
 repeat' (first | contradiction | with_reducible refine au (fun hq => ?_) (fun hq => ?_) | with_reducible refine ag (by first | omega | grind [bO]) ?_ | with_reducible refine aA ?_ | with_reducible refine cO ?_ | with_reducible refine dB ?_ | with_reducible refine dC ?_ | with_reducible refine dD ?_ | with_reducible refine af ?_)
 ·show false=true↔_
  have hl:¬ Asc c.Vals:=by
   intro hA;have:=hA (k - 1) (by omega)
   rw [show k - 1 + 1=k by omega] at this
   omega
  grind
 ·refine ⟨by omega,rfl,by omega,fun j hj hl => ?_⟩
  rcases Nat.lt_or_ge (j + 1) k with h3 | h3
  ·exact hJ j h3 hl
  ·have:j=k - 1:=by omega
   subst this
   rw [show k - 1 + 1=k by omega]
   omega
 ·show true=true↔_
  have hl:Asc c.Vals:=fun j hj=>hJ j (by omega) hj
  grind
 ·show true=true↔_
  grind
theorem CW (c:Call) (k:Int) (hs:c.Vals.length < 2 ^ 61):Tri (cB c k) (fun r=>r=true↔sN c k):=by
 unfold cB mi rO rM wK sN
 simp only [cond_true,cond_false]
 have he:=ES (k:=c.Key)
 repeat' (first | contradiction | with_reducible refine au (fun hq => ?_) (fun hq => ?_) | with_reducible refine ag (by first | omega | grind [bO]) ?_ | with_reducible refine aA ?_ | with_reducible refine cO ?_ | with_reducible refine dB ?_ | with_reducible refine dC ?_ | with_reducible refine dD ?_ | with_reducible refine af ?_ | refine fE (LW hs) (fun r hr => ?_))
 all_goals grind
theorem NF {c:Call} (hs:c.Vals.length < 2 ^ 61) (hc:c.Kind=7):Tri (iter (oG c) 1) (fun r=>r=true↔(Asc c.Vals∧c.Vals.length≤64)):=by
 refine dE (k0:=1) (c.Vals.length + 1) (fun k x=>x=(k:Int)∧1≤k∧∀ j:Nat,j + 1 < k→j + 1 < c.Vals.length→idx c.Vals (j:Int) < idx c.Vals ((j + 1:Nat):Int)) (by omega) ⟨rfl,Nat.le_refl _,fun j h=>by omega⟩ ?_
 rintro k x hk ⟨rfl,a0,hJ⟩;unfold oG kR
 dsimp only
 have e:=mf (k:=k) (by omega) a0;have e2:=bf (k:=k) (by omega)
 rw [e,e2]
 repeat' (first | contradiction | with_reducible refine au (fun hq => ?_) (fun hq => ?_) | with_reducible refine ag (by first | omega | grind [bO]) ?_ | with_reducible refine aA ?_ | with_reducible refine cO ?_ | with_reducible refine dB ?_ | with_reducible refine dC ?_ | with_reducible refine dD ?_ | with_reducible refine af ?_)
 ·show false=true↔_
  have hl:¬ Asc c.Vals:=by
   intro hA;have:=hA (k - 1) (by omega)
   rw [show k - 1 + 1=k by omega] at this
   omega
  grind
 ·refine ⟨by omega,rfl,by omega,fun j hj hl => ?_⟩
  rcases Nat.lt_or_ge j (k - 1) with h3 | h3
  ·exact hJ j (by omega) hl
  ·have:j=k - 1:=by omega
   subst this
   rw [show k - 1 + 1=k by omega]
   omega
 ·show decide _=true↔_
  have hl:Asc c.Vals:=fun j hj=>hJ j (by omega) hj
  grind
theorem ED (c:Call) (k:Int) (hs:c.Vals.length < 2 ^ 61):Tri (bD c k) (fun r=>r=true↔sN c k):=by
 unfold bD iX iW kR sN
 simp only [cond_true,cond_false]
 have ha:c.Vals.length=0→Asc c.Vals:=fun h j hj=>by omega
 repeat' (first | contradiction | with_reducible refine au (fun hq => ?_) (fun hq => ?_) | with_reducible refine ag (by first | omega | grind [bO]) ?_ | with_reducible refine aA ?_ | with_reducible refine cO ?_ | with_reducible refine dB ?_ | with_reducible refine dC ?_ | with_reducible refine dD ?_ | with_reducible refine af ?_ | refine fE (NF hs (by assumption)) (fun r hr => ?_))
 all_goals grind
def Small (l:List Call):Prop:=l.length < 2 ^ 61∧uW l (fun c=>c.Vals.length < 2 ^ 61)
theorem LX {l:List Call} {e:Event} (hs:Small l):Tri (dM l e) (fun r=>r=true ↔ ¬ uW l (fun c=>sN c e.Kind)):=by
 have h1:Tri (bK l e) (fun r=>0≤r ↔ ¬ uW l (fun c=>sN c e.Kind)):=by
  have hl:=hs.1;unfold bK;refine ou l.length (fun j=>sN (idx l (j:Int)) e.Kind) ?_;intro k hk hJ;unfold fP tN
  dsimp only
  repeat' (first | contradiction | with_reducible refine au (fun hq => ?_) (fun hq => ?_) | with_reducible refine ag (by first | omega | grind [bO]) ?_ | with_reducible refine aA ?_ | with_reducible refine cO ?_ | with_reducible refine dB ?_ | with_reducible refine dC ?_ | with_reducible refine dD ?_ | with_reducible refine af ?_ | refine eF (CW _ _ (hs.2 k (by omega))) (fun r hr => ?_))
  all_goals grind [Nxt,uW,bO]
 unfold dM;refine eF h1 (fun r hr => ?_)
 repeat' (first | contradiction | with_reducible refine au (fun hq => ?_) (fun hq => ?_) | with_reducible refine ag (by first | omega | grind [bO]) ?_ | with_reducible refine aA ?_ | with_reducible refine cO ?_ | with_reducible refine dB ?_ | with_reducible refine dC ?_ | with_reducible refine dD ?_ | with_reducible refine af ?_)
 grind
def Ae (e:Event):Prop:=0≤e.Kind∧e.Kind≤3∧e.Calls.length≤16∧uW e.Calls (fun c=>sN c e.Kind)
theorem CX {e:Event} (hs:Small e.Calls):Tri (gG [e]) (fun r=>(r=0↔Ae e)∧(r=0∨r=1)):=by
 unfold gG;refine au (fun h => ?_) (fun h => ?_)
 ·simp at h
 ·refine ou 1 (fun j=>Ae e) ?_;intro k hk hJ;unfold vE oJ
  dsimp only
  have hi:k=0→idx [e] (k:Int)=e:=by rintro rfl; rfl
  simp only [cond_true,cond_false]
  have hc:=fun h:k=0=>LX (l:=e.Calls) (e:=e) hs
  by_cases h0:k=0
  ·rw [hi h0]
   repeat' (first | contradiction | with_reducible refine au (fun hq => ?_) (fun hq => ?_) | with_reducible refine ag (by first | omega | grind [bO]) ?_ | with_reducible refine aA ?_ | with_reducible refine cO ?_ | with_reducible refine dB ?_ | with_reducible refine dC ?_ | with_reducible refine dD ?_ | with_reducible refine af ?_ | refine eF (hc h0) (fun r hr => ?_))
   all_goals grind [Nxt,Ae,bO]
  ·repeat' (first | contradiction | with_reducible refine au (fun hq => ?_) (fun hq => ?_) | with_reducible refine ag (by first | omega | grind [bO]) ?_ | with_reducible refine aA ?_ | with_reducible refine cO ?_ | with_reducible refine dB ?_ | with_reducible refine dC ?_ | with_reducible refine dD ?_ | with_reducible refine af ?_ | refine eF (hc (by grind)) (fun r hr => ?_))
   all_goals grind [Nxt,Ae,bO]
theorem DI {e:Event} (hs:Small e.Calls):Tri (dN e) (fun r=>r=true↔Ae e):=by
 unfold dN kw
 simp only [cond_true,cond_false]
 have hl:=hs.1;have h1:Tri (iter (nJ e) 0) (fun r=>r=true↔uW e.Calls (fun c=>sN c e.Kind)):=by
  refine ou e.Calls.length (fun j=>sN (idx e.Calls (j:Int)) e.Kind) ?_;intro k hk hJ;unfold nJ
  dsimp only
  repeat' (first | contradiction | with_reducible refine au (fun hq => ?_) (fun hq => ?_) | with_reducible refine ag (by first | omega | grind [bO]) ?_ | with_reducible refine aA ?_ | with_reducible refine cO ?_ | with_reducible refine dB ?_ | with_reducible refine dC ?_ | with_reducible refine dD ?_ | with_reducible refine af ?_ | refine eF (ED _ _ (hs.2 k (by omega))) (fun r hr => ?_))
  all_goals grind [Nxt,uW,bO]
 repeat' (first | contradiction | with_reducible refine au (fun hq => ?_) (fun hq => ?_) | with_reducible refine ag (by first | omega | grind [bO]) ?_ | with_reducible refine aA ?_ | with_reducible refine cO ?_ | with_reducible refine dB ?_ | with_reducible refine dC ?_ | with_reducible refine dD ?_ | with_reducible refine af ?_ | refine fE h1 (fun r hr => ?_))
 all_goals grind [Ae]
theorem CY {e:Event} (hs:Small e.Calls):Tri (iN [e]) (fun r=>(r=0↔Ae e)∧(r=0∨r=1)):=by
 unfold iN;refine au (fun h => ?_) (fun h => ?_)
 ·simp at h
 ·refine ou 1 (fun j=>Ae e) ?_;intro k hk hJ;unfold rX
  dsimp only
  have hi:k=0→idx [e] (k:Int)=e:=by rintro rfl; rfl
  have hc:k=0→Tri (dN (idx [e] (k:Int))) (fun r=>r=true↔Ae e):=fun h0=>by rw [hi h0]; exact DI hs
  repeat' (first | contradiction | with_reducible refine au (fun hq => ?_) (fun hq => ?_) | with_reducible refine ag (by first | omega | grind [bO]) ?_ | with_reducible refine aA ?_ | with_reducible refine cO ?_ | with_reducible refine dB ?_ | with_reducible refine dC ?_ | with_reducible refine dD ?_ | with_reducible refine af ?_ | refine eF (hc (by grind)) (fun r hr => ?_))
  all_goals grind [Nxt,bO]
def vV (h:History) (o:Op):Call:=⟨o.Kind,idx h.Keys o.Key,o.Arg,o.Got,o.Vals⟩
def dJ (h:History) (t:Txn):List Call:=t.Ops.map (vV h)
def zN (h:History) (t:Txn):Event:=⟨0,t.Status,dJ h t⟩
def wV (h:History) (t:Txn):Prop:=uW t.Ops (fun o=>0≤o.Key∧o.Key < (h.Keys.length:Int))
def DJ (t:Txn):Prop:=t.Ops.length * 56≤140737488351232∧uW t.Ops (fun o=>o.Vals.length * 8≤140737488351232)
theorem DJ.small {h:History} {t:Txn} (hs:DJ t) (k:Nat):Small ((dJ h t).take k):=by
 have h1:=hs.1;refine ⟨by simp [dJ]; omega,fun j hj => ?_⟩
 have hj':j < k∧j < t.Ops.length:=by simp [dJ] at hj; omega
 rw [yP hj'.1,dJ,xe hj'.2]
 have:=hs.2 j hj'.2
 show (idx t.Ops (j:Int)).Vals.length < _
 omega
theorem BX {h:History} {t:Txn} (hs:DJ t):Tri (eG h t) (fun r=>(r.2=true↔wV h t∧Ae (zN h t))∧(r.2=true→r.1=zN h t)):=by
 unfold eG;have hl:=hs.1;refine Dn t.Ops.length (fun k l=>l=(dJ h t).take k∧∀ j:Nat,j < k→0≤(idx t.Ops (j:Int)).Key∧(idx t.Ops (j:Int)).Key < (h.Keys.length:Int)) ⟨rfl,by omega⟩ ?_
 rintro k l hk ⟨rfl,hJ⟩;have hlen:((dJ h t).take k).length=k:=by simp [dJ]; omega
 unfold um pU ul
 simp only [cond_true,cond_false,hlen]
 have hsm:=CX (e:=⟨0,t.Status,(dJ h t).take k⟩) (hs.small k);have hfull:k=t.Ops.length→(dJ h t).take k=dJ h t:=fun e=>List.take_of_length_le (by simp [dJ]; omega);have hnext:k < t.Ops.length→(dJ h t).take (k + 1)=(dJ h t).take k++[vV h (idx t.Ops (k:Int))]:=fun hk=>by
  rw [lw (by simpa [dJ] using hk),dJ,xe hk]
 repeat' (first | contradiction | with_reducible refine au (fun hq => ?_) (fun hq => ?_) | with_reducible refine ag (by first | omega | grind [bO]) ?_ | with_reducible refine aA ?_ | with_reducible refine cO ?_ | with_reducible refine dB ?_ | with_reducible refine dC ?_ | with_reducible refine dD ?_ | with_reducible refine af ?_ | refine eF hsm (fun r hr => ?_))
 all_goals grind [Up2,wV,uW,bO,vV,zN]
def ET (l:List Txn) (i:Nat):Prop:=∀ j:Nat,j < i → ¬ ((idx l (j:Int)).Proc=(idx l (i:Int)).Proc∧((idx l (j:Int)).To = -1∨(idx l (j:Int)).To ≥ (idx l (i:Int)).From))
def yE (l:List Txn) (i:Nat):Prop :=
 1≤(idx l (i:Int)).Status∧(idx l (i:Int)).Status≤3∧0≤(idx l (i:Int)).From∧((idx l (i:Int)).To = -1→(idx l (i:Int)).Status=3) ∧
  ((idx l (i:Int)).To ≠ -1→(idx l (i:Int)).From < (idx l (i:Int)).To)∧(0 < i→(idx l ((i - 1:Nat):Int)).From < (idx l (i:Int)).From)∧ET l i
theorem Ki {l:List Txn} {i:Nat} (hi:i < l.length) (hl:l.length < 2 ^ 61):Tri (dK (eT l 0 (i:Int)) (idx l (i:Int))) (fun r=>r=true ↔ ¬ ET l i):=by
 have h1:Tri (bG (eT l 0 (i:Int)) (idx l (i:Int))) (fun r=>0≤r ↔ ¬ ET l i):=by
  rw [nQ (by omega)]
  unfold bG;have ht:(l.take i).length=i:=by simp; omega
  refine ou i (fun j => ¬ ((idx l (j:Int)).Proc=(idx l (i:Int)).Proc∧((idx l (j:Int)).To = -1∨(idx l (j:Int)).To ≥ (idx l (i:Int)).From))) ?_;intro k hk hJ;unfold fI pV
  dsimp only
  rw [ht]
  have hx:k < i→idx (l.take i) (k:Int)=idx l (k:Int):=fun h=>yP h
  repeat' (first | contradiction | with_reducible refine au (fun hq => ?_) (fun hq => ?_) | with_reducible refine ag (by first | omega | grind [bO]) ?_ | with_reducible refine aA ?_ | with_reducible refine cO ?_ | with_reducible refine dB ?_ | with_reducible refine dC ?_ | with_reducible refine dD ?_ | with_reducible refine af ?_)
  all_goals grind [Nxt,ET,bO]
 unfold dK;refine eF h1 (fun r hr => ?_)
 repeat' (first | contradiction | with_reducible refine au (fun hq => ?_) (fun hq => ?_) | with_reducible refine ag (by first | omega | grind [bO]) ?_ | with_reducible refine aA ?_ | with_reducible refine cO ?_ | with_reducible refine dB ?_ | with_reducible refine dC ?_ | with_reducible refine dD ?_ | with_reducible refine af ?_)
 grind
theorem AU {l:List Txn} {i:Nat} (hi:i < l.length) (hl:l.length < 2 ^ 61):Tri (bY (eT l 0 (i:Int)) (idx l (i:Int))) (fun r=>r=true↔yE l i):=by
 have hf:=Ki hi hl;have hlen:(eT l 0 (i:Int)).length=i:=by rw [nQ (by omega)]; simp; omega
 have hx:0 < i→idx (eT l 0 (i:Int)) (w64 ((i:Int) - 1))=idx l ((i - 1:Nat):Int):=fun h=>by
  rw [mf (by omega) (by omega),nQ (by omega),yP (by omega)]
 have hw:0 < i→w64 ((i:Int) - 1)=((i - 1:Nat):Int):=fun h=>mf (by omega) (by omega);unfold bY oV oU oQ lX yE
 simp only [cond_true,cond_false,hlen]
 repeat' (first | contradiction | with_reducible refine au (fun hq => ?_) (fun hq => ?_) | with_reducible refine ag (by first | omega | grind [bO]) ?_ | with_reducible refine aA ?_ | with_reducible refine cO ?_ | with_reducible refine dB ?_ | with_reducible refine dC ?_ | with_reducible refine dD ?_ | with_reducible refine af ?_ | refine eF hf (fun r hr => ?_))
 all_goals grind
theorem xx {l:List Txn} {i:Nat} (hi:i < l.length) (hl:l.length < 2 ^ 61):Tri (aS l (i:Int)) (fun r=>r=true↔yE l i):=by
 have h1:Tri (iter (mH l (i:Int)) 0) (fun r=>r=true↔ET l i):=by
  refine ou i (fun j => ¬ ((idx l (j:Int)).Proc=(idx l (i:Int)).Proc∧((idx l (j:Int)).To = -1∨(idx l (j:Int)).To ≥ (idx l (i:Int)).From))) ?_;intro k hk hJ;unfold mH jC
  simp only [cond_true,cond_false]
  repeat' (first | contradiction | with_reducible refine au (fun hq => ?_) (fun hq => ?_) | with_reducible refine ag (by first | omega | grind [bO]) ?_ | with_reducible refine aA ?_ | with_reducible refine cO ?_ | with_reducible refine dB ?_ | with_reducible refine dC ?_ | with_reducible refine dD ?_ | with_reducible refine af ?_)
  all_goals grind [Nxt,ET,bO]
 have hw:0 < i→w64 ((i:Int) - 1)=((i - 1:Nat):Int):=fun h=>mf (by omega) (by omega);unfold aS dR mI yE
 simp only [cond_true,cond_false]
 repeat' (first | contradiction | with_reducible refine au (fun hq => ?_) (fun hq => ?_) | with_reducible refine ag (by first | omega | grind [bO]) ?_ | with_reducible refine aA ?_ | with_reducible refine cO ?_ | with_reducible refine dB ?_ | with_reducible refine dC ?_ | with_reducible refine dD ?_ | with_reducible refine af ?_ | refine fE h1 (fun r hr => ?_))
 all_goals grind
def Js (l:List ByteArray) (s:ByteArray) (r:Int):Prop :=
 (r = -1∧∀ j:Nat,j < l.length→idx l (j:Int)≠s)∨(∃ k:Nat,r=(k:Int)∧k < l.length∧idx l (k:Int)=s∧∀ j:Nat,j < k→idx l (j:Int)≠s)
theorem BZ {l:List ByteArray} {s:ByteArray} (hl:l.length < 2 ^ 61):Tri (gI l s) (Js l s):=by
 unfold gI;refine ou l.length (fun j=>idx l (j:Int)≠s) ?_;intro k hk hJ;unfold sS
 dsimp only
 repeat' (first | contradiction | with_reducible refine au (fun hq => ?_) (fun hq => ?_) | with_reducible refine ag (by first | omega | grind [bO]) ?_ | with_reducible refine aA ?_ | with_reducible refine cO ?_ | with_reducible refine dB ?_ | with_reducible refine dC ?_ | with_reducible refine dD ?_ | with_reducible refine af ?_)
 ·exact .inr ⟨k,rfl,by omega,by assumption,hJ⟩
 ·grind [Nxt,bO]
 ·exact .inl ⟨rfl,fun j hj=>hJ j (by omega)⟩
def Af (l:List ByteArray) (i:Nat):Prop:=1≤(idx l (i:Int)).size∧(idx l (i:Int)).size≤32∧∀ j:Nat,j < i→idx l (j:Int)≠idx l (i:Int)
def qw (l:List ByteArray):Prop:=l.length≤32∧∀ i:Nat,i < l.length→Af l i
theorem EE {l:List ByteArray} {s:ByteArray} (hl:l.length < 2 ^ 61):Tri (slices_Contains_string l s) (fun r=>r=true↔∃ j:Nat,j < l.length∧idx l (j:Int)=s):=by
 have h1:Tri (slices_Index_string l s) (fun r=>0≤r↔∃ j:Nat,j < l.length∧idx l (j:Int)=s):=by
  unfold slices_Index_string;refine ou l.length (fun j=>idx l (j:Int)≠s) ?_;intro k hk hJ;unfold lG
  dsimp only
  repeat' (first | contradiction | with_reducible refine au (fun hq => ?_) (fun hq => ?_) | with_reducible refine ag (by first | omega | grind [bO]) ?_ | with_reducible refine aA ?_ | with_reducible refine cO ?_ | with_reducible refine dB ?_ | with_reducible refine dC ?_ | with_reducible refine dD ?_ | with_reducible refine af ?_)
  all_goals grind [Nxt,bO]
 unfold slices_Contains_string;refine eF h1 (fun r hr => ?_)
 repeat' (first | contradiction | with_reducible refine au (fun hq => ?_) (fun hq => ?_) | with_reducible refine ag (by first | omega | grind [bO]) ?_ | with_reducible refine aA ?_ | with_reducible refine cO ?_ | with_reducible refine dB ?_ | with_reducible refine dC ?_ | with_reducible refine dD ?_ | with_reducible refine af ?_)
 grind
theorem DK {l:List ByteArray} (hl:l.length < 2 ^ 61):Tri (dZ l) (fun r=>r=true↔qw l):=by
 unfold dZ;refine ou l.length (Af l) ?_;intro k hk hJ;unfold rW ku
 simp only [cond_true,cond_false]
 have hf:Tri (gI (eT l 0 (k:Int)) (idx l (k:Int))) (fun r=>0≤r↔∃ j:Nat,j < k∧idx l (j:Int)=idx l (k:Int)):=by
  rw [nQ (by omega)]
  refine fE (BZ (by simp; omega)) (fun r hr => ?_);have ht:(l.take k).length=k:=by simp; omega
  have hx:∀ j:Nat,j < k→idx (l.take k) (j:Int)=idx l (j:Int):=fun j h=>yP h;unfold Js at hr
  rw [ht] at hr
  grind
 have hN:qw l→k < l.length→Af l k:=fun h hk=>h.2 k hk
 repeat' (first | contradiction | with_reducible refine au (fun hq => ?_) (fun hq => ?_) | with_reducible refine ag (by first | omega | grind [bO]) ?_ | with_reducible refine aA ?_ | with_reducible refine cO ?_ | with_reducible refine dB ?_ | with_reducible refine dC ?_ | with_reducible refine dD ?_ | with_reducible refine af ?_ | refine eF hf (fun r hr => ?_))
 all_goals (have hNk:Af l k↔(1≤(idx l (k:Int)).size∧(idx l (k:Int)).size≤32∧∀ j:Nat,j < k→idx l (j:Int)≠idx l (k:Int)):=Iff.rfl)
 all_goals grind [Nxt,qw,bO]
end Go.Proofs.YtfpeabnehpclnaaGreatT
namespace Go.Proofs.YtfpeabnehpclnaaGreatT
open Go Go.Proofs Go.Proofs.YtfpeabnehpclnaaGreatE
set_option linter.unusedVariables false
set_option linter.unusedSimpArgs false
def typ (k:Int):Int:=(k - 1) % 4 + 1
theorem yF {k:Int} (h1:1≤k) (h2:k≤8):nU k=some (typ k):=by
 have:k=1∨k=2∨k=3∨k=4∨k=5∨k=6∨k=7∨k=8:=by omega
 rcases this with h | h | h | h | h | h | h | h <;> subst h <;> decide
theorem Dj {k:Int} (h1:1≤k) (h2:k≤8):jl k=some (typ k):=by
 have:k=1∨k=2∨k=3∨k=4∨k=5∨k=6∨k=7∨k=8:=by omega
 rcases this with h | h | h | h | h | h | h | h <;> subst h <;> decide
structure Sim (g:bu) (b:aK) (n:Nat):Prop where
 keys:g.keys=b.keys
 types:g.types=b.types
 len:b.keys.length≤32
 tl:b.types.length=b.keys.length
 wl:b.wrote.length=b.keys.length
 il:b.incs.length=b.keys.length
 ll:b.last_.length=b.keys.length
 nd:∀ i j:Nat,i < b.keys.length→j < b.keys.length→idx b.keys (i:Int)=idx b.keys (j:Int)→i=j
 has:∀ s,nT g.at_ s=true↔∃ j:Nat,j < b.keys.length∧idx b.keys (j:Int)=s
 at_:∀ j:Nat,j < b.keys.length→mat g.at_ (idx b.keys (j:Int))=(j:Int)
 facts:∀ j:Nat,j < b.keys.length→∀ a,nT g.facts ⟨idx b.keys (j:Int),a⟩=true↔∃ m:Nat,m < (idx b.wrote (j:Int)).length∧idx (idx b.wrote (j:Int)) (m:Int)=a
 fout:∀ s a,nT g.facts ⟨s,a⟩=true→∃ j:Nat,j < b.keys.length∧idx b.keys (j:Int)=s
 wn:∀ j:Nat,j < b.keys.length→(idx b.wrote (j:Int)).length≤n
 incs:∀ j:Nat,j < b.keys.length→((mat g.incs (idx b.keys (j:Int))).length:Int)=idx b.incs (j:Int)
 i8:∀ j:Nat,j < b.keys.length→(mat g.incs (idx b.keys (j:Int))).length≤8
 iout:∀ s,(∀ j:Nat,j < b.keys.length→idx b.keys (j:Int)≠s)→mat g.incs s=[]
 last:∀ j:Nat,j < b.keys.length→((mat g.incs (idx b.keys (j:Int))).length=0→idx b.last_ (j:Int) = -1) ∧
  (0 < (mat g.incs (idx b.keys (j:Int))).length→idx b.last_ (j:Int)=idx (mat g.incs (idx b.keys (j:Int))) (((mat g.incs (idx b.keys (j:Int))).length - 1:Nat):Int))
theorem Sim.start:Sim ⟨[],[],[],[],[]⟩ ⟨[],[],[],[],[]⟩ 0:=by
 refine ⟨rfl,rfl,by simp,rfl,rfl,rfl,rfl,?_,?_,?_,?_,?_,?_,?_,?_,?_,?_⟩
 all_goals simp [Hd,Ob]
 rfl
theorem Sim.mono {g:bu} {b:aK} {n m:Nat} (h:Sim g b n) (hm:n≤m):Sim g b m :=
 { h with wn:=fun j hj=>Nat.le_trans (h.wn j hj) hm }
theorem Sim.new {g:bu} {b:aK} {n:Nat} (h:Sim g b n) {s:ByteArray} {t:Int} (hn:∀ j:Nat,j < b.keys.length→idx b.keys (j:Int)≠s) (a1:b.keys.length < 32) :
  Sim ⟨g.keys++[s],gP g.at_ s (g.keys.length:Int),g.types++[t],g.facts,g.incs⟩ ⟨b.keys++[s],b.types++[t],b.wrote++[[]],b.incs++[0],b.last_++[-1]⟩ n:=by
 have hk:=h.keys;have hl:(b.keys++[s]).length=b.keys.length + 1:=by simp
 have k1:∀ j:Nat,j < b.keys.length→idx (b.keys++[s]) (j:Int)=idx b.keys (j:Int):=fun j hj=>kD hj;have k2:idx (b.keys++[s]) ((b.keys.length:Nat):Int)=s:=jH rfl;have w1:∀ j:Nat,j < b.keys.length→idx (b.wrote++[[]]) (j:Int)=idx b.wrote (j:Int):=fun j hj=>kD (by rw [h.wl]; exact hj);have w2:idx (b.wrote++[[]]) ((b.keys.length:Nat):Int)=[]:=jH h.wl.symm;have i1:∀ j:Nat,j < b.keys.length→idx (b.incs++[0]) (j:Int)=idx b.incs (j:Int):=fun j hj=>kD (by rw [h.il]; exact hj);have i2:idx (b.incs++[0]) ((b.keys.length:Nat):Int)=0:=jH h.il.symm;have l1:∀ j:Nat,j < b.keys.length→idx (b.last_++[-1]) (j:Int)=idx b.last_ (j:Int):=fun j hj=>kD (by rw [h.ll]; exact hj);have l2:idx (b.last_++[-1]) ((b.keys.length:Nat):Int) = -1:=jH h.ll.symm;have a0:=h.iout s hn;have cut:∀ j:Nat,j < b.keys.length + 1→j < b.keys.length∨j=b.keys.length:=by omega
 refine ⟨by simp [hk],by simp [h.types],by simp; omega,by simp [h.tl],by simp [h.wl],by simp [h.il],by simp [h.ll],?_,?_,?_,?_,?_,?_,?_,?_,?_,?_⟩
 ·intro i j hi hj he
  dsimp only at hi hj he
  rw [hl] at hi hj
  have:=h.nd i j;rcases cut i hi with hi' | hi' <;> rcases cut j hj with hj' | hj' <;> grind
 ·intro x
  dsimp only
  rw [Bj,hl,h.has]
  constructor
  ·rintro (rfl | ⟨j,hj,he⟩)
   ·exact ⟨_,Nat.lt_succ_self _,k2⟩
   ·exact ⟨j,by omega,(k1 j hj).trans he⟩
  ·rintro ⟨j,hj,he⟩;rcases cut j hj with hj' | hj'
   ·exact .inr ⟨j,hj',(k1 j hj') ▸ he⟩
   ·subst hj'; exact .inl (k2.symm.trans he).symm
 ·intro j hj
  dsimp only at hj ⊢
  rw [hl] at hj
  rw [uh,hk]
  rcases cut j hj with hj' | hj'
  ·rw [k1 j hj',if_neg (hn j hj')]; exact h.at_ j hj'
  ·subst hj'; rw [k2,if_pos rfl]
 ·intro j hj a
  dsimp only at hj ⊢
  rw [hl] at hj
  rcases cut j hj with hj' | hj'
  ·rw [k1 j hj',w1 j hj']; exact h.facts j hj' a
  ·subst hj'
   rw [k2,w2]
   constructor
   ·intro hh;obtain ⟨i,hi,he⟩:=h.fout s a hh;exact absurd he (hn i hi)
   ·rintro ⟨m,hm,_⟩; simp at hm
 ·intro x a hh;obtain ⟨i,hi,he⟩:=h.fout x a hh;exact ⟨i,by simp; omega,(k1 i hi).trans he⟩
 ·intro j hj
  dsimp only at hj ⊢
  rw [hl] at hj
  rcases cut j hj with hj' | hj'
  ·rw [w1 j hj']; exact h.wn j hj'
  ·subst hj'; rw [w2]; simp
 ·intro j hj
  dsimp only at hj ⊢
  rw [hl] at hj
  rcases cut j hj with hj' | hj'
  ·rw [k1 j hj',i1 j hj']; exact h.incs j hj'
  ·subst hj'; rw [k2,i2,a0]; rfl
 ·intro j hj
  dsimp only at hj ⊢
  rw [hl] at hj
  rcases cut j hj with hj' | hj'
  ·rw [k1 j hj']; exact h.i8 j hj'
  ·subst hj'; rw [k2,a0]; simp
 ·intro x hx
  dsimp only at hx ⊢
  rw [hl] at hx
  exact h.iout x (fun j hj=>by rw [← k1 j hj]; exact hx j (by omega))
 ·intro j hj
  dsimp only at hj ⊢
  rw [hl] at hj
  rcases cut j hj with hj' | hj'
  ·rw [k1 j hj',l1 j hj']; exact h.last j hj'
  ·subst hj'; rw [k2,l2,a0]; simp
theorem Sim.write {g:bu} {b:aK} {n k:Nat} (h:Sim g b n) {s:ByteArray} {a:Int} (hk:k < b.keys.length) (hs:idx b.keys (k:Int)=s) :
  Sim ⟨g.keys,g.at_,g.types,gP g.facts ⟨s,a⟩ (),g.incs⟩ ⟨b.keys,b.types,b.wrote.set k (idx b.wrote (k:Int)++[a]),b.incs,b.last_⟩ (n + 1):=by
 have w1:∀ j:Nat,idx (b.wrote.set k (idx b.wrote (k:Int)++[a])) (j:Int)=if j=k then idx b.wrote (k:Int)++[a] else idx b.wrote (j:Int):=fun j=>sI (by rw [h.wl]; exact hk);refine ⟨h.keys,h.types,h.len,h.tl,by simp [h.wl],h.il,h.ll,h.nd,h.has,h.at_,?_,?_,?_,h.incs,h.i8,h.iout,h.last⟩
 ·intro j hj x
  dsimp only at hj ⊢
  rw [Bj,w1 j,h.facts j hj]
  by_cases e:j=k
  ·subst e
   rw [if_pos rfl,hs]
   constructor
   ·rintro (he | ⟨m,hm,he⟩)
    ·have:x=a:=by injection he
     subst this;exact ⟨_,by simp,jH rfl⟩
    ·exact ⟨m,by simp; omega,(kD hm).trans he⟩
   ·rintro ⟨m,hm,he⟩;rcases Nat.lt_or_ge m (idx b.wrote (j:Int)).length with h1 | h1
    ·exact .inr ⟨m,h1,(kD h1).symm.trans he⟩
    ·simp at hm
     rw [jH (by omega)] at he
     rw [he]; exact .inl rfl
  ·rw [if_neg e]
   constructor
   ·rintro (he | hh)
    ·injection he with h1 h2
     exact absurd (h.nd j k hj hk (h1.trans hs.symm)) e
    ·exact hh
   ·exact .inr
 ·intro x y hh
  dsimp only at hh ⊢
  rcases Bj.1 hh with he | hh
  ·injection he with h1 h2
   exact ⟨k,hk,hs.trans h1.symm⟩
  ·exact h.fout x y hh
 ·intro j hj
  dsimp only at hj ⊢
  rw [w1 j]
  have:=h.wn j hj
  split
  ·rename_i e; subst e; simp; omega
  ·omega
theorem Sim.inc {g:bu} {b:aK} {n k:Nat} (h:Sim g b n) {s:ByteArray} {a:Int} (hk:k < b.keys.length) (hs:idx b.keys (k:Int)=s) (h8:(mat g.incs s).length < 8) :
  Sim ⟨g.keys,g.at_,g.types,g.facts,gP g.incs s (mat g.incs s++[a])⟩ ⟨b.keys,b.types,b.wrote,b.incs.set k (idx b.incs (k:Int) + 1),b.last_.set k a⟩ n:=by
 have i1:∀ j:Nat,idx (b.incs.set k (idx b.incs (k:Int) + 1)) (j:Int)=if j=k then idx b.incs (k:Int) + 1 else idx b.incs (j:Int):=fun j=>sI (by rw [h.il]; exact hk);have l1:∀ j:Nat,idx (b.last_.set k a) (j:Int)=if j=k then a else idx b.last_ (j:Int):=fun j=>sI (by rw [h.ll]; exact hk);have hne:∀ j:Nat,j < b.keys.length→j≠k→idx b.keys (j:Int)≠s:=fun j hj e he=>e (h.nd j k hj hk (he.trans hs.symm));refine ⟨h.keys,h.types,h.len,h.tl,h.wl,by simp [h.il],by simp [h.ll],h.nd,h.has,h.at_,h.facts,h.fout,h.wn,?_,?_,?_,?_⟩
 ·intro j hj
  dsimp only at hj ⊢
  rw [uh,i1 j]
  by_cases e:j=k
  ·subst e
   rw [if_pos hs,if_pos rfl,← h.incs j hj,hs]; simp
  ·rw [if_neg (hne j hj e),if_neg e]; exact h.incs j hj
 ·intro j hj
  dsimp only at hj ⊢
  rw [uh]
  by_cases e:j=k
  ·subst e
   rw [if_pos hs]; simp; omega
  ·rw [if_neg (hne j hj e)]; exact h.i8 j hj
 ·intro x hx
  dsimp only at hx ⊢
  rw [uh,if_neg (fun e=>hx k hk (hs.trans e.symm))]
  exact h.iout x hx
 ·intro j hj
  dsimp only at hj ⊢
  rw [uh,l1 j]
  by_cases e:j=k
  ·subst e
   rw [if_pos hs,if_pos rfl]
   refine ⟨fun h0=>by simp at h0,fun _ => ?_⟩
   rw [jH (by simp)]
  ·rw [if_neg (hne j hj e),if_neg e]; exact h.last j hj
theorem Ir {c:Call} {who:Int} {a4:List ByteArray} {a2:List Int} {a0:List (List Int)} {a1 a3:List Int} {k:Nat} {Q:Int×aK→Prop} (hk:k < a0.length) (hb:(idx a0 (k:Int)).length≤4096)
  (h1:(∃ m:Nat,m < (idx a0 (k:Int)).length∧idx (idx a0 (k:Int)) (m:Int)=c.Arg)→Q (3,⟨a4,a2,a0,a1,a3⟩))
  (h2:(¬ ∃ m:Nat,m < (idx a0 (k:Int)).length∧idx (idx a0 (k:Int)) (m:Int)=c.Arg)→Tri (fQ c who a4 a2 a1 a3 (k:Int) (a0.set k (idx a0 (k:Int)++[c.Arg]))) Q) :
  Tri (iter (jK c who a4 a2 a0 a1 a3 (k:Int)) 0) Q:=by
 refine ou (idx a0 (k:Int)).length (fun m=>idx (idx a0 (k:Int)) (m:Int)≠c.Arg) ?_;intro m hm hJ;unfold jK
 dsimp only
 rw [Int.toNat_natCast]
 repeat' (first | contradiction | with_reducible refine au (fun hq => ?_) (fun hq => ?_) | with_reducible refine ag (by first | omega | grind [bO]) ?_ | with_reducible refine aA ?_ | with_reducible refine cO ?_ | with_reducible refine dB ?_ | with_reducible refine dC ?_ | with_reducible refine dD ?_ | with_reducible refine af ?_)
 ·exact h1 ⟨m,by omega,by assumption⟩
 ·grind [Nxt,bO]
 ·exact h2 (by grind)
def Both (r:Int×bu) (n:Nat) (r':Int×aK):Prop:=r.1=r'.1∧(r.1=0→Sim r.2 r'.2 n)
def Iu (b:aK) (c:Call) (who:Int) (k:Nat) (r:Int×aK):Prop :=
 (idx b.types (k:Int)≠typ c.Kind∧r=(50,b)) ∨
 (idx b.types (k:Int)=typ c.Kind∧(c.Kind=2∨c.Kind=3)∧(∃ m:Nat,m < (idx b.wrote (k:Int)).length∧idx (idx b.wrote (k:Int)) (m:Int)=c.Arg)∧r=(3,b)) ∨
 (idx b.types (k:Int)=typ c.Kind∧(c.Kind=2∨c.Kind=3)∧(¬ ∃ m:Nat,m < (idx b.wrote (k:Int)).length∧idx (idx b.wrote (k:Int)) (m:Int)=c.Arg) ∧
  r=(0,⟨b.keys,b.types,b.wrote.set k (idx b.wrote (k:Int)++[c.Arg]),b.incs,b.last_⟩)) ∨
 (idx b.types (k:Int)=typ c.Kind∧c.Kind=4∧idx b.last_ (k:Int)≠who∧idx b.incs (k:Int) + 1 > 8∧r.1=51) ∨
 (idx b.types (k:Int)=typ c.Kind∧c.Kind=4∧idx b.last_ (k:Int)≠who∧idx b.incs (k:Int) + 1≤8 ∧
  r=(0,⟨b.keys,b.types,b.wrote,b.incs.set k (idx b.incs (k:Int) + 1),b.last_.set k who⟩)) ∨
 (idx b.types (k:Int)=typ c.Kind∧c.Kind=4∧idx b.last_ (k:Int)=who∧r=(0,b)) ∨
 (idx b.types (k:Int)=typ c.Kind∧c.Kind≠2∧c.Kind≠3∧c.Kind≠4∧r=(0,b))
theorem FH {b:aK} {k:Nat} {c:Call} {who:Int} (hk:k < b.keys.length) (t1:b.types.length=b.keys.length) (t2:b.wrote.length=b.keys.length) (t3:b.incs.length=b.keys.length)
  (t4:b.last_.length=b.keys.length) (hwr:(idx b.wrote (k:Int)).length≤4096) (hin:0≤idx b.incs (k:Int)∧idx b.incs (k:Int)≤8)
  (h1:1≤c.Kind) (h8:c.Kind≤8):Tri (fe c who b.keys b.types b.wrote b.incs b.last_ (k:Int)) (Iu b c who k):=by
 have e1:w64 (idx b.incs (k:Int) + 1)=idx b.incs (k:Int) + 1:=bO (by omega) (by omega);have e2:idx (b.incs.set k (idx b.incs (k:Int) + 1)) (k:Int)=idx b.incs (k:Int) + 1:=by rw [sI (by omega),if_pos rfl]
 unfold fe jL fQ gZ gY
 simp only [cond_true,cond_false,Dj h1 h8,Int.toNat_natCast,e1,e2]
 repeat' (first | contradiction | with_reducible refine au (fun hq => ?_) (fun hq => ?_) | with_reducible refine ag (by first | omega | grind [bO]) ?_ | with_reducible refine aA ?_ | with_reducible refine cO ?_ | with_reducible refine dB ?_ | with_reducible refine dC ?_ | with_reducible refine dD ?_ | with_reducible refine af ?_ | refine Ir (by omega) hwr (fun h => ?_) (fun h => ?_))
 all_goals try unfold fQ gZ gY
 all_goals try simp only [cond_true,cond_false,Int.toNat_natCast,e1,e2]
 repeat' (first | contradiction | with_reducible refine au (fun hq => ?_) (fun hq => ?_) | with_reducible refine ag (by first | omega | grind [bO]) ?_ | with_reducible refine aA ?_ | with_reducible refine cO ?_ | with_reducible refine dB ?_ | with_reducible refine dC ?_ | with_reducible refine dD ?_ | with_reducible refine af ?_)
 all_goals grind [Iu]
theorem enter_at {g:bu} {b:aK} {n k:Nat} {a0:bu} {c:Call} {who:Int} (h:Sim g b n) (hf:a0.facts=g.facts) (hi:a0.incs=g.incs) (hk:k < b.keys.length) (hs:idx b.keys (k:Int)=c.Key)
  (h1:1≤c.Kind) (h8:c.Kind≤8) (hw:0≤who) (hn:n≤2048) :
  Tri (ig a0 c who g.keys g.at_ g.types (k:Int)) (fun r=>Tri (fe c who b.keys b.types b.wrote b.incs b.last_ (k:Int)) (Both r (n + 1))):=by
 obtain ⟨gk,ga,gt,gf,gi⟩:=g
 dsimp only at hf hi
 have htl:=h.types;have hkk:=h.keys
 dsimp only at htl hkk ⊢
 subst htl hkk;have t1:=h.tl;have t2:=h.wl;have t3:=h.il;have t4:=h.ll;have hfa:=h.facts k hk c.Arg;have hin:=h.incs k hk;have a1:=h.i8 k hk;have hla:=h.last k hk;have hwr:=h.wn k hk
 rw [hs] at hfa hin a1 hla
 dsimp only at hfa hin a1 hla
 obtain ⟨r',hr',spec⟩:=FH (who:=who) hk t1 t2 t3 t4 (by omega) (by omega) h1 h8;have s0:=h.mono (Nat.le_succ n);have s1:=h.write (a:=c.Arg) hk hs;have s2:(mat gi c.Key).length < 8→_:=fun hl=>(h.inc (a:=who) hk hs hl).mono (Nat.le_succ n)
 dsimp only at s1 s2
 have e3:0 < (mat gi c.Key).length→w64 (((mat gi c.Key).length:Int) - 1)=(((mat gi c.Key).length - 1:Nat):Int):=fun h=>mf (by omega) (by omega);have m1:mat (gP gi c.Key (mat gi c.Key++[who])) c.Key=mat gi c.Key++[who]:=by rw [uh,if_pos rfl]
 unfold ig jA mq jy jw ib
 simp only [cond_true,cond_false,yF h1 h8,hf,hi,m1]
 repeat' (first | contradiction | with_reducible refine au (fun hq => ?_) (fun hq => ?_) | with_reducible refine ag (by first | omega | grind [bO]) ?_ | with_reducible refine aA ?_ | with_reducible refine cO ?_ | with_reducible refine dB ?_ | with_reducible refine dC ?_ | with_reducible refine dD ?_ | with_reducible refine af ?_)
 all_goals refine ⟨r',hr',?_⟩
 all_goals unfold Iu at spec
 all_goals simp only [Both]
 all_goals grind
theorem Iw {g:bu} {b:aK} {n:Nat} {c:Call} {who:Int} (h:Sim g b n) (h1:1≤c.Kind) (h8:c.Kind≤8) (hw:0≤who) (hn:n≤2048) :
  Tri (aB g c who) (fun r=>Tri (aj b c who) (Both r (n + 1))):=by
 have hl:=h.len;have t1:=h.tl;have t2:=h.wl;have t3:=h.il;have t4:=h.ll;have hk:=h.keys;have ht:=h.types;obtain ⟨r0,a3,hf⟩:=BZ (l:=b.keys) (s:=c.Key) (by omega);rcases hf with ⟨rfl,hno⟩ | ⟨k,rfl,a2,a1,_⟩
 ·have hm:¬ nT g.at_ c.Key=true:=fun hh=>by
   obtain ⟨j,hj,he⟩:=(h.has c.Key).1 hh;exact hno j hj he
  unfold aB aj mr
  simp only [a3,yF h1 h8,hk,ht]
  refine au (fun _ => ?_) (fun hh=>absurd hm hh);refine au (fun a4 => ?_) (fun a4 => ?_)
  ·refine af (cO ?_)
   repeat' (first | contradiction | with_reducible refine au (fun hq => ?_) (fun hq => ?_) | with_reducible refine ag (by first | omega | grind [bO]) ?_ | with_reducible refine aA ?_ | with_reducible refine cO ?_ | with_reducible refine dB ?_ | with_reducible refine dC ?_ | with_reducible refine dD ?_ | with_reducible refine af ?_)
   ·exact ⟨rfl,fun h=>by cases h⟩
   ·omega
  ·have hS:=h.new (s:=c.Key) (t:=typ c.Kind) hno (by omega)
   rw [hk,ht] at hS
   have he:=enter_at (a0:=g) (who:=who) hS rfl rfl (k:=b.keys.length) (by simp) (jH rfl) h1 h8 hw hn
   dsimp only at he
   refine ag (by omega) (cO (ag (by omega) ?_));refine fE he (fun r hr => ?_);unfold jN jM
   simp only [Dj h1 h8]
   repeat' (first | contradiction | with_reducible refine au (fun hq => ?_) (fun hq => ?_) | with_reducible refine ag (by first | omega | grind [bO]) ?_ | with_reducible refine aA ?_ | with_reducible refine cO ?_ | with_reducible refine dB ?_ | with_reducible refine dC ?_ | with_reducible refine dD ?_ | with_reducible refine af ?_ | exact hr)
   omega
 ·have hm:nT g.at_ c.Key=true:=(h.has c.Key).2 ⟨k,a2,a1⟩;have hat:mat g.at_ c.Key=(k:Int):=by rw [← a1]; exact h.at_ k a2
  have he:=enter_at (a0:=g) (who:=who) h rfl rfl a2 a1 h1 h8 hw hn;unfold aB aj
  simp only [a3,hat]
  refine au (fun hh=>absurd hm hh) (fun _ => ?_);refine fE he (fun r hr=>cO ?_)
  repeat' (first | contradiction | with_reducible refine au (fun hq => ?_) (fun hq => ?_) | with_reducible refine ag (by first | omega | grind [bO]) ?_ | with_reducible refine aA ?_ | with_reducible refine cO ?_ | with_reducible refine dB ?_ | with_reducible refine dC ?_ | with_reducible refine dD ?_ | with_reducible refine af ?_ | exact hr)
abbrev GS:=List ByteArray×(List (ByteArray×Int))×List Int×(List (dG×Unit))×(List (ByteArray×(List Int)))×Int
abbrev BS:=List ByteArray×List Int×(List (List Int))×List Int×List Int×Int
def Gz (g:bu) (x:Int):GS:=(g.keys,g.at_,g.types,g.facts,g.incs,x)
def AV (b:aK) (x:Int):BS:=(b.keys,b.types,b.wrote,b.incs,b.last_,x)
def Go1 (i n:Nat):GS ⊕ (Int ⊕ Int)→(List Call×Int) ⊕ (BS ⊕ Int)→Prop
 | .inl s,.inr (.inl t)=>∃ g b,s=Gz g ((i + 1:Nat):Int)∧t=AV b ((i + 1:Nat):Int)∧Sim g b n
 | .inr (.inr a),.inr (.inr b)=>a=1∧b=1
 | _,_=>False
theorem enters {g:bu} {b:aK} {n i:Nat} {l:List Call} {y:Event×Bool} (h:Sim g b n) (hy:y.1.Calls=l) (hl:l.length≤16) (hi:i < 64) (hn:n≤1024) (hc:uW l (fun c=>1≤c.Kind∧c.Kind≤8)) :
  Tri (iter (pW (i:Int) y) (Gz g 0)) (fun x=>Tri (iter (gJ (i:Int) l) (AV b 0)) (Go1 i (n + 16) x)):=by
 refine Cr l.length (fun k s t=>∃ g b,s=Gz g (k:Int)∧t=AV b (k:Int)∧Sim g b (n + k)) (Nat.zero_le _) ⟨g,b,rfl,rfl,h⟩ ?_;rintro k s t hk ⟨g,b,rfl,rfl,hS⟩;unfold pW gJ Gz AV
 dsimp only
 rw [hy]
 refine au (fun h => ?_) (fun h => ?_)
 ·refine ag (by omega) ?_;obtain ⟨r,hr,r',hr',hb⟩:=Iw (who:=(i:Int)) hS (hc k (by omega)).1 (hc k (by omega)).2 (by omega) (by omega);refine bF hr ?_;have hw:w64 ((k:Int) + 1)=((k + 1:Nat):Int):=bf (by omega)
  rw [hw]
  repeat' (first | contradiction | with_reducible refine au (fun hq => ?_) (fun hq => ?_) | with_reducible refine ag (by first | omega | grind [bO]) ?_ | with_reducible refine aA ?_ | with_reducible refine cO ?_ | with_reducible refine dB ?_ | with_reducible refine dC ?_ | with_reducible refine dD ?_ | with_reducible refine af ?_ | refine bF hr' ?_)
  ·exact ⟨rfl,rfl⟩
  ·exact absurd (by rw [hb.1]; omega) ‹r.1≠0›
  ·exact absurd (by rw [← hb.1]; omega) ‹r'.1≠0›
  ·exact ⟨by omega,r.2,r'.2,rfl,rfl,hb.2 (by omega)⟩
 ·have hw:w64 ((i:Int) + 1)=((i + 1:Nat):Int):=bf (by omega)
  rw [hw]
  repeat' (first | contradiction | with_reducible refine au (fun hq => ?_) (fun hq => ?_) | with_reducible refine ag (by first | omega | grind [bO]) ?_ | with_reducible refine aA ?_ | with_reducible refine cO ?_ | with_reducible refine dB ?_ | with_reducible refine dC ?_ | with_reducible refine dD ?_ | with_reducible refine af ?_)
  exact ⟨g,b,rfl,rfl,hS.mono (by omega)⟩
theorem FI {h:History} {i:Nat} {b:aK} {Q:BS ⊕ Int→Prop} (hi:i < h.Txns.length) (hs:DJ (idx h.Txns (i:Int))) (a1:(idx h.Txns (i:Int)).Ops.length≤16)
  (h1:¬ (wV h (idx h.Txns (i:Int))∧Ae (zN h (idx h.Txns (i:Int))))→Q (.inr 1))
  (h2:wV h (idx h.Txns (i:Int))→Ae (zN h (idx h.Txns (i:Int)))→Tri (iter (gJ (i:Int) (dJ h (idx h.Txns (i:Int)))) (AV b 0)) (fun x=>match x with | .inl _=>False | .inr y=>Q y)) :
  Tri (iter (gK h b.keys b.types b.wrote b.incs b.last_ (i:Int)) ([],0)) Q:=by
 generalize ht:idx h.Txns (i:Int)=t at hs a1 h1 h2;refine Dn t.Ops.length (fun k l=>l=(dJ h t).take k∧∀ j:Nat,j < k→0≤(idx t.Ops (j:Int)).Key∧(idx t.Ops (j:Int)).Key < (h.Keys.length:Int)) ⟨rfl,by omega⟩ ?_
 rintro k l hk ⟨rfl,hJ⟩;have hlen:((dJ h t).take k).length=k:=by simp [dJ]; omega
 unfold gK nK rY
 simp only [cond_true,cond_false,hlen,ht]
 have hsm:=CY (e:=⟨0,t.Status,(dJ h t).take k⟩) (hs.small k);have hfull:k=t.Ops.length→(dJ h t).take k=dJ h t:=fun e=>List.take_of_length_le (by simp [dJ]; omega);have hnext:k < t.Ops.length→(dJ h t).take (k + 1)=(dJ h t).take k++[vV h (idx t.Ops (k:Int))]:=fun hk=>by
  rw [lw (by simpa [dJ] using hk),dJ,xe hk]
 have hw:w64 ((k:Int) + 1)=((k + 1:Nat):Int):=bf (by omega)
 rw [hw]
 repeat' (first | contradiction | with_reducible refine au (fun hq => ?_) (fun hq => ?_) | with_reducible refine ag (by first | omega | grind [bO]) ?_ | with_reducible refine aA ?_ | with_reducible refine cO ?_ | with_reducible refine dB ?_ | with_reducible refine dC ?_ | with_reducible refine dD ?_ | with_reducible refine af ?_ | refine eF hsm (fun r hr => ?_))
 ·grind [Up2,wV,uW]
 ·grind [Up2,wV,uW]
 ·grind [Up2,vV]
 ·have a0:k=t.Ops.length:=by omega
  rw [hfull a0] at hr
  refine h1 (fun hh => ?_);have:=hr.1.2 hh.2
  contradiction
 ·have a0:k=t.Ops.length:=by omega
  rw [hfull a0] at hr ⊢
  have hK:wV _ t:=fun j hj=>hJ j (by omega);refine fE (h2 hK (hr.1.1 (by omega))) ?_;rintro (x | y) hxy
  ·exact hxy.elim
  ·exact hxy
def AX (h:History) (i:Nat):Prop:=yE h.Txns i∧wV h (idx h.Txns (i:Int))∧Ae (zN h (idx h.Txns (i:Int)))
def vW (h:History):Prop:=h.Keys.length * 16≤140737488351232∧h.Txns.length * 56≤140737488351232∧uW h.Txns DJ
theorem Kj {h:History} (hs:vW h) (hN:qw h.Keys) (a7:h.Txns.length≤32) :
  Tri (iter (nD h) (Gz ⟨[],[],[],[],[]⟩ 0)) (fun x=>Tri (iter (kz h) (AV ⟨[],[],[],[],[]⟩ 0)) (fun y=>(∃ v,x = .inr v∧v=y)∧(y=0∨y=1))):=by
 obtain ⟨a9,a8,a1⟩:=hs;refine Cr h.Txns.length (fun k s t=>∃ g b,s=Gz g (k:Int)∧t=AV b (k:Int)∧Sim g b (k * 16)∧∀ j:Nat,j < k→AX h j) (Nat.zero_le _) ⟨_,_,rfl,rfl,Sim.start,fun j hj=>absurd hj (Nat.not_lt_zero _)⟩ ?_;rintro k s t hk ⟨g,b,rfl,rfl,hS,hJ⟩;unfold nD pX kz ky Gz AV
 simp only [cond_true,cond_false]
 refine au (fun a5 => ?_) (fun a5 => ?_)
 ·have a0:k < h.Txns.length:=by omega
  obtain ⟨r,hr,a4,a6⟩:=BX (h:=h) (a1 k a0);obtain ⟨p,hp,a2⟩:=AU (l:=h.Txns) a0 (by omega);obtain ⟨p',hp',hp1'⟩:=xx (l:=h.Txns) a0 (by omega);have hco:Ae (zN h (idx h.Txns (k:Int)))→(idx h.Txns (k:Int)).Ops.length≤16:=fun he=>by
   have:=he.2.2.1
   simpa [zN,dJ] using this
  refine ag (by omega) (bF hr ?_)
  by_cases hok:AX h k
  ·have e1:r.2=true:=a4.2 ⟨hok.2.1,hok.2.2⟩;have e2:p=true:=a2.2 hok.1;have e3:p'=true:=hp1'.2 hok.1;have hc:uW (dJ h (idx h.Txns (k:Int))) (fun c=>1≤c.Kind∧c.Kind≤8):=fun j hj=>⟨(hok.2.2.2.2.2 j hj).1,(hok.2.2.2.2.2 j hj).2.1⟩;obtain ⟨x,hx,y,hy,hxy⟩:=enters (y:=r) (i:=k) hS (congrArg Event.Calls (a6 e1)) hok.2.2.2.2.1 (by omega) (by omega) hc;refine au (fun h=>absurd e1 h) (fun _ => ?_);refine ag (by omega) (bF hp ?_);refine au (fun h=>absurd e2 h) (fun _ => ?_);refine ⟨x,hx,?_⟩
   repeat' (first | contradiction | with_reducible refine au (fun hq => ?_) (fun hq => ?_) | with_reducible refine ag (by first | omega | grind [bO]) ?_ | with_reducible refine aA ?_ | with_reducible refine cO ?_ | with_reducible refine dB ?_ | with_reducible refine dC ?_ | with_reducible refine dD ?_ | with_reducible refine af ?_ | refine bF hp' ?_)
   ·exact absurd (hco hok.2.2) (by omega)
   ·refine FI a0 (a1 k a0) (hco hok.2.2) (fun hn=>absurd ⟨hok.2.1,hok.2.2⟩ hn) (fun _ _=>⟨y,hy,?_⟩);rcases x with s | a | a <;> rcases y with t | t | t
    ·exact hxy.elim
    ·obtain ⟨g',b',rfl,rfl,hS'⟩:=hxy;refine ⟨by omega,g',b',rfl,rfl,(show k * 16 + 16=(k + 1) * 16 by omega) ▸ hS',fun j hj => ?_⟩
     rcases Nat.lt_or_ge j k with h1 | h1
     ·exact hJ j h1
     ·rw [show j=k by omega]; exact hok
    ·exact hxy.elim
    ·exact hxy.elim
    ·exact hxy.elim
    ·exact hxy.elim
    ·exact hxy.elim
    ·exact hxy.elim
    ·obtain ⟨rfl,rfl⟩:=hxy;exact ⟨⟨1,rfl,rfl⟩,.inr rfl⟩
  ·have h1:Tri (iter (gK h b.keys b.types b.wrote b.incs b.last_ (k:Int)) ([],0)) (fun y=>p'=true→(idx h.Txns (k:Int)).Ops.length≤16→y = .inr 1) ∨ ¬ ((idx h.Txns (k:Int)).Ops.length≤16) ∨ ¬ p'=true:=by
    by_cases a3:(idx h.Txns (k:Int)).Ops.length≤16
    ·by_cases h3:p'=true
     ·refine .inl (FI a0 (a1 k a0) a3 (fun _ _ _=>rfl) (fun q1 q2=>absurd ⟨hp1'.1 h3,q1,q2⟩ hok))
     ·exact .inr (.inr h3)
    ·exact .inr (.inl a3)
   have hend:Tri (aS h.Txns (k:Int)) (fun y=>Tri (bif !y then (out (some 1):Option (BS ⊕ Int)) else bif decide ((((idx h.Txns (k:Int)).Ops).length:Int) > 16) then out (some 1) else iter (gK h b.keys b.types b.wrote b.incs b.last_ (k:Int)) ([],0)) (fun y=>y = .inr 1)):=by
    refine ⟨p',hp',?_⟩
    repeat' (first | contradiction | with_reducible refine au (fun hq => ?_) (fun hq => ?_) | with_reducible refine ag (by first | omega | grind [bO]) ?_ | with_reducible refine aA ?_ | with_reducible refine cO ?_ | with_reducible refine dB ?_ | with_reducible refine dC ?_ | with_reducible refine dD ?_ | with_reducible refine af ?_)
    ·rfl
    ·rfl
    ·rcases h1 with h1 | h1 | h1
     ·exact fE h1 (fun y hy=>hy (Decidable.of_not_not ‹¬¬p'=true›) (by omega))
     ·omega
     ·contradiction
   have hend2:∀ {Q:BS ⊕ Int→Prop},Q (.inr 1)→Tri ((aS h.Txns (k:Int)).bind fun y=>bif !y then (out (some 1):Option (BS ⊕ Int)) else bif decide ((((idx h.Txns (k:Int)).Ops).length:Int) > 16) then out (some 1) else iter (gK h b.keys b.types b.wrote b.incs b.last_ (k:Int)) ([],0)) Q:=by
    intro Q hQ;refine eF hend (fun y hy=>fE hy ?_);rintro _ rfl;exact hQ
   repeat' (first | contradiction | with_reducible refine au (fun hq => ?_) (fun hq => ?_) | with_reducible refine ag (by first | omega | grind [bO]) ?_ | with_reducible refine aA ?_ | with_reducible refine cO ?_ | with_reducible refine dB ?_ | with_reducible refine dC ?_ | with_reducible refine dD ?_ | with_reducible refine af ?_ | refine bF hp ?_)
   ·refine hend2 ?_;exact ⟨⟨1,rfl,rfl⟩,.inr rfl⟩
   ·refine hend2 ?_;exact ⟨⟨1,rfl,rfl⟩,.inr rfl⟩
   ·exact absurd ⟨a2.1 (by grind),a4.1 (by grind)⟩ hok
 ·repeat' (first | contradiction | with_reducible refine au (fun hq => ?_) (fun hq => ?_) | with_reducible refine ag (by first | omega | grind [bO]) ?_ | with_reducible refine aA ?_ | with_reducible refine cO ?_ | with_reducible refine dB ?_ | with_reducible refine dC ?_ | with_reducible refine dD ?_ | with_reducible refine af ?_)
  exact ⟨⟨0,rfl,rfl⟩,.inl rfl⟩
theorem Ca {h:History} (hs:vW h):Tri (aC h) (fun v=>Tri (ax h) (fun v'=>v=v'∧(v=0∨v=1))):=by
 obtain ⟨a4,a3,a2⟩:=hs;obtain ⟨y,hy,hn⟩:=DK (l:=h.Keys) (by omega);have hT:=fun hN a0=>Kj (h:=h) ⟨a4,a3,a2⟩ hN a0;have hfail:¬ (qw h.Keys∧h.Txns.length≤32)→ax h=some 1:=by
  intro hno;refine fA.1 ?_;unfold ax iI
  simp only [cond_true,cond_false]
  repeat' (first | contradiction | with_reducible refine au (fun hq => ?_) (fun hq => ?_) | with_reducible refine ag (by first | omega | grind [bO]) ?_ | with_reducible refine aA ?_ | with_reducible refine cO ?_ | with_reducible refine dB ?_ | with_reducible refine dC ?_ | with_reducible refine dD ?_ | with_reducible refine af ?_ | refine bF hy ?_)
  ·rfl
  ·rfl
  ·exact absurd ⟨hn.1 (Decidable.of_not_not ‹¬¬y=true›),by omega⟩ hno
 have hgood:qw h.Keys→h.Txns.length≤32→Tri (iter (nD h) (Gz ⟨[],[],[],[],[]⟩ 0)) (fun x=>Tri (ax h) (fun v'=>x = .inr v'∧(v'=0∨v'=1))):=by
  intro hN a0;refine fE (hT hN a0) (fun x hx => ?_);unfold ax iI
  simp only [cond_true,cond_false]
  have:=hn.2 hN
  repeat' (first | contradiction | with_reducible refine au (fun hq => ?_) (fun hq => ?_) | with_reducible refine ag (by first | omega | grind [bO]) ?_ | with_reducible refine aA ?_ | with_reducible refine cO ?_ | with_reducible refine dB ?_ | with_reducible refine dC ?_ | with_reducible refine dD ?_ | with_reducible refine af ?_ | refine bF hy ?_)
  ·omega
  ·refine fE hx (fun v hv => ?_);obtain ⟨⟨v2,rfl,rfl⟩,h2⟩:=hv;exact ⟨rfl,h2⟩
 have hbad:¬ (qw h.Keys∧h.Txns.length≤32)→Tri (ax h) (fun v'=>(1:Int)=v'∧((1:Int)=0∨(1:Int)=1)):=fun hno=>⟨1,hfail hno,rfl,.inr rfl⟩;unfold aC pY
 simp only [cond_true,cond_false]
 repeat' (first | contradiction | with_reducible refine au (fun hq => ?_) (fun hq => ?_) | with_reducible refine ag (by first | omega | grind [bO]) ?_ | with_reducible refine aA ?_ | with_reducible refine cO ?_ | with_reducible refine dB ?_ | with_reducible refine dC ?_ | with_reducible refine dD ?_ | with_reducible refine af ?_)
 ·exact hbad (fun hh=>by have:=hh.1.1; omega)
 ·exact hbad (fun hh=>by have:=hh.2; omega)
 ·refine ou h.Keys.length (Af h.Keys) ?_;intro k hk hJ;unfold uo nC
  simp only [cond_true,cond_false]
  have hf:k < h.Keys.length→Tri (slices_Contains_string (eT h.Keys 0 (k:Int)) (idx h.Keys (k:Int))) (fun r=>r=true↔∃ j:Nat,j < k∧idx h.Keys (j:Int)=idx h.Keys (k:Int)):=by
   intro hk'
   rw [nQ (by omega)]
   refine fE (EE (by simp; omega)) (fun r hr => ?_);have ht:(h.Keys.take k).length=k:=by simp; omega
   have hx:∀ j:Nat,j < k→idx (h.Keys.take k) (j:Int)=idx h.Keys (j:Int):=fun j h=>yP h
   rw [ht] at hr
   grind
  have he:=ES (k:=idx h.Keys (k:Int));have hw:w64 ((k:Int) + 1)=((k + 1:Nat):Int):=bf (by omega)
  rw [hw]
  have hNk:Af h.Keys k↔(1≤(idx h.Keys (k:Int)).size∧(idx h.Keys (k:Int)).size≤32∧∀ j:Nat,j < k→idx h.Keys (j:Int)≠idx h.Keys (k:Int)):=Iff.rfl;have hno:k < h.Keys.length → ¬ Af h.Keys k → ¬ (qw h.Keys∧h.Txns.length≤32):=fun h1 h2 h3=>h2 (h3.1.2 k h1);refine au (fun a1 => ?_) (fun a1 => ?_)
  ·refine ag (by omega) ?_
   repeat' (first | contradiction | with_reducible refine au (fun hq => ?_) (fun hq => ?_) | with_reducible refine ag (by first | omega | grind [bO]) ?_ | with_reducible refine aA ?_ | with_reducible refine cO ?_ | with_reducible refine dB ?_ | with_reducible refine dC ?_ | with_reducible refine dD ?_ | with_reducible refine af ?_ | refine eF (hf (by omega)) (fun r hr => ?_))
   ·exact hbad (hno (by omega) (by grind))
   ·exact hbad (hno (by omega) (by grind))
   ·exact hbad (hno (by omega) (by grind))
   ·exact ⟨rfl,by omega,by grind⟩
  ·have hN:qw h.Keys:=⟨by omega,fun i hi=>hJ i (by omega)⟩
   unfold oP;refine cO ?_;obtain ⟨x,hx,v,hv,hq⟩:=hgood hN (by omega);obtain ⟨rfl,h2⟩:=hq;exact ⟨_,hx,v,hv,rfl,h2⟩
end Go.Proofs.YtfpeabnehpclnaaGreatT
namespace Go.Proofs.YtfpeabnehpclnaaGreatT
open Go Go.Proofs Go.Proofs.YtfpeabnehpclnaaGreatE
set_option linter.unusedVariables false
set_option linter.unusedSimpArgs false
def qx (l:List Int) (c:Call) (w:Int) (s:ByteArray):List Int:=if c.Kind=4∧c.Key=s∧(l.length=0∨idx l ((l.length - 1:Nat):Int)≠w) then l++[w] else l
def lT (E:List (Call×Int)) (s:ByteArray):List Int:=E.foldl (fun l e=>qx l e.1 e.2 s) []
theorem Cb {E:List (Call×Int)} {c:Call} {w:Int} {s:ByteArray}:lT (E++[(c,w)]) s=qx (lT E s) c w s:=by
 unfold lT; rw [List.foldl_append]; rfl
theorem uG {l:List Int} {c:Call} {w:Int} {s:ByteArray} (h:¬ (c.Kind=4∧c.Key=s)):qx l c w s=l:=by
 unfold qx; rw [if_neg (fun hh=>h ⟨hh.1,hh.2.1⟩)]
def LY (E:List (Call×Int)) (c:Call) (w:Int):Prop :=
 ((c.Kind=2∨c.Kind=3)→∀ e ∈ E,e.1.Key=c.Key→(e.1.Kind=2∨e.1.Kind=3)→e.1.Arg≠c.Arg)∧(c.Kind=4→(qx (lT E c.Key) c w c.Key).length≤8)
def Jt (E:List (Call×Int)) (c:Call) (w:Int):Prop:=(∀ e ∈ E,e.1.Key=c.Key→typ e.1.Kind=typ c.Kind)∧LY E c w
structure BookInv0 (E:List (Call×Int)) (b:aK):Prop where
 tl:b.types.length=b.keys.length
 wl:b.wrote.length=b.keys.length
 il:b.incs.length=b.keys.length
 ll:b.last_.length=b.keys.length
 nd:∀ i j:Nat,i < b.keys.length→j < b.keys.length→idx b.keys (i:Int)=idx b.keys (j:Int)→i=j
 ks:∀ e ∈ E,∃ j:Nat,j < b.keys.length∧idx b.keys (j:Int)=e.1.Key
 ty:∀ e ∈ E,∀ j:Nat,j < b.keys.length→idx b.keys (j:Int)=e.1.Key→idx b.types (j:Int)=typ e.1.Kind
 wr:∀ j:Nat,j < b.keys.length→∀ a,(∃ m:Nat,m < (idx b.wrote (j:Int)).length∧idx (idx b.wrote (j:Int)) (m:Int)=a)↔∃ e ∈ E,e.1.Key=idx b.keys (j:Int)∧(e.1.Kind=2∨e.1.Kind=3)∧e.1.Arg=a
 wn:∀ j:Nat,j < b.keys.length→(idx b.wrote (j:Int)).length≤E.length
 ic:∀ j:Nat,j < b.keys.length→idx b.incs (j:Int)=((lT E (idx b.keys (j:Int))).length:Int)
 i8:∀ j:Nat,j < b.keys.length→(lT E (idx b.keys (j:Int))).length≤8
 io:∀ s,(∀ j:Nat,j < b.keys.length→idx b.keys (j:Int)≠s)→lT E s=[]
 la:∀ j:Nat,j < b.keys.length→((lT E (idx b.keys (j:Int))).length=0→idx b.last_ (j:Int) = -1) ∧
  (0 < (lT E (idx b.keys (j:Int))).length→idx b.last_ (j:Int)=idx (lT E (idx b.keys (j:Int))) (((lT E (idx b.keys (j:Int))).length - 1:Nat):Int))
theorem BookInv0.start:BookInv0 [] ⟨[],[],[],[],[]⟩:=by
 refine ⟨rfl,rfl,rfl,rfl,?_,?_,?_,?_,?_,?_,?_,?_,?_⟩
 all_goals simp [lT]
theorem BookInv0.new {E:List (Call×Int)} {b:aK} (h:BookInv0 E b) {s:ByteArray} {t:Int} (hn:∀ j:Nat,j < b.keys.length→idx b.keys (j:Int)≠s) :
  BookInv0 E ⟨b.keys++[s],b.types++[t],b.wrote++[[]],b.incs++[0],b.last_++[-1]⟩:=by
 have hl:(b.keys++[s]).length=b.keys.length + 1:=by simp
 have k1:∀ j:Nat,j < b.keys.length→idx (b.keys++[s]) (j:Int)=idx b.keys (j:Int):=fun j hj=>kD hj;have k2:idx (b.keys++[s]) ((b.keys.length:Nat):Int)=s:=jH rfl;have t1:∀ j:Nat,j < b.keys.length→idx (b.types++[t]) (j:Int)=idx b.types (j:Int):=fun j hj=>kD (by rw [h.tl]; exact hj);have w1:∀ j:Nat,j < b.keys.length→idx (b.wrote++[[]]) (j:Int)=idx b.wrote (j:Int):=fun j hj=>kD (by rw [h.wl]; exact hj);have w2:idx (b.wrote++[[]]) ((b.keys.length:Nat):Int)=[]:=jH h.wl.symm;have i1:∀ j:Nat,j < b.keys.length→idx (b.incs++[0]) (j:Int)=idx b.incs (j:Int):=fun j hj=>kD (by rw [h.il]; exact hj);have i2:idx (b.incs++[0]) ((b.keys.length:Nat):Int)=0:=jH h.il.symm;have l1:∀ j:Nat,j < b.keys.length→idx (b.last_++[-1]) (j:Int)=idx b.last_ (j:Int):=fun j hj=>kD (by rw [h.ll]; exact hj);have l2:idx (b.last_++[-1]) ((b.keys.length:Nat):Int) = -1:=jH h.ll.symm;have ho:=h.io s hn;have hne:∀ e ∈ E,e.1.Key≠s:=fun e he hs=>by
  obtain ⟨j,hj,hk⟩:=h.ks e he;exact hn j hj (hk.trans hs)
 have cut:∀ j:Nat,j < b.keys.length + 1→j < b.keys.length∨j=b.keys.length:=by omega
 refine ⟨by simp [h.tl],by simp [h.wl],by simp [h.il],by simp [h.ll],?_,?_,?_,?_,?_,?_,?_,?_,?_⟩
 ·intro i j hi hj he
  dsimp only at hi hj he
  rw [hl] at hi hj
  have:=h.nd i j;rcases cut i hi with hi' | hi' <;> rcases cut j hj with hj' | hj' <;> grind
 ·intro e he;obtain ⟨j,hj,hk⟩:=h.ks e he;exact ⟨j,by simp; omega,(k1 j hj).trans hk⟩
 ·intro e he j hj hk
  dsimp only at hj hk ⊢
  rw [hl] at hj
  rcases cut j hj with hj' | hj'
  ·rw [k1 j hj'] at hk; rw [t1 j hj']; exact h.ty e he j hj' hk
  ·subst hj'; rw [k2] at hk; exact absurd hk.symm (hne e he)
 ·intro j hj a
  dsimp only at hj ⊢
  rw [hl] at hj
  rcases cut j hj with hj' | hj'
  ·rw [k1 j hj',w1 j hj']; exact h.wr j hj' a
  ·subst hj'
   rw [k2,w2]
   constructor
   ·rintro ⟨m,hm,_⟩; simp at hm
   ·rintro ⟨e,he,hk,_⟩; exact absurd hk (hne e he)
 ·intro j hj
  dsimp only at hj ⊢
  rw [hl] at hj
  rcases cut j hj with hj' | hj'
  ·rw [w1 j hj']; exact h.wn j hj'
  ·subst hj'; rw [w2]; simp
 ·intro j hj
  dsimp only at hj ⊢
  rw [hl] at hj
  rcases cut j hj with hj' | hj'
  ·rw [k1 j hj',i1 j hj']; exact h.ic j hj'
  ·subst hj'; rw [k2,i2,ho]; rfl
 ·intro j hj
  dsimp only at hj ⊢
  rw [hl] at hj
  rcases cut j hj with hj' | hj'
  ·rw [k1 j hj']; exact h.i8 j hj'
  ·subst hj'; rw [k2,ho]; simp
 ·intro x hx
  dsimp only at hx ⊢
  rw [hl] at hx
  exact h.io x (fun j hj=>by rw [← k1 j hj]; exact hx j (by omega))
 ·intro j hj
  dsimp only at hj ⊢
  rw [hl] at hj
  rcases cut j hj with hj' | hj'
  ·rw [k1 j hj',l1 j hj']; exact h.la j hj'
  ·subst hj'; rw [k2,l2,ho]; simp
theorem iA {E:List (Call×Int)} {c:Call} {w:Int} {e:Call×Int}:e ∈ E++[(c,w)]↔e ∈ E∨e=(c,w):=by simp
theorem BookInv0.same {E:List (Call×Int)} {b:aK} {c:Call} {w:Int} {k:Nat} (h:BookInv0 E b) (hk:k < b.keys.length) (hs:idx b.keys (k:Int)=c.Key) (ht:idx b.types (k:Int)=typ c.Kind)
  (h2:c.Kind≠2) (h3:c.Kind≠3) (hw:qx (lT E c.Key) c w c.Key=lT E c.Key):BookInv0 (E++[(c,w)]) b:=by
 have hws:∀ s,lT (E++[(c,w)]) s=lT E s:=fun s=>by
  rw [Cb]
  by_cases e:c.Kind=4∧c.Key=s
  ·rw [← e.2]; exact hw
  ·exact uG e
 refine ⟨h.tl,h.wl,h.il,h.ll,h.nd,?_,?_,?_,?_,?_,?_,?_,?_⟩
 ·intro e he;rcases iA.1 he with he | rfl
  ·exact h.ks e he
  ·exact ⟨k,hk,hs⟩
 ·intro e he j hj hkj;rcases iA.1 he with he | rfl
  ·exact h.ty e he j hj hkj
  ·have:=h.nd j k hj hk (hkj.trans hs.symm);subst this;exact ht
 ·intro j hj a
  rw [h.wr j hj a]
  constructor
  ·rintro ⟨e,he,r⟩; exact ⟨e,iA.2 (.inl he),r⟩
  ·rintro ⟨e,he,r⟩;rcases iA.1 he with he | rfl
   ·exact ⟨e,he,r⟩
   ·rcases r.2.1 with r | r <;> contradiction
 ·intro j hj;have:=h.wn j hj
  simp; omega
 ·intro j hj; rw [hws]; exact h.ic j hj
 ·intro j hj; rw [hws]; exact h.i8 j hj
 ·intro s hs'; rw [hws]; exact h.io s hs'
 ·intro j hj; rw [hws]; exact h.la j hj
theorem BookInv0.write {E:List (Call×Int)} {b:aK} {c:Call} {w:Int} {k:Nat} (h:BookInv0 E b) (hk:k < b.keys.length) (hs:idx b.keys (k:Int)=c.Key) (ht:idx b.types (k:Int)=typ c.Kind)
  (a0:c.Kind=2∨c.Kind=3):BookInv0 (E++[(c,w)]) ⟨b.keys,b.types,b.wrote.set k (idx b.wrote (k:Int)++[c.Arg]),b.incs,b.last_⟩:=by
 have hws:∀ s,lT (E++[(c,w)]) s=lT E s:=fun s=>by
  rw [Cb]
  exact uG (fun e=>by omega)
 have w1:∀ j:Nat,idx (b.wrote.set k (idx b.wrote (k:Int)++[c.Arg])) (j:Int)=if j=k then idx b.wrote (k:Int)++[c.Arg] else idx b.wrote (j:Int):=fun j=>sI (by rw [h.wl]; exact hk);refine ⟨h.tl,by simp [h.wl],h.il,h.ll,h.nd,?_,?_,?_,?_,?_,?_,?_,?_⟩
 ·intro e he;rcases iA.1 he with he | rfl
  ·exact h.ks e he
  ·exact ⟨k,hk,hs⟩
 ·intro e he j hj hkj;rcases iA.1 he with he | rfl
  ·exact h.ty e he j hj hkj
  ·have:=h.nd j k hj hk (hkj.trans hs.symm);subst this;exact ht
 ·intro j hj a
  dsimp only at hj ⊢
  rw [w1 j]
  have hold:=h.wr j hj a
  by_cases e:j=k
  ·subst e
   rw [if_pos rfl]
   constructor
   ·rintro ⟨m,hm,he⟩;rcases Nat.lt_or_ge m (idx b.wrote (j:Int)).length with h1 | h1
    ·rw [kD h1] at he
     obtain ⟨e,he',r⟩:=hold.1 ⟨m,h1,he⟩;exact ⟨e,iA.2 (.inl he'),r⟩
    ·simp at hm
     rw [jH (by omega)] at he
     exact ⟨(c,w),iA.2 (.inr rfl),hs.symm,a0,he⟩
   ·rintro ⟨e,he,r⟩;rcases iA.1 he with he | rfl
    ·obtain ⟨m,hm,hh⟩:=hold.2 ⟨e,he,r⟩;exact ⟨m,by simp; omega,(kD hm).trans hh⟩
    ·exact ⟨_,by simp,(jH rfl).trans r.2.2⟩
  ·rw [if_neg e,hold]
   constructor
   ·rintro ⟨e,he,r⟩; exact ⟨e,iA.2 (.inl he),r⟩
   ·rintro ⟨e',he,r⟩;rcases iA.1 he with he | rfl
    ·exact ⟨e',he,r⟩
    ·exact absurd (h.nd j k hj hk (r.1.symm.trans hs.symm)) e
 ·intro j hj
  dsimp only at hj ⊢
  rw [w1 j]
  have:=h.wn j hj
  split
  ·rename_i e; subst e; simp; omega
  ·simp; omega
 ·intro j hj; rw [hws]; exact h.ic j hj
 ·intro j hj; rw [hws]; exact h.i8 j hj
 ·intro s hs'; rw [hws]; exact h.io s hs'
 ·intro j hj; rw [hws]; exact h.la j hj
theorem BookInv0.inc {E:List (Call×Int)} {b:aK} {c:Call} {w:Int} {k:Nat} (h:BookInv0 E b) (hk:k < b.keys.length) (hs:idx b.keys (k:Int)=c.Key) (ht:idx b.types (k:Int)=typ c.Kind)
  (h4:c.Kind=4) (hw:qx (lT E c.Key) c w c.Key=lT E c.Key++[w]) (h8:(lT E c.Key).length + 1≤8) :
  BookInv0 (E++[(c,w)]) ⟨b.keys,b.types,b.wrote,b.incs.set k (idx b.incs (k:Int) + 1),b.last_.set k w⟩:=by
 have hws:∀ s,lT (E++[(c,w)]) s=if c.Key=s then lT E s++[w] else lT E s:=fun s=>by
  rw [Cb]
  by_cases e:c.Key=s
  ·rw [if_pos e,← e]; exact hw
  ·rw [if_neg e]; exact uG (fun hh=>e hh.2)
 have i1:∀ j:Nat,idx (b.incs.set k (idx b.incs (k:Int) + 1)) (j:Int)=if j=k then idx b.incs (k:Int) + 1 else idx b.incs (j:Int):=fun j=>sI (by rw [h.il]; exact hk);have l1:∀ j:Nat,idx (b.last_.set k w) (j:Int)=if j=k then w else idx b.last_ (j:Int):=fun j=>sI (by rw [h.ll]; exact hk);have hne:∀ j:Nat,j < b.keys.length→(c.Key=idx b.keys (j:Int)↔j=k):=fun j hj=>⟨fun e=>h.nd j k hj hk (e.symm.trans hs.symm),fun e=>by rw [e,hs]⟩
 refine ⟨h.tl,h.wl,by simp [h.il],by simp [h.ll],h.nd,?_,?_,?_,?_,?_,?_,?_,?_⟩
 ·intro e he;rcases iA.1 he with he | rfl
  ·exact h.ks e he
  ·exact ⟨k,hk,hs⟩
 ·intro e he j hj hkj;rcases iA.1 he with he | rfl
  ·exact h.ty e he j hj hkj
  ·have:=h.nd j k hj hk (hkj.trans hs.symm);subst this;exact ht
 ·intro j hj a
  dsimp only at hj ⊢
  rw [h.wr j hj a]
  constructor
  ·rintro ⟨e,he,r⟩; exact ⟨e,iA.2 (.inl he),r⟩
  ·rintro ⟨e,he,r⟩;rcases iA.1 he with he | rfl
   ·exact ⟨e,he,r⟩
   ·have:=r.2.1; dsimp only at this; omega
 ·intro j hj;have:=h.wn j hj
  simp; omega
 ·intro j hj
  dsimp only at hj ⊢
  have:=h.ic j hj
  rw [hws,i1 j]
  by_cases e:j=k
  ·rw [if_pos e,if_pos ((hne j hj).2 e)]; subst e; simp; omega
  ·rw [if_neg e,if_neg (fun hh=>e ((hne j hj).1 hh))]; exact this
 ·intro j hj
  dsimp only at hj ⊢
  rw [hws]
  by_cases e:j=k
  ·rw [if_pos ((hne j hj).2 e)]; subst e; rw [hs]; simp; omega
  ·rw [if_neg (fun hh=>e ((hne j hj).1 hh))]; exact h.i8 j hj
 ·intro s hs'
  dsimp only at hs'
  rw [hws,if_neg (fun e=>hs' k hk (hs.trans e))]
  exact h.io s hs'
 ·intro j hj
  dsimp only at hj ⊢
  rw [hws,l1 j]
  by_cases e:j=k
  ·rw [if_pos e,if_pos ((hne j hj).2 e)]
   refine ⟨fun h0=>by simp at h0,fun _ => ?_⟩
   rw [jH (by simp)]
  ·rw [if_neg e,if_neg (fun hh=>e ((hne j hj).1 hh))]; exact h.la j hj
theorem Ju {E:List (Call×Int)} {b:aK} {c:Call} {w:Int} {k:Nat} (h:BookInv0 E b) (hk:k < b.keys.length) (hs:idx b.keys (k:Int)=c.Key) (ht:idx b.types (k:Int)=typ c.Kind)
  (h1:1≤c.Kind) (h8:c.Kind≤8) (hw:0≤w) (hE:E.length≤4096) :
  Tri (fe c w b.keys b.types b.wrote b.incs b.last_ (k:Int)) (fun r=>(r.1=0↔LY E c w)∧(r.1=0→BookInv0 (E++[(c,w)]) r.2∧r.2.keys=b.keys∧r.2.types=b.types)):=by
 have hin:=h.ic k hk;have a0:=h.i8 k hk;have hla:=h.la k hk;have hwr:=h.wr k hk c.Arg;have hwn:=h.wn k hk
 rw [hs] at hin a0 hla hwr
 refine fE (FH (who:=w) hk h.tl h.wl h.il h.ll (by omega) (by omega) h1 h8) (fun r hr => ?_);have stay:∀ {l:List Int},qx (lT E c.Key) c w c.Key=l→l=if c.Kind=4∧((lT E c.Key).length=0∨idx (lT E c.Key) (((lT E c.Key).length - 1:Nat):Int)≠w) then lT E c.Key++[w] else lT E c.Key:=by
  rintro l rfl;unfold qx
  simp
 have st:=stay rfl;rcases hr with ⟨a,rfl⟩ | ⟨_,b1,b2,rfl⟩ | ⟨_,b1,b2,rfl⟩ | ⟨_,b1,b2,b3,b4⟩ | ⟨_,b1,b2,b3,rfl⟩ | ⟨_,b1,b2,rfl⟩ | ⟨_,b1,b2,b3,rfl⟩
 ·exact absurd ht a
 ·refine ⟨⟨fun h=>by simp at h,fun hh => ?_⟩,fun h=>by simp at h⟩
  obtain ⟨e,he,r1,r2,r3⟩:=hwr.1 b2;exact absurd r3 (hh.1 b1 e he r1 r2)
 ·refine ⟨⟨fun _=>⟨fun _ e he r1 r2 r3=>b2 (hwr.2 ⟨e,he,r1,r2,r3⟩),fun h4=>by omega⟩,fun _=>rfl⟩,fun _=>⟨h.write hk hs ht b1,rfl,rfl⟩⟩
 ·have hne:(lT E c.Key).length=0∨idx (lT E c.Key) (((lT E c.Key).length - 1:Nat):Int)≠w:=by grind
  rw [if_pos ⟨b1,hne⟩] at st
  refine ⟨⟨fun h0=>by omega,fun hh => ?_⟩,fun h0=>by omega⟩
  have:=hh.2 b1
  rw [st] at this
  simp at this
  omega
 ·have hne:(lT E c.Key).length=0∨idx (lT E c.Key) (((lT E c.Key).length - 1:Nat):Int)≠w:=by grind
  rw [if_pos ⟨b1,hne⟩] at st
  refine ⟨⟨fun _=>⟨fun h=>by omega,fun _=>by rw [st]; simp; omega⟩,fun _=>rfl⟩,fun _=>⟨h.inc hk hs ht b1 st (by omega),rfl,rfl⟩⟩
 ·have hne:¬ ((lT E c.Key).length=0∨idx (lT E c.Key) (((lT E c.Key).length - 1:Nat):Int)≠w):=by grind
  rw [if_neg (fun hh=>hne hh.2)] at st
  refine ⟨⟨fun _=>⟨fun h=>by omega,fun _=>by rw [st]; exact a0⟩,fun _=>rfl⟩,fun _=>⟨h.same hk hs ht (by omega) (by omega) st,rfl,rfl⟩⟩
 ·rw [if_neg (fun hh=>b3 hh.1)] at st
  refine ⟨⟨fun _=>⟨fun h=>by omega,fun h=>by omega⟩,fun _=>rfl⟩,fun _=>⟨h.same hk hs ht b1 b2 st,rfl,rfl⟩⟩
structure qy (E:List (Call×Int)) (b:aK):Prop extends BookInv0 E b where
 len:b.keys.length≤32
 kex:∀ j:Nat,j < b.keys.length→∃ e ∈ E,e.1.Key=idx b.keys (j:Int)
theorem qy.start:qy [] ⟨[],[],[],[],[]⟩:=⟨BookInv0.start,by simp,fun j hj=>by simp at hj⟩
theorem Kk {E:List (Call×Int)} {b:aK} {c:Call} {w:Int} (h:qy E b) (hroom:b.keys.length=32→∃ j:Nat,j < b.keys.length∧idx b.keys (j:Int)=c.Key)
  (h1:1≤c.Kind) (h8:c.Kind≤8) (hw:0≤w) (hE:E.length≤4096) :
  Tri (aj b c w) (fun r=>(r.1=0↔Jt E c w)∧(r.1=0→qy (E++[(c,w)]) r.2)):=by
 have hl:=h.len;have t1:=h.tl;have t2:=h.wl;have t3:=h.il;have t4:=h.ll;obtain ⟨r0,a5,hf⟩:=BZ (l:=b.keys) (s:=c.Key) (by omega);unfold aj
 rw [a5]
 refine cO ?_;rcases hf with ⟨rfl,hno⟩ | ⟨k,rfl,a0,a1,_⟩
 ·refine au (fun _ => ?_) (fun hh=>by omega);refine au (fun a4 => ?_) (fun a4 => ?_)
  ·obtain ⟨j,hj,he⟩:=hroom (by omega);exact absurd he (hno j hj)
  ·have hn:=h.toBookInv0.new (s:=c.Key) (t:=typ c.Kind) hno;have hat:=Ju (w:=w) hn (k:=b.keys.length) (by simp) (jH rfl) (jH t1.symm) h1 h8 hw hE;have hne:∀ e ∈ E,e.1.Key≠c.Key:=fun e he hs=>by
    obtain ⟨j,hj,hk⟩:=h.ks e he;exact hno j hj (hk.trans hs)
   unfold jN jM
   simp only [Dj h1 h8]
   refine ag (by omega) (cO (ag (by omega) (ag (by omega) (ag (by omega) (ag (by omega) ?_)))));refine fE hat (fun r hr => ?_);refine ⟨hr.1.trans ⟨fun hh=>⟨fun e he hs=>absurd hs (hne e he),hh⟩,fun hh=>hh.2⟩,fun h0 => ?_⟩;obtain ⟨q1,q2,q3⟩:=hr.2 h0;refine ⟨q1,by rw [q2]; simp; omega,fun j hj => ?_⟩
   rw [q2] at hj ⊢
   have hj:j < b.keys.length + 1:=by simpa using hj
   rcases (by omega:j < b.keys.length∨j=b.keys.length) with hj' | hj'
   ·obtain ⟨e,he,hk⟩:=h.kex j hj';exact ⟨e,iA.2 (.inl he),by rw [hk]; exact (kD hj').symm⟩
   ·subst hj';exact ⟨(c,w),iA.2 (.inr rfl),(jH rfl).symm⟩
 ·refine au (fun hh=>by omega) (fun _ => ?_);obtain ⟨e0,a3,a2⟩:=h.kex k a0;have hty:=h.ty e0 a3 k a0 a2.symm
  by_cases ht:idx b.types (k:Int)=typ c.Kind
  ·have hat:=Ju (w:=w) h.toBookInv0 a0 a1 ht h1 h8 hw hE;refine fE hat (fun r hr => ?_);refine ⟨hr.1.trans ⟨fun hh=>⟨fun e he hs => ?_,hh⟩,fun hh=>hh.2⟩,fun h0 => ?_⟩
   ·exact (h.ty e he k a0 (a1.trans hs.symm)).symm.trans ht
   ·obtain ⟨q1,q2,q3⟩:=hr.2 h0;refine ⟨q1,by rw [q2]; exact hl,fun j hj => ?_⟩
    rw [q2] at hj ⊢
    obtain ⟨e,he,hk⟩:=h.kex j hj;exact ⟨e,iA.2 (.inl he),hk⟩
  ·have hin:=h.ic k a0;have a6:=h.i8 k a0;have hwn:=h.wn k a0;refine fE (FH (who:=w) a0 t1 t2 t3 t4 (by omega) (by omega) h1 h8) (fun r hr => ?_);have hno:¬ Jt E c w:=fun hh=>ht (hty.trans (hh.1 e0 a3 (a2.trans a1)));rcases hr with ⟨a,rfl⟩ | ⟨a,_⟩ | ⟨a,_⟩ | ⟨a,_⟩ | ⟨a,_⟩ | ⟨a,_⟩ | ⟨a,_⟩
   ·exact ⟨⟨fun h=>by simp at h,fun hh=>absurd hh hno⟩,fun h=>by simp at h⟩
   all_goals exact absurd a ht
def zO (h:History) (i:Nat):List (Call×Int):=(dJ h (idx h.Txns (i:Int))).map (fun c=>(c,(i:Int)))
def tK (h:History) (k:Nat):List (Call×Int):=(List.range k).flatMap (zO h)
theorem uH {h:History} {k:Nat}:tK h (k + 1)=tK h k++zO h k:=by
 unfold tK; rw [List.range_succ,List.flatMap_append]; simp
def pJ (E L:List (Call×Int)):Prop:=∀ j:Nat,j < L.length→Jt (E++L.take j) (idx L (j:Int)).1 (idx L (j:Int)).2
theorem pJ.append {E L M:List (Call×Int)}:pJ E (L++M)↔pJ E L∧pJ (E++L) M:=by
 constructor
 ·intro h;refine ⟨fun j hj => ?_,fun j hj => ?_⟩
  ·have:=h j (by simp; omega)
   rwa [kD hj,List.take_append_of_le_length (by omega)] at this
  ·have:=h (L.length + j) (by simp; omega)
   rw [List.take_append,List.take_of_length_le (by omega),show L.length + j - L.length=j by omega,← List.append_assoc] at this
   rwa [show idx (L++M) ((L.length + j:Nat):Int)=idx M (j:Int) from by
    rw [df rfl (by simp; omega),df rfl hj,List.getElem_append_right (by omega)]; congr 1; omega] at this
 ·rintro ⟨h1,h2⟩ j hj;rcases Nat.lt_or_ge j L.length with h3 | h3
  ·rw [kD h3,List.take_append_of_le_length (by omega)]; exact h1 j h3
  ·obtain ⟨i,rfl⟩:∃ i,j=L.length + i:=⟨j - L.length,by omega⟩
   have hi:i < M.length:=by simp at hj; omega
   have:=h2 i hi
   rw [List.take_append,List.take_of_length_le (by omega),show L.length + i - L.length=i by omega,← List.append_assoc]
   rwa [show idx (L++M) ((L.length + i:Nat):Int)=idx M (i:Int) from by
    rw [df rfl (by simp; omega),df rfl hi,List.getElem_append_right (by omega)]; congr 1; omega]
theorem room {K l:List ByteArray} {s:ByteArray} (hK:K.length≤32) (hl:l.length=32) (nd:∀ i j:Nat,i < l.length→j < l.length→idx l (i:Int)=idx l (j:Int)→i=j)
  (hs:s ∈ K) (hsub:∀ x ∈ l,x ∈ K):∃ j:Nat,j < l.length∧idx l (j:Int)=s:=by
 have hnd:l.Nodup:=by
  rw [List.nodup_iff_pairwise_ne,List.pairwise_iff_getElem]
  intro i j hi hj hij he;have:=nd i j hi hj (by rw [df rfl hi,df rfl hj]; exact he)
  omega
 by_cases h:s ∈ l
 ·obtain ⟨j,hj,he⟩:=List.getElem_of_mem h;exact ⟨j,hj,(df rfl hj).trans he⟩
 ·have h1:(s::l).Nodup:=List.nodup_cons.2 ⟨h,hnd⟩;have h2:=h1.length_le_of_subset (l₂:=K) (fun x hx=>by
   rcases List.mem_cons.1 hx with rfl | hx
   ·exact hs
   ·exact hsub x hx)
  simp at h2
  omega
def InK (K:List ByteArray) (E:List (Call×Int)):Prop:=∀ e ∈ E,e.1.Key ∈ K
theorem qy.sub {K:List ByteArray} {E:List (Call×Int)} {b:aK} (h:qy E b) (hE:InK K E):∀ x ∈ b.keys,x ∈ K:=by
 intro x hx;obtain ⟨j,hj,rfl⟩:=List.getElem_of_mem hx;obtain ⟨e,he,hk⟩:=h.kex j hj;have:=hE e he
 rw [hk,df rfl hj] at this
 exact this
theorem Iy {K:List ByteArray} {E:List (Call×Int)} {b:aK} {i:Nat} {l:List Call} (h:qy E b) (hK:K.length≤32) (hEK:InK K E) (hlK:∀ c ∈ l,c.Key ∈ K) (hl:l.length≤16) (hi:i < 64) (hn:E.length≤1024)
  (hc:uW l (fun c=>1≤c.Kind∧c.Kind≤8)) :
  Tri (iter (gJ (i:Int) l) (AV b 0)) (fun x=>(pJ E (l.map (fun c=>(c,(i:Int))))→∃ b',x = .inr (.inl (AV b' ((i + 1:Nat):Int)))∧qy (E++l.map (fun c=>(c,(i:Int)))) b') ∧
   (¬ pJ E (l.map (fun c=>(c,(i:Int))))→x = .inr (.inr 1))):=by
 generalize hm:l.map (fun c=>(c,(i:Int)))=m;have hml:m.length=l.length:=by rw [← hm]; simp
 have hmi:∀ k:Nat,k < l.length→idx m (k:Int)=(idx l (k:Int),(i:Int)):=fun k hk=>by rw [← hm,xe hk]
 refine dE (k0:=0) l.length (fun k s=>∃ b',s=AV b' (k:Int)∧qy (E++m.take k) b'∧∀ j:Nat,j < k→Jt (E++m.take j) (idx m (j:Int)).1 (idx m (j:Int)).2) (Nat.zero_le _) ⟨b,rfl,by simpa using h,fun j hj=>absurd hj (Nat.not_lt_zero _)⟩ ?_
 rintro k s hk ⟨b',rfl,hb,hJ⟩;unfold gJ AV
 dsimp only
 refine au (fun a2 => ?_) (fun a2 => ?_)
 ·have a0:k < l.length:=by omega
  have hin:InK K (E++m.take k):=fun e he=>by
   rcases List.mem_append.1 he with he | he
   ·exact hEK e he
   ·have:=List.mem_of_mem_take he
    rw [← hm] at this
    obtain ⟨c,hc,rfl⟩:=List.mem_map.1 this;exact hlK c hc
  have hcK:(idx l (k:Int)).Key ∈ K:=hlK _ (by rw [df rfl a0]; exact List.getElem_mem a0);have hw:w64 ((k:Int) + 1)=((k + 1:Nat):Int):=bf (by omega);obtain ⟨r,hr,q1,q2⟩:=Kk (c:=idx l (k:Int)) (w:=(i:Int)) hb (fun a1=>room hK a1 hb.nd hcK (hb.sub hin)) (hc k a0).1 (hc k a0).2 (by omega) (by simp; omega);refine ag (by omega) (bF hr ?_);refine au (fun h0 => ?_) (fun h0 => ?_)
  ·refine aA (aA (aA (af ⟨fun hall => ?_,fun _=>rfl⟩)));have:=hall k (by omega)
   rw [hmi k a0] at this
   exact absurd (q1.2 this) h0
  ·refine af ⟨a0,r.2,?_,?_,?_⟩
   ·rw [hw]
   ·rw [lw (by omega),hmi k a0,← List.append_assoc]
    exact q2 (by omega)
   ·intro j hj;rcases Nat.lt_or_ge j k with h1 | h1
    ·exact hJ j h1
    ·rw [show j=k by omega,hmi k a0]; exact q1.1 (by omega)
 ·have hw:w64 ((i:Int) + 1)=((i + 1:Nat):Int):=bf (by omega)
  rw [hw]
  have hfull:m.take k=m:=List.take_of_length_le (by omega)
  rw [hfull] at hb
  refine aA (aA (af ⟨fun _=>⟨b',rfl,hb⟩,fun hno=>absurd (fun j hj=>hJ j (by omega)) hno⟩))
structure fw (h:History):Prop where
 names:qw h.Keys
 len:h.Txns.length≤32
 txn:∀ i:Nat,i < h.Txns.length→AX h i
 ents:pJ [] (tK h h.Txns.length)
theorem keys_in {h:History} {i:Nat} (hi:wV h (idx h.Txns (i:Int))):∀ c ∈ dJ h (idx h.Txns (i:Int)),c.Key ∈ h.Keys:=by
 intro c hc;obtain ⟨o,ho,rfl⟩:=List.mem_map.1 hc;have:=(yO.1 hi) o ho
 show idx h.Keys o.Key ∈ h.Keys
 rw [df (n:=o.Key.toNat) (by omega) (by omega)]
 exact List.getElem_mem _
theorem Kl {h:History} {i:Nat} (hi:AX h i):(zO h i).length≤16:=by
 have:=hi.2.2.2.2.1
 simpa [zO,zN,dJ] using this
theorem CZ {h:History} (hs:vW h):Tri (ax h) (fun v=>(v=0↔fw h)∧(v=0∨v=1)):=by
 obtain ⟨a5,a4,a2⟩:=hs;obtain ⟨y,hy,hn⟩:=DK (l:=h.Keys) (by omega);unfold ax iI
 simp only [cond_true,cond_false]
 repeat' (first | contradiction | with_reducible refine au (fun hq => ?_) (fun hq => ?_) | with_reducible refine ag (by first | omega | grind [bO]) ?_ | with_reducible refine aA ?_ | with_reducible refine cO ?_ | with_reducible refine dB ?_ | with_reducible refine dC ?_ | with_reducible refine dD ?_ | with_reducible refine af ?_ | refine bF hy ?_)
 ·exact ⟨⟨fun h=>absurd h (by decide),fun hS=>absurd (hn.2 hS.names) ‹¬y=true›⟩,.inr rfl⟩
 ·exact ⟨⟨fun h=>absurd h (by decide),fun hS=>absurd hS.len (by omega)⟩,.inr rfl⟩
 ·have hN:qw h.Keys:=hn.1 (Decidable.of_not_not ‹¬¬y=true›);have a3:h.Txns.length≤32:=by omega
  refine dE (k0:=0) h.Txns.length (fun k s=>∃ b,s=AV b (k:Int)∧qy (tK h k) b∧InK h.Keys (tK h k)∧(tK h k).length≤16 * k∧pJ [] (tK h k)∧∀ j:Nat,j < k→AX h j) (Nat.zero_le _)
   ⟨⟨[],[],[],[],[]⟩,rfl,qy.start,fun e he=>by simp [tK] at he,by simp [tK],fun j hj=>by simp [tK] at hj,fun j hj=>absurd hj (Nat.not_lt_zero _)⟩ ?_
  rintro k s hk ⟨b,rfl,hb,hin,hlen,hents,hJ⟩;unfold kz ky AV
  simp only [cond_true,cond_false]
  have hbad:(k < h.Txns.length → ¬ AX h k)→k < h.Txns.length → ¬ fw h:=fun h1 h2 hS=>h1 h2 (hS.txn k h2);refine au (fun a1 => ?_) (fun a1 => ?_)
  ·have a0:k < h.Txns.length:=by omega
   obtain ⟨p',hp',hp1'⟩:=xx (l:=h.Txns) a0 (by omega);have hco:Ae (zN h (idx h.Txns (k:Int)))→(idx h.Txns (k:Int)).Ops.length≤16:=fun he=>by
    have:=he.2.2.1
    simpa [zN,dJ] using this
   repeat' (first | contradiction | with_reducible refine au (fun hq => ?_) (fun hq => ?_) | with_reducible refine ag (by first | omega | grind [bO]) ?_ | with_reducible refine aA ?_ | with_reducible refine cO ?_ | with_reducible refine dB ?_ | with_reducible refine dC ?_ | with_reducible refine dD ?_ | with_reducible refine af ?_ | refine bF hp' ?_)
   ·exact ⟨⟨fun h=>absurd h (by decide),fun hS=>absurd (hp1'.2 (hS.txn k a0).1) ‹¬p'=true›⟩,.inr rfl⟩
   ·exact ⟨⟨fun h=>absurd h (by decide),fun hS=>absurd (hco (hS.txn k a0).2.2) (by omega)⟩,.inr rfl⟩
   ·refine FI (b:=b) a0 (a2 k a0) (by omega) (fun hno => ?_) (fun hKo hEv => ?_)
    ·exact ⟨⟨fun h=>absurd h (by decide),fun hS=>absurd ⟨(hS.txn k a0).2.1,(hS.txn k a0).2.2⟩ hno⟩,.inr rfl⟩
    ·have hok:AX h k:=⟨hp1'.1 (Decidable.of_not_not ‹¬¬p'=true›),hKo,hEv⟩;have hc:uW (dJ h (idx h.Txns (k:Int))) (fun c=>1≤c.Kind∧c.Kind≤8):=fun j hj=>⟨(hEv.2.2.2 j hj).1,(hEv.2.2.2 j hj).2.1⟩;refine fE (Iy (i:=k) hb hN.1 hin (keys_in hKo) hEv.2.2.1 (by omega) (by omega) hc) (fun x hx => ?_)
     by_cases hall:pJ (tK h k) (zO h k)
     ·obtain ⟨b',rfl,hb'⟩:=hx.1 hall;refine ⟨a0,b',rfl,by rw [uH]; exact hb',?_,?_,?_,?_⟩
      ·rw [uH]
       intro e he;rcases List.mem_append.1 he with he | he
       ·exact hin e he
       ·obtain ⟨c,hc,rfl⟩:=List.mem_map.1 he;exact keys_in hKo c hc
      ·have:=Kl hok
       rw [uH,List.length_append]; omega
      ·rw [uH]
       exact pJ.append.2 ⟨hents,hall⟩
      ·intro j hj;rcases Nat.lt_or_ge j k with h1 | h1
       ·exact hJ j h1
       ·rw [show j=k by omega]; exact hok
     ·rw [hx.2 hall]
      refine ⟨⟨fun h=>absurd h (by decide),fun hS=>absurd ?_ hall⟩,.inr rfl⟩;have hsp:∀ n:Nat,k + 1≤n→pJ [] (tK h n)→pJ (tK h k) (zO h k):=by
       intro n
       induction n with
       | zero=>intro h; omega
       | succ n ih =>
        intro hn hE
        rw [uH,pJ.append] at hE
        rcases Nat.lt_or_ge k n with h1 | h1
        ·exact ih (by omega) hE.1
        ·rw [show n=k by omega] at hE
         exact hE.2
      exact hsp _ a0 hS.ents
  ·have a0:k=h.Txns.length:=by omega
   repeat' (first | contradiction | with_reducible refine au (fun hq => ?_) (fun hq => ?_) | with_reducible refine ag (by first | omega | grind [bO]) ?_ | with_reducible refine aA ?_ | with_reducible refine cO ?_ | with_reducible refine dB ?_ | with_reducible refine dC ?_ | with_reducible refine dD ?_ | with_reducible refine af ?_)
   rw [a0] at hents hJ
   exact ⟨⟨fun _=>⟨hN,a3,hJ,hents⟩,fun _=>rfl⟩,.inl rfl⟩
theorem Iz {h:History} (hs:vW h):∃ v,aC h=some v∧ax h=some v∧(v=0∨v=1)∧(v=0↔fw h):=by
 obtain ⟨v,hv,v',hv',rfl,a0⟩:=Ca hs;obtain ⟨w,hw,h1,h2⟩:=CZ hs;have:v=w:=Option.some.inj (hv'.symm.trans hw);subst this;exact ⟨v,hv,hv',a0,h1⟩
end Go.Proofs.YtfpeabnehpclnaaGreatT
namespace Go.Proofs.YtfpeabnehpclnaaGreatT
open Go Go.Proofs Go.Proofs.YtfpeabnehpclnaaGreatE
set_option linter.unusedVariables false
set_option linter.unusedSimpArgs false
def vX (ops:List Op) (key:Int) (p:Nat):List Int:=((ops.take p).filter (fun o=>decide (o.Key=key∧o.Kind≤4))).map (·.Arg)
theorem Cc {ops:List Op} {key:Int} {p:Nat} (h:p < ops.length):vX ops key (p + 1)=if (idx ops (p:Int)).Key=key∧(idx ops (p:Int)).Kind≤4 then vX ops key p++[(idx ops (p:Int)).Arg] else vX ops key p:=by
 unfold vX
 rw [lw h,List.filter_append,List.map_append]
 by_cases e:(idx ops (p:Int)).Key=key∧(idx ops (p:Int)).Kind≤4
 ·simp [e]
 ·rw [if_neg e]
  simp only [List.filter_cons,List.filter_nil,decide_eq_true_eq,if_neg e]
  simp
theorem AY {ops:List Op} {key:Int} {p:Nat}:(vX ops key p).length≤ops.length:=by
 unfold vX
 rw [List.length_map]
 exact Nat.le_trans (List.length_filter_le _ _) (by simp; omega)
def CB (ops:List Op) (t:Int) (p:Nat):List Ask :=
 let o:=idx ops (p:Int)
 let mine:=vX ops o.Key p
 if o.Kind≤4 then [] else if mine=[] then [⟨t,p,o.Key,o.Vals⟩] else if (before (o.Kind - 4) o.Vals mine).2=true∧o.Kind≠5 then [⟨t,p,o.Key,(before (o.Kind - 4) o.Vals mine).1⟩] else []
def DL (ops:List Op) (t:Int) (p:Nat):List gQ :=
 let o:=idx ops (p:Int)
 let mine:=vX ops o.Key p
 if o.Kind≤4 then [] else if mine=[] then [] else if (before (o.Kind - 4) o.Vals mine).2=true then [] else [⟨t,p⟩]
def uI (ops:List Op) (t:Int) (k:Nat):List Ask:=(List.range k).flatMap (CB ops t)
def vv (ops:List Op) (t:Int) (k:Nat):List gQ:=(List.range k).flatMap (DL ops t)
theorem CE {ops:List Op} {t:Int} {k:Nat}:uI ops t (k + 1)=uI ops t k++CB ops t k:=by
 unfold uI; rw [List.range_succ,List.flatMap_append]; simp
theorem AZ {ops:List Op} {t:Int} {k:Nat}:vv ops t (k + 1)=vv ops t k++DL ops t k:=by
 unfold vv; rw [List.range_succ,List.flatMap_append]; simp
theorem DN {ops:List Op} {t:Int} {k:Nat}:(uI ops t k).length≤k:=by
 induction k with
 | zero=>simp [uI]
 | succ k ih =>
  rw [CE,List.length_append]
  have:(CB ops t k).length≤1:=by
   unfold CB
   dsimp only
   split
   ·simp
   ·split
    ·simp
    ·split <;> simp
  omega
theorem CF {ops:List Op} {t:Int} {k:Nat}:(vv ops t k).length≤k:=by
 induction k with
 | zero=>simp [vv]
 | succ k ih =>
  rw [AZ,List.length_append]
  have:(DL ops t k).length≤1:=by
   unfold DL
   dsimp only
   split
   ·simp
   ·split
    ·simp
    ·split <;> simp
  omega
def vY (h:History) (t:Int):List Ask:=if (idx h.Txns t).Status=1 then uI (idx h.Txns t).Ops t (idx h.Txns t).Ops.length else []
def zf (h:History) (t:Int):List gQ:=if (idx h.Txns t).Status=1 then vv (idx h.Txns t).Ops t (idx h.Txns t).Ops.length else []
def LZ (ops:List Op):Prop:=ops.length≤16∧uW ops (fun o=>1≤o.Kind∧o.Kind≤8∧o.Vals.length≤64)
theorem AX.ops {h:History} {i:Nat} (hi:AX h i):LZ (idx h.Txns (i:Int)).Ops:=by
 obtain ⟨_,_,_,_,h1,h2⟩:=hi;refine ⟨by simpa [zN,dJ] using h1,fun j hj => ?_⟩
 have:=h2 j (by simpa [zN,dJ] using hj)
 dsimp only [zN,dJ] at this
 rw [xe hj] at this
 unfold sN vV at this
 dsimp only at this
 grind
theorem Km {h:History} {t:Nat} {f:eO} (ht:t < h.Txns.length) (ho:LZ (idx h.Txns (t:Int)).Ops) (ha:f.asks.length≤1000000) (hb:f.bad.length≤1000000) :
  Tri (aY f h (t:Int)) (fun r=>r=⟨f.asks++vY h (t:Int),f.bad++zf h (t:Int)⟩):=by
 unfold aY vY zf;refine ag (by omega) ?_;refine au (fun h1 => ?_) (fun h1 => ?_)
 ·rw [if_neg h1,if_neg h1]
  exact af (by simp)
 ·have h1:(idx h.Txns (t:Int)).Status=1:=Decidable.of_not_not h1
  rw [if_pos h1,if_pos h1]
  generalize hx:(idx h.Txns (t:Int)).Ops=ops at ho ⊢;obtain ⟨a3,hall⟩:=ho;refine dE (k0:=0) ops.length (fun k s=>s.1=f.asks++uI ops (t:Int) k∧s.2.1=f.bad++vv ops (t:Int) k∧(∀ key,mat s.2.2.1 key=vX ops key k)∧s.2.2.2=(k:Int)) (Nat.zero_le _)
   ⟨by simp [uI],by simp [vv],fun key=>rfl,rfl⟩ ?_
  rintro k ⟨l1,l2,m,x⟩ hk ⟨e1,e2,hm,e4⟩
  dsimp only at e1 e2 hm e4
  subst e1 e2 e4;unfold oz kQ kP gV
  simp only [cond_true,cond_false,hx,hm]
  have hw:w64 ((k:Int) + 1)=((k + 1:Nat):Int):=bf (by omega);have l1:=DN (ops:=ops) (t:=(t:Int)) (k:=k);have l2:=CF (ops:=ops) (t:=(t:Int)) (k:=k);have l3:=AY (ops:=ops) (key:=(idx ops (k:Int)).Key) (p:=k);have hn:∀ key,k < ops.length→vX ops key (k + 1)=_:=fun key hk=>Cc hk
  rw [hw]
  refine au (fun a2 => ?_) (fun a2 => ?_)
  ·have a0:k < ops.length:=by omega
   obtain ⟨o1,o2,o3⟩:=hall k a0;have a1:w64 ((idx ops (k:Int)).Kind - 4)=(idx ops (k:Int)).Kind - 4:=bO (by omega) (by omega);have hbf:=AR ((idx ops (k:Int)).Kind - 4) (s:=(idx ops (k:Int)).Vals) (args:=vX ops (idx ops (k:Int)).Key k) (by omega) (by omega);have hcl:fJ (idx ops (k:Int)).Vals=some (idx ops (k:Int)).Vals:=jv _ (by omega)
   rw [a1,hbf,hcl]
   simp only [List.length_append]
   have hA:=CE (ops:=ops) (t:=(t:Int)) (k:=k);have hB:=AZ (ops:=ops) (t:=(t:Int)) (k:=k);have hnil:∀ l:List Int,l=[]↔l.length=0:=fun l=>List.length_eq_zero_iff.symm;unfold CB at hA;unfold DL at hB
   dsimp only at hA hB
   repeat' (first | contradiction | with_reducible refine au (fun hq => ?_) (fun hq => ?_) | with_reducible refine ag (by first | omega | grind [bO]) ?_ | with_reducible refine aA ?_ | with_reducible refine cO ?_ | with_reducible refine dB ?_ | with_reducible refine dC ?_ | with_reducible refine dD ?_ | with_reducible refine af ?_)
   all_goals (refine ⟨a0,?_,?_,fun key => ?_,rfl⟩ <;> dsimp only)
   all_goals grind [uh]
  ·have:k=ops.length:=by omega
   subst this
   repeat' (first | contradiction | with_reducible refine au (fun hq => ?_) (fun hq => ?_) | with_reducible refine ag (by first | omega | grind [bO]) ?_ | with_reducible refine aA ?_ | with_reducible refine cO ?_ | with_reducible refine dB ?_ | with_reducible refine dC ?_ | with_reducible refine dD ?_ | with_reducible refine af ?_)
   rfl
end Go.Proofs.YtfpeabnehpclnaaGreatT
namespace Go.Proofs.YtfpeabnehpclnaaGreatT
open Go Go.Proofs Go.Proofs.YtfpeabnehpclnaaGreatE
set_option linter.unusedVariables false
set_option linter.unusedSimpArgs false
theorem EF {a b:List Int} (ha:a.length < 2 ^ 62):dF a b=some (decide (a=b)):=by
 refine zl.1 ?_;unfold dF;refine au (fun h => ?_) (fun h => ?_)
 ·refine af ?_;have:a≠b:=by rintro rfl; exact h rfl
  simp [this]
 ·have hl:a.length=b.length:=by grind
  refine ou a.length (fun j=>idx a (j:Int)=idx b (j:Int)) ?_;intro k hk hJ;have hw:w64 ((k:Int) + 1)=((k + 1:Nat):Int):=bf (by omega);have hx:(∀ j:Nat,j < a.length→idx a (j:Int)=idx b (j:Int))→a=b:=fun h=>GV hl h;unfold kY
  dsimp only
  rw [hw]
  repeat' (first | contradiction | with_reducible refine au (fun hq => ?_) (fun hq => ?_) | with_reducible refine ag (by first | omega | grind [bO]) ?_ | with_reducible refine aA ?_ | with_reducible refine cO ?_ | with_reducible refine dB ?_ | with_reducible refine dC ?_ | with_reducible refine dD ?_ | with_reducible refine af ?_)
  ·show false=true↔a=b
   grind
  ·exact ⟨rfl,by omega,by grind⟩
  ·show true=true↔a=b
   grind
end Go.Proofs.YtfpeabnehpclnaaGreatT
namespace Go.Proofs.YtfpeabnehpclnaaGreatT
open Go Go.Proofs Go.Proofs.YtfpeabnehpclnaaGreatE
set_option linter.unusedVariables false
set_option linter.unusedSimpArgs false
abbrev OG (y:Op):Prop:=((Lit.int .i64 (y).Kind).wf=true)∧((Lit.int .i64 (y).Key).wf=true)∧((Lit.int .i64 (y).Arg).wf=true)∧(True)∧((∀ z ∈ (y).Vals,(Lit.int .i64 z).wf=true)∧((y).Vals).length * 8≤140737488351232)
abbrev TG (y:Txn):Prop:=((Lit.int .i64 (y).Proc).wf=true)∧((Lit.int .i64 (y).Status).wf=true)∧((Lit.int .i64 (y).From).wf=true)∧((Lit.int .i64 (y).To).wf=true)∧((∀ z ∈ (y).Ops,OG z)∧((y).Ops).length * 56≤140737488351232)
abbrev HG (K:ByteArray→Prop) (x:History):Prop:=((∀ y ∈ (x).Keys,K y)∧((x).Keys).length * 16≤140737488351232)∧((∀ y ∈ (x).Txns,TG y)∧((x).Txns).length * 56≤140737488351232)
theorem HG.small {K:ByteArray→Prop} {h:History} (g:HG K h):vW h :=
 ⟨g.1.2,g.2.2,yO.2 fun t ht=>⟨(g.2.1 t ht).2.2.2.2.2,yO.2 fun o ho=>((g.2.1 t ht).2.2.2.2.1 o ho).2.2.2.2.2⟩⟩
theorem FJ {h:History} {t:Nat} (ho:LZ (idx h.Txns (t:Int)).Ops):(vY h (t:Int)).length≤16∧(zf h (t:Int)).length≤16∧uW (vY h (t:Int)) (fun x=>x.Base.length < 2 ^ 62):=by
 have h1:=DN (ops:=(idx h.Txns (t:Int)).Ops) (t:=(t:Int)) (k:=(idx h.Txns (t:Int)).Ops.length);have h2:=CF (ops:=(idx h.Txns (t:Int)).Ops) (t:=(t:Int)) (k:=(idx h.Txns (t:Int)).Ops.length);have h3:=ho.1;refine ⟨?_,?_,?_⟩
 ·unfold vY; split
  ·omega
  ·simp
 ·unfold zf; split
  ·omega
  ·simp
 ·rw [yO]
  intro x hx;unfold vY at hx
  split at hx
  ·unfold uI at hx
   rw [List.mem_flatMap] at hx
   obtain ⟨p,hp,hx⟩:=hx;have hp:p < _:=List.mem_range.1 hp;have hv:=(ho.2 p hp).2.2;have hb:=FE ((idx (idx h.Txns (t:Int)).Ops (p:Int)).Kind - 4) (idx (idx h.Txns (t:Int)).Ops (p:Int)).Vals (vX (idx h.Txns (t:Int)).Ops (idx (idx h.Txns (t:Int)).Ops (p:Int)).Key p);unfold CB at hx
   dsimp only at hx
   split at hx
   ·simp at hx
   ·split at hx
    ·simp at hx; subst hx; dsimp only; omega
    ·split at hx
     ·simp at hx; subst hx; dsimp only; omega
     ·simp at hx
  ·simp at hx
end Go.Proofs.YtfpeabnehpclnaaGreatT
namespace Go.Proofs.YtfpeabnehpclnaaGreatT
open Go Go.Proofs Go.Proofs.YtfpeabnehpclnaaGreatE
set_option linter.unusedVariables false
set_option linter.unusedSimpArgs false
def aZ (h:History) (k:Nat):List Ask:=(List.range k).flatMap (fun t=>vY h ((t:Nat):Int))
def mg (h:History) (k:Nat):List gQ:=(List.range k).flatMap (fun t=>zf h ((t:Nat):Int))
theorem Ba {h:History} {k:Nat}:aZ h (k + 1)=aZ h k++vY h (k:Int):=by
 unfold aZ; rw [List.range_succ,List.flatMap_append]; simp
theorem zP {h:History} {k:Nat}:mg h (k + 1)=mg h k++zf h (k:Int):=by
 unfold mg; rw [List.range_succ,List.flatMap_append]; simp
theorem wC {h:History} (hS:fw h):∀ k:Nat,k≤h.Txns.length→(aZ h k).length≤16 * k∧(mg h k).length≤16 * k∧uW (aZ h k) (fun x=>x.Base.length < 2 ^ 62):=by
 intro k
 induction k with
 | zero=>intro _; simp [aZ,mg,uW]
 | succ k ih =>
  intro hk;obtain ⟨i1,i2,i3⟩:=ih (by omega);obtain ⟨b1,b2,b3⟩:=FJ (hS.txn k (by omega)).ops
  rw [Ba,zP,List.length_append,List.length_append]
  refine ⟨by omega,by omega,?_⟩
  rw [yO] at i3 b3 ⊢
  intro x hx;rcases List.mem_append.1 hx with hx | hx
  ·exact i3 x hx
  ·exact b3 x hx
theorem GA {h:History} (hs:vW h) (hS:fw h) (hc:aC h=some 0):kW h=some (⟨aZ h h.Txns.length,mg h h.Txns.length⟩,0):=by
 have a2:=hS.len;refine fA.1 ?_;unfold kW;refine bF hc ?_
 rw [bne_self_eq_false,cond_false]
 refine dE (k0:=0) h.Txns.length (fun k s=>s=(aZ h k,mg h k,(k:Int))) (Nat.zero_le _) rfl ?_;rintro k s hk rfl;have hw:w64 ((k:Int) + 1)=((k + 1:Nat):Int):=bf (by omega);obtain ⟨i1,i2,i3⟩:=wC hS k hk;unfold wL
 dsimp only
 refine au (fun a1 => ?_) (fun a1 => ?_)
 ·have a0:k < h.Txns.length:=by omega
  refine eF (Km a0 (hS.txn k a0).ops (by dsimp only; omega) (by dsimp only; omega)) (fun r hr => ?_);subst hr;refine af ⟨a0,?_⟩
  dsimp only
  rw [hw,Ba,zP]
 ·have:k=h.Txns.length:=by omega
  subst this;exact aA (af rfl)
end Go.Proofs.YtfpeabnehpclnaaGreatT
namespace Go.Proofs.YtfpeabnehpclnaaGreatT
open Go Go.Proofs Go.Proofs.YtfpeabnehpclnaaGreatE
set_option linter.unusedVariables false
set_option linter.unusedSimpArgs false
def fH (h:History) (t:Int) (key:Int):List Int:=vX (idx h.Txns t).Ops key (idx h.Txns t).Ops.length
theorem CG {h:History} {t key:Int}:(fH h t key).length≤(idx h.Txns t).Ops.length:=AY
theorem DR {x:Txn} {key:Int} (ho:x.Ops.length≤16):dS x key=some (vX x.Ops key x.Ops.length):=by
 refine fA.1 ?_;unfold dS;refine dE (k0:=0) x.Ops.length (fun k s=>s=(vX x.Ops key k,(k:Int))) (Nat.zero_le _) rfl ?_;rintro k s hk rfl;have hw:w64 ((k:Int) + 1)=((k + 1:Nat):Int):=bf (by omega);have l3:=AY (ops:=x.Ops) (key:=key) (p:=k);have hn:k < x.Ops.length→vX x.Ops key (k + 1)=_:=fun hk=>Cc hk;unfold uq qb qa
 dsimp only
 rw [hw]
 refine au (fun a1 => ?_) (fun a1 => ?_)
 ·have a0:k < x.Ops.length:=by omega
  replace hn:=hn a0
  repeat' (first | contradiction | with_reducible refine au (fun hq => ?_) (fun hq => ?_) | with_reducible refine ag (by first | omega | grind [bO]) ?_ | with_reducible refine aA ?_ | with_reducible refine cO ?_ | with_reducible refine dB ?_ | with_reducible refine dC ?_ | with_reducible refine dD ?_ | with_reducible refine af ?_)
  all_goals (refine ⟨a0,?_⟩; dsimp only; grind)
 ·have:k=x.Ops.length:=by omega
  subst this
  repeat' (first | contradiction | with_reducible refine au (fun hq => ?_) (fun hq => ?_) | with_reducible refine ag (by first | omega | grind [bO]) ?_ | with_reducible refine aA ?_ | with_reducible refine cO ?_ | with_reducible refine dB ?_ | with_reducible refine dC ?_ | with_reducible refine dD ?_ | with_reducible refine af ?_)
  all_goals rfl
theorem wW {h:History} {t key:Int} (ht:0≤t∧t < (h.Txns.length:Int)) (ho:(idx h.Txns t).Ops.length≤16):aP h t key=some (fH h t key):=by
 refine fA.1 ?_;unfold aP fH;generalize hx:(idx h.Txns t).Ops=ops at ho ⊢;refine dE (k0:=0) ops.length (fun k s=>s=(vX ops key k,(k:Int))) (Nat.zero_le _) rfl ?_;rintro k s hk rfl;have hw:w64 ((k:Int) + 1)=((k + 1:Nat):Int):=bf (by omega);have l3:=AY (ops:=ops) (key:=key) (p:=k);have hn:k < ops.length→vX ops key (k + 1)=_:=fun hk=>Cc hk;unfold sF nO nN lK
 simp only [hx,hw,Option.bind_some]
 refine ag ht ?_;refine au (fun a1 => ?_) (fun a1 => ?_)
 ·have a0:k < ops.length:=by omega
  replace hn:=hn a0
  repeat' (first | contradiction | with_reducible refine au (fun hq => ?_) (fun hq => ?_) | with_reducible refine ag (by first | omega | grind [bO]) ?_ | with_reducible refine aA ?_ | with_reducible refine cO ?_ | with_reducible refine dB ?_ | with_reducible refine dC ?_ | with_reducible refine dD ?_ | with_reducible refine af ?_)
  all_goals (refine ⟨a0,?_⟩; dsimp only; grind)
 ·have:k=ops.length:=by omega
  subst this
  repeat' (first | contradiction | with_reducible refine au (fun hq => ?_) (fun hq => ?_) | with_reducible refine ag (by first | omega | grind [bO]) ?_ | with_reducible refine aA ?_ | with_reducible refine cO ?_ | with_reducible refine dB ?_ | with_reducible refine dC ?_ | with_reducible refine dD ?_ | with_reducible refine af ?_)
  all_goals rfl
def GD (h:History) (key:Int) (t:Nat):Bool:=decide ((idx h.Txns (t:Int)).Status≠2∧0 < (fH h (t:Int) key).length)
def gM (h:History) (key:Int) (k:Nat):List Int:=((List.range k).filter (GD h key)).map (fun t:Nat=>(t:Int))
def jo (h:History) (a:Ask) (k:Nat):List Int:=(gM h a.Key k).filter (fun t=>decide (t≠a.Txn))
theorem yG {h:History} {key:Int} {k:Nat}:gM h key (k + 1)=if GD h key k then gM h key k++[(k:Int)] else gM h key k:=by
 unfold gM
 rw [List.range_succ,List.filter_append,List.map_append]
 by_cases hw:GD h key k=true <;> simp [hw]
theorem oN {h:History} {key:Int} {k:Nat}:(gM h key k).length≤k:=by
 unfold gM
 rw [List.length_map]
 exact Nat.le_trans (List.length_filter_le _ _) (by simp)
theorem EG {h:History} {a:Ask} {k:Nat}:jo h a (k + 1)=if GD h a.Key k∧(k:Int)≠a.Txn then jo h a k++[(k:Int)] else jo h a k:=by
 unfold jo
 rw [yG]
 by_cases hw:GD h a.Key k=true <;> by_cases hn:(k:Int)=a.Txn <;> simp [hw,hn]
theorem tV {h:History} {a:Ask} {k:Nat}:(jo h a k).length≤k:=Nat.le_trans (List.length_filter_le _ _) oN
theorem vw {h:History} {key:Int} {k:Nat} {t:Int}:t ∈ gM h key k↔0≤t∧t < (k:Int)∧(idx h.Txns t).Status≠2∧0 < (fH h t key).length:=by
 unfold gM
 simp only [List.mem_map,List.mem_filter,List.mem_range,GD,decide_eq_true_eq]
 constructor
 ·rintro ⟨n,⟨hn,h1,h2⟩,rfl⟩;exact ⟨by omega,by omega,h1,h2⟩
 ·rintro ⟨h0,h1,h2,h3⟩;refine ⟨t.toNat,⟨by omega,?_⟩,by omega⟩
  rw [show ((t.toNat:Nat):Int)=t by omega]
  exact ⟨h2,h3⟩
theorem kK {h:History} {a:Ask} {k:Nat} {t:Int}:t ∈ jo h a k↔(0≤t∧t < (k:Int)∧(idx h.Txns t).Status≠2∧0 < (fH h t a.Key).length)∧t≠a.Txn:=by
 unfold jo
 rw [List.mem_filter,vw,decide_eq_true_eq]
theorem Bb {h:History} (hS:fw h) (hc:aC h=some 0) {key:Int}:dH h key=some (gM h key h.Txns.length):=by
 have a2:=hS.len;refine fA.1 ?_;unfold dH;refine bF hc ?_
 rw [bne_self_eq_false,cond_false]
 refine dE (k0:=0) h.Txns.length (fun k s=>s=(gM h key k,(k:Int))) (Nat.zero_le _) rfl ?_;rintro k s hk rfl;have hw:w64 ((k:Int) + 1)=((k + 1:Nat):Int):=bf (by omega);have l3:=oN (h:=h) (key:=key) (k:=k);have hn:=yG (h:=h) (key:=key) (k:=k);unfold GD fH at hn;unfold ru nX nW
 dsimp only
 rw [hw]
 refine au (fun a1 => ?_) (fun a1 => ?_)
 ·have a0:k < h.Txns.length:=by omega
  have hwt:=DR (x:=idx h.Txns (k:Int)) (key:=key) (hS.txn k a0).ops.1
  simp only [hwt,Option.bind_some]
  repeat' (first | contradiction | with_reducible refine au (fun hq => ?_) (fun hq => ?_) | with_reducible refine ag (by first | omega | grind [bO]) ?_ | with_reducible refine aA ?_ | with_reducible refine cO ?_ | with_reducible refine dB ?_ | with_reducible refine dC ?_ | with_reducible refine dD ?_ | with_reducible refine af ?_)
  all_goals (refine ⟨a0,?_⟩; dsimp only; grind)
 ·have:k=h.Txns.length:=by omega
  subst this
  repeat' (first | contradiction | with_reducible refine au (fun hq => ?_) (fun hq => ?_) | with_reducible refine ag (by first | omega | grind [bO]) ?_ | with_reducible refine aA ?_ | with_reducible refine cO ?_ | with_reducible refine dB ?_ | with_reducible refine dC ?_ | with_reducible refine dD ?_ | with_reducible refine af ?_)
  all_goals rfl
theorem yH {h:History} (hS:fw h) {a:Ask}:aT h a=some (jo h a h.Txns.length):=by
 have a2:=hS.len;refine fA.1 ?_;unfold aT;refine dE (k0:=0) h.Txns.length (fun k s=>s=(jo h a k,(k:Int))) (Nat.zero_le _) rfl ?_;rintro k s hk rfl;have hw:w64 ((k:Int) + 1)=((k + 1:Nat):Int):=bf (by omega);have l3:=tV (h:=h) (a:=a) (k:=k);have hn:=EG (h:=h) (a:=a) (k:=k);unfold GD at hn;unfold qP jD mJ
 dsimp only
 rw [hw]
 refine au (fun a1 => ?_) (fun a1 => ?_)
 ·have a0:k < h.Txns.length:=by omega
  have hwt:=wW (h:=h) (t:=(k:Int)) (key:=a.Key) ⟨by omega,by omega⟩ (hS.txn k a0).ops.1
  simp only [hwt,Option.bind_some]
  repeat' (first | contradiction | with_reducible refine au (fun hq => ?_) (fun hq => ?_) | with_reducible refine ag (by first | omega | grind [bO]) ?_ | with_reducible refine aA ?_ | with_reducible refine cO ?_ | with_reducible refine dB ?_ | with_reducible refine dC ?_ | with_reducible refine dD ?_ | with_reducible refine af ?_)
  all_goals (refine ⟨a0,?_⟩; dsimp only; grind)
 ·have:k=h.Txns.length:=by omega
  subst this
  repeat' (first | contradiction | with_reducible refine au (fun hq => ?_) (fun hq => ?_) | with_reducible refine ag (by first | omega | grind [bO]) ?_ | with_reducible refine aA ?_ | with_reducible refine cO ?_ | with_reducible refine dB ?_ | with_reducible refine dC ?_ | with_reducible refine dD ?_ | with_reducible refine af ?_)
  all_goals rfl
theorem Ag {h:History} (hS:fw h) (hc:aC h=some 0) {t key:Int}:fU h t key =
  some (if 0≤t∧t < (h.Txns.length:Int) then (fH h t key,decide (0 < (fH h t key).length)) else ([],false)):=by
 refine fA.1 ?_;unfold fU nG
 simp only [hc,Option.bind_some]
 by_cases ht:0≤t∧t < (h.Txns.length:Int)
 ·have h2:t=((t.toNat:Nat):Int):=by omega
  have ho:=(hS.txn t.toNat (by omega)).ops.1
  rw [← h2] at ho
  have hwt:=DR (x:=idx h.Txns t) (key:=key) ho
  simp only [hwt,Option.bind_some]
  rw [if_pos ht]
  unfold fH
  repeat' (first | contradiction | with_reducible refine au (fun hq => ?_) (fun hq => ?_) | with_reducible refine ag (by first | omega | grind [bO]) ?_ | with_reducible refine aA ?_ | with_reducible refine cO ?_ | with_reducible refine dB ?_ | with_reducible refine dC ?_ | with_reducible refine dD ?_ | with_reducible refine af ?_)
  all_goals (first | omega | simp)
 ·rw [if_neg ht]
  repeat' (first | contradiction | with_reducible refine au (fun hq => ?_) (fun hq => ?_) | with_reducible refine ag (by first | omega | grind [bO]) ?_ | with_reducible refine aA ?_ | with_reducible refine cO ?_ | with_reducible refine dB ?_ | with_reducible refine dC ?_ | with_reducible refine dD ?_ | with_reducible refine af ?_)
  all_goals (first | omega | rfl | simp)
def yI (h:History) (a:Ask) (l:List Int):List aN:=l.map (fun t=>⟨t,fH h t a.Key⟩)
theorem yJ {h:History} (hS:fw h) (hc:aC h=some 0) {a:Ask}:bT h a=some (yI h a (jo h a h.Txns.length)):=by
 have a2:=hS.len;refine fA.1 ?_;unfold bT;refine bF (Bb hS hc) ?_;obtain ⟨W,hW⟩:∃ W,W=gM h a.Key h.Txns.length:=⟨_,rfl⟩;have hWl:=oN (h:=h) (key:=a.Key) (k:=h.Txns.length);have hWm:∀ j:Nat,j < W.length→idx W (j:Int) ∈ gM h a.Key h.Txns.length:=by
  intro j hj
  rw [← hW,df (n:=j) (by omega) (by omega)]
  exact List.getElem_mem _
 unfold jo
 rw [← hW] at hWl ⊢
 refine dE (k0:=0) W.length (fun k s=>s=(yI h a ((W.take k).filter (fun t=>decide (t≠a.Txn))),(k:Int))) (Nat.zero_le _) (by simp [yI]) ?_;rintro k s hk rfl;have hw:w64 ((k:Int) + 1)=((k + 1:Nat):Int):=bf (by omega);have l3:(yI h a ((W.take k).filter (fun t=>decide (t≠a.Txn)))).length≤32:=by
  unfold yI
  rw [List.length_map]
  exact Nat.le_trans (List.length_filter_le _ _) (by rw [List.length_take]; omega)
 unfold ry nZ nY
 dsimp only
 rw [hw]
 refine au (fun a1 => ?_) (fun a1 => ?_)
 ·have a0:k < W.length:=by omega
  have hm:=vw.1 (hWm k a0);have hn:yI h a ((W.take (k + 1)).filter (fun t=>decide (t≠a.Txn)))=if idx W (k:Int)≠a.Txn then yI h a ((W.take k).filter (fun t=>decide (t≠a.Txn)))++[⟨idx W (k:Int),fH h (idx W (k:Int)) a.Key⟩] else yI h a ((W.take k).filter (fun t=>decide (t≠a.Txn))):=by
   rw [List.take_succ_eq_append_getElem a0,List.filter_append]
   have:W[k]=idx W (k:Int):=(df (n:=k) (by omega) a0).symm
   rw [this]
   unfold yI
   by_cases hq:idx W (k:Int)=a.Txn <;> simp [hq]
  simp only [Ag hS hc,Option.bind_some,if_pos (show 0≤idx W (k:Int)∧idx W (k:Int) < (h.Txns.length:Int) from ⟨hm.1,hm.2.1⟩)]
  repeat' (first | contradiction | with_reducible refine au (fun hq => ?_) (fun hq => ?_) | with_reducible refine ag (by first | omega | grind [bO]) ?_ | with_reducible refine aA ?_ | with_reducible refine cO ?_ | with_reducible refine dB ?_ | with_reducible refine dC ?_ | with_reducible refine dD ?_ | with_reducible refine af ?_)
  all_goals (refine ⟨a0,?_⟩; dsimp only; grind)
 ·have:k=W.length:=by omega
  subst this
  repeat' (first | contradiction | with_reducible refine au (fun hq => ?_) (fun hq => ?_) | with_reducible refine ag (by first | omega | grind [bO]) ?_ | with_reducible refine aA ?_ | with_reducible refine cO ?_ | with_reducible refine dB ?_ | with_reducible refine dC ?_ | with_reducible refine dD ?_ | with_reducible refine af ?_)
  all_goals exact (by rw [List.take_length]:yI h a ((W.take W.length).filter (fun t=>decide (t≠a.Txn)))=yI h a (W.filter (fun t=>decide (t≠a.Txn))))
end Go.Proofs.YtfpeabnehpclnaaGreatT
namespace Go.Proofs.YtfpeabnehpclnaaGreatT
open Go Go.Proofs Go.Proofs.YtfpeabnehpclnaaGreatE
set_option linter.unusedVariables false
set_option linter.unusedSimpArgs false
def opAt (h:History) (t p:Int):Op:=idx (idx h.Txns t).Ops p
theorem Jv {h:History} {n t p:Nat} (ht:t < n) (hp:p < (idx h.Txns (t:Int)).Ops.length):(vV h (opAt h (t:Int) (p:Int)),(t:Int)) ∈ tK h n:=by
 unfold tK zO dJ opAt
 rw [List.mem_flatMap]
 refine ⟨t,List.mem_range.2 ht,?_⟩
 rw [List.map_map,List.mem_map]
 refine ⟨idx (idx h.Txns (t:Int)).Ops (p:Int),?_,rfl⟩
 rw [df (n:=p) rfl hp]
 exact List.getElem_mem _
theorem Ma {L:List (Call×Int)} (h:pJ [] L) {e f:Call×Int} (he:e ∈ L) (hf:f ∈ L) (hk:e.1.Key=f.1.Key):typ e.1.Kind=typ f.1.Kind:=by
 obtain ⟨i,hi,rfl⟩:=List.getElem_of_mem he;obtain ⟨j,hj,rfl⟩:=List.getElem_of_mem hf;rcases Nat.lt_trichotomy i j with hij | hij | hij
 ·have:=(h j hj).1 L[i] (by rw [List.nil_append]; exact List.mem_take_iff_getElem.2 ⟨i,by omega,rfl⟩) (by rw [df (n:=j) rfl hj]; exact hk)
  rwa [df (n:=j) rfl hj] at this
 ·subst hij; rfl
 ·have:=(h i hi).1 L[j] (by rw [List.nil_append]; exact List.mem_take_iff_getElem.2 ⟨j,by omega,rfl⟩) (by rw [df (n:=i) rfl hi]; exact hk.symm)
  rw [df (n:=i) rfl hi] at this
  exact this.symm
theorem GG {h:History} (hS:fw h) {t p t' p':Nat} (ht:t < h.Txns.length) (hp:p < (idx h.Txns (t:Int)).Ops.length) (ht':t' < h.Txns.length) (hp':p' < (idx h.Txns (t':Int)).Ops.length)
  (hk:(opAt h (t:Int) (p:Int)).Key=(opAt h (t':Int) (p':Int)).Key):typ (opAt h (t:Int) (p:Int)).Kind=typ (opAt h (t':Int) (p':Int)).Kind :=
 Ma hS.ents (Jv ht hp) (Jv ht' hp') (by show idx h.Keys _=idx h.Keys _; rw [hk])
theorem Bc {h:History} (hS:fw h) {t p:Nat} (ht:t < h.Txns.length) (hp:p < (idx h.Txns (t:Int)).Ops.length):1≤(opAt h (t:Int) (p:Int)).Kind∧(opAt h (t:Int) (p:Int)).Kind≤8:=by
 obtain ⟨h1,h2⟩:=(hS.txn t ht).ops;have:=h2 p hp;exact ⟨this.1,this.2.1⟩
theorem EU {h:History} (hS:fw h) {a:Ask} {t p:Nat} (ht:t < h.Txns.length) (hp:p < (idx h.Txns (t:Int)).Ops.length) (e1:a.Txn=(t:Int)) (e2:a.Place=(p:Int)) :
  oo h a=some (typ (opAt h (t:Int) (p:Int)).Kind):=by
 obtain ⟨k1,k2⟩:=Bc hS ht hp;refine fA.1 ?_;unfold oo
 rw [e1,e2]
 refine ag (by omega) (ag (by omega) ?_);exact bF (Dj k1 k2) (af rfl)
theorem zg {h:History} (hS:fw h) (hc:aC h=some 0) {key:Int} {t0 p0:Nat} (a3:t0 < h.Txns.length) (a4:p0 < (idx h.Txns (t0:Int)).Ops.length) (a5:(opAt h (t0:Int) (p0:Int)).Key=key) :
  eP h key=some (typ (opAt h (t0:Int) (p0:Int)).Kind):=by
 have a9:=hS.len;refine fA.1 ?_;unfold eP;refine bF hc ?_
 rw [bne_self_eq_false,cond_false]
 refine dE (k0:=0) h.Txns.length (fun k s=>s=(k:Int)∧∀ t p:Nat,t < k→p < (idx h.Txns (t:Int)).Ops.length→(opAt h (t:Int) (p:Int)).Key≠key) (Nat.zero_le _) ⟨rfl,fun t p h=>absurd h (Nat.not_lt_zero _)⟩ ?_;rintro k s hk ⟨rfl,hno⟩;have hw:w64 ((k:Int) + 1)=((k + 1:Nat):Int):=bf (by omega);unfold vG;refine au (fun a6 => ?_) (fun a6 => ?_)
 ·have a0:k < h.Txns.length:=by omega
  refine ag (by omega) ?_;have b0:=(hS.txn k a0).ops.1;refine dE (k0:=0) (idx h.Txns (k:Int)).Ops.length (fun m s=>s=(m:Int)∧∀ p:Nat,p < m→(opAt h (k:Int) (p:Int)).Key≠key) (Nat.zero_le _) ⟨rfl,fun p h=>absurd h (Nat.not_lt_zero _)⟩ ?_;rintro m s hm ⟨rfl,a2⟩;have a7:w64 ((m:Int) + 1)=((m + 1:Nat):Int):=bf (by omega);unfold vF
  dsimp only
  rw [hw,a7]
  refine au (fun a8 => ?_) (fun a8 => ?_)
  ·have a1:m < (idx h.Txns (k:Int)).Ops.length:=by omega
   refine ag (by omega) ?_;refine au (fun he => ?_) (fun he => ?_)
   ·obtain ⟨k1,k2⟩:=Bc hS a0 a1;refine bF (yF k1 k2) (aA (aA (af ?_)));exact GG hS a0 a1 a3 a4 ((show (opAt h (k:Int) (m:Int)).Key=key from he).trans a5.symm)
   ·refine af ⟨a1,rfl,fun p hp => ?_⟩;rcases Nat.lt_or_ge p m with h1 | h1
    ·exact a2 p h1
    ·have:p=m:=by omega
     subst this;exact he
  ·have:m=(idx h.Txns (k:Int)).Ops.length:=by omega
   subst this;refine aA (af ⟨a0,rfl,fun t p ht hp => ?_⟩);rcases Nat.lt_or_ge t k with h1 | h1
   ·exact hno t p h1 hp
   ·have:t=k:=by omega
    subst this;exact a2 p hp
 ·have:k=h.Txns.length:=by omega
  subst this;exact absurd a5 (hno t0 p0 a3 a4)
end Go.Proofs.YtfpeabnehpclnaaGreatT
namespace Go.Proofs.YtfpeabnehpclnaaGreatT
open Go Go.Proofs Go.Proofs.YtfpeabnehpclnaaGreatE
set_option linter.unusedVariables false
set_option linter.unusedSimpArgs false
def GH (h:History) (key ty:Int):Prop:=∀ t p:Nat,t < h.Txns.length→p < (idx h.Txns (t:Int)).Ops.length→(opAt h (t:Int) (p:Int)).Key=key→typ (opAt h (t:Int) (p:Int)).Kind=ty
def Apart (e f:Call×Int):Prop:=e.1.Key=f.1.Key→(e.1.Kind=2∨e.1.Kind=3)→(f.1.Kind=2∨f.1.Kind=3)→e.1.Arg≠f.1.Arg
theorem DT {L:List (Call×Int)} (h:pJ [] L):L.Pairwise Apart:=by
 rw [List.pairwise_iff_getElem]
 intro i j hi hj hij hk h1 h2;have:=(h j hj).2.1
 rw [df (n:=j) rfl hj] at this
 exact this h2 L[i] (by rw [List.nil_append]; exact List.mem_take_iff_getElem.2 ⟨i,by omega,rfl⟩) hk h1
theorem EW {h:History} {t key v:Int}:v ∈ fH h t key↔∃ o ∈ (idx h.Txns t).Ops,o.Key=key∧o.Kind≤4∧o.Arg=v:=by
 unfold fH vX
 rw [List.take_length]
 simp only [List.mem_map,List.mem_filter,decide_eq_true_eq]
 constructor
 ·rintro ⟨o,⟨h1,h2,h3⟩,h4⟩; exact ⟨o,h1,h2,h3,h4⟩
 ·rintro ⟨o,h1,h2,h3,h4⟩; exact ⟨o,⟨h1,h2,h3⟩,h4⟩
theorem Pi {h:History} {t:Nat} {o:Op} (ho:o ∈ (idx h.Txns (t:Int)).Ops):∃ p:Nat,p < (idx h.Txns (t:Int)).Ops.length∧opAt h (t:Int) (p:Int)=o:=by
 obtain ⟨p,hp,rfl⟩:=List.getElem_of_mem ho;exact ⟨p,hp,df rfl hp⟩
theorem Dk {h:History} (hS:fw h) {key ty:Int} (hty:GH h key ty) (a0:ty=2∨ty=3) {t:Nat} (ht:t < h.Txns.length) {o:Op} (ho:o ∈ (idx h.Txns (t:Int)).Ops) (hk:o.Key=key) (h4:o.Kind≤4):o.Kind=2∨o.Kind=3:=by
 obtain ⟨p,hp,rfl⟩:=Pi ho;have h1:=hty t p ht hp hk;obtain ⟨k1,k2⟩:=Bc hS ht hp;unfold typ at h1
 omega
theorem GI {h:History} (hS:fw h) {key ty:Int} (hty:GH h key ty) (a0:ty=2∨ty=3) {t:Nat} (ht:t < h.Txns.length):(fH h (t:Int) key).Nodup:=by
 have hp:=(List.pairwise_flatMap.1 (DT hS.ents)).1 t (List.mem_range.2 ht);unfold zO dJ at hp
 rw [List.map_map,List.pairwise_map] at hp
 unfold fH vX
 rw [List.take_length]
 unfold List.Nodup
 rw [List.pairwise_map,List.pairwise_filter]
 refine List.Pairwise.imp_of_mem (fun {x y} hx hy hR => ?_) hp;intro h1 h2
 rw [decide_eq_true_eq] at h1 h2
 refine hR ?_ (Dk hS hty a0 ht hx h1.1 h1.2) (Dk hS hty a0 ht hy h2.1 h2.2)
 show idx h.Keys _=idx h.Keys _
 rw [h1.1,h2.1]
theorem GJ {h:History} (hS:fw h) {key ty:Int} (hty:GH h key ty) (a1:ty=2∨ty=3) {t u:Nat} (ht:t < h.Txns.length) (hu:u < h.Txns.length) (hn:t≠u) {v:Int}
  (h1:v ∈ fH h (t:Int) key):v ∉ fH h (u:Int) key:=by
 intro h2;have hp:=(List.pairwise_flatMap.1 (DT hS.ents)).2;obtain ⟨o,ho,k1,k2,k3⟩:=EW.1 h1;obtain ⟨o',ho',l1,l2,l3⟩:=EW.1 h2;have a0:∀ {t u:Nat} (ht:t < h.Txns.length) (hu:u < h.Txns.length),t < u→∀ {o o':Op},o ∈ (idx h.Txns (t:Int)).Ops→o' ∈ (idx h.Txns (u:Int)).Ops→o.Key=key→o'.Key=key→o.Kind≤4→o'.Kind≤4→o.Arg≠o'.Arg:=by
  intro t u ht hu htu o o' ho ho' e1 e2 e3 e4;have:=(List.pairwise_iff_getElem.1 hp) t u (by simpa using ht) (by simpa using hu) htu
  rw [List.getElem_range,List.getElem_range] at this
  refine this (vV h o,(t:Int)) ?_ (vV h o',(u:Int)) ?_ ?_ (Dk hS hty a1 ht ho e1 e3) (Dk hS hty a1 hu ho' e2 e4)
  ·unfold zO dJ; rw [List.map_map]; exact List.mem_map.2 ⟨o,ho,rfl⟩
  ·unfold zO dJ; rw [List.map_map]; exact List.mem_map.2 ⟨o',ho',rfl⟩
  ·show idx h.Keys _=idx h.Keys _
   rw [e1,e2]
 rcases Nat.lt_or_gt_of_ne hn with hlt | hlt
 ·exact a0 ht hu hlt ho ho' k1 l1 k2 l2 (k3.trans l3.symm)
 ·exact a0 hu ht hlt ho' ho l1 k1 l2 k2 (l3.trans k3.symm)
structure CJ (h:History) (a:Ask) (t p:Nat):Prop where
 tl:t < h.Txns.length
 pl:p < (idx h.Txns (t:Int)).Ops.length
 e1:a.Txn=(t:Int)
 e2:a.Place=(p:Int)
 e3:a.Key=(opAt h (t:Int) (p:Int)).Key
 rd:5≤(opAt h (t:Int) (p:Int)).Kind
 b64:a.Base.length≤64
 b4:typ (opAt h (t:Int) (p:Int)).Kind=4→a.Base.length=1
 b3:typ (opAt h (t:Int) (p:Int)).Kind=3→a.Base.Nodup
theorem EX {s:List Int} (h:Asc s):s.Nodup:=by
 exact (ze.1 h).imp (fun h=>by omega)
theorem Ce {h:History} (hS:fw h) {a:Ask} (ha:a ∈ aZ h h.Txns.length):∃ t p,CJ h a t p:=by
 unfold aZ at ha;obtain ⟨t,ht,ha⟩:=List.mem_flatMap.1 ha;have ht:=List.mem_range.1 ht;unfold vY at ha
 split at ha
 case isFalse=>cases ha
 case isTrue hst =>
 unfold uI at ha;obtain ⟨p,hp,ha⟩:=List.mem_flatMap.1 ha;have hp:=List.mem_range.1 hp;refine ⟨t,p,?_⟩;obtain ⟨k1,k8⟩:=Bc hS ht hp;obtain ⟨_,_,_,_,_,hcs⟩:=hS.txn t ht;have hc:=hcs p (by simpa [zN,dJ] using hp)
 dsimp only [zN,dJ] at hc
 rw [xe hp] at hc
 unfold sN vV at hc
 dsimp only at hc
 unfold CB at ha
 dsimp only at ha
 have ho:idx (idx h.Txns (t:Int)).Ops (p:Int)=opAt h (t:Int) (p:Int):=rfl
 rw [ho] at ha hc
 generalize opAt h (t:Int) (p:Int)=o at ha hc k1 k8 ho;obtain ⟨c1,c8,c3,c4,c5,c6⟩:=hc;have hoo:opAt h (t:Int) (p:Int)=o:=ho
 split at ha
 ·cases ha
 ·rename_i h4
  obtain ⟨d1,d2,d3,d4⟩:=c6 (by omega);have hg:o.Got=true:=d2.2 hst;obtain ⟨f1,f2,f3,f4⟩:=d4 hg
  split at ha
  ·rw [List.mem_singleton] at ha
   subst ha;exact ⟨ht,hp,rfl,rfl,by rw [hoo],by rw [hoo]; omega,f4,fun h=>f2 (by rw [hoo] at h; unfold typ at h; omega),fun h=>EX (f3 (by rw [hoo] at h; unfold typ at h; omega))⟩
  ·split at ha
   ·rename_i hb
    rw [List.mem_singleton] at ha
    subst ha;obtain ⟨hb,h5⟩:=hb;refine ⟨ht,hp,rfl,rfl,by rw [hoo],by rw [hoo]; omega,?_,fun h => ?_,fun h => ?_⟩
    ·dsimp only
     unfold before;have:=List.length_filter_le (fun x=>decide (x ∉ vX (idx h.Txns (t:Int)).Ops o.Key p)) o.Vals
     split
     ·simp
     ·split
      ·simp
      ·split
       ·split
        ·simp; omega
        ·simp
       ·split
        ·split
         ·dsimp only; omega
         ·simp
        ·simp
    ·have h8:o.Kind=8:=by rw [hoo] at h; unfold typ at h; omega
     dsimp only
     unfold before at hb ⊢
     rw [h8] at hb ⊢
     split at hb
     ·cases hb
     ·rename_i hq
      rw [if_neg hq]
      simp
    ·have h7:o.Kind=7:=by rw [hoo] at h; unfold typ at h; omega
     have hnd:=EX (f3 h7)
     dsimp only
     unfold before
     rw [h7]
     split
     ·simp
     ·simp only [show ¬ ((7:Int) - 4=1) by omega,show ¬ ((7:Int) - 4=2) by omega,if_false]
      split
      ·split
       ·exact hnd.filter _
       ·simp
      ·rename_i h0
       exact absurd (show (7:Int) - 4=3 by omega) h0
   ·cases ha
end Go.Proofs.YtfpeabnehpclnaaGreatT
namespace Go.Proofs.YtfpeabnehpclnaaGreatT
open Go Go.Proofs Go.Proofs.YtfpeabnehpclnaaGreatE
set_option linter.unusedVariables false
set_option linter.unusedSimpArgs false
theorem Cf {α:Type} [Inhabited α] {l:List α} {k:Nat}:eT l (k:Int) (l.length:Int)=l.drop k:=by
 unfold eT
 simp
theorem Cg {l:List Int} {v:Int} (hl:l.length < 2 ^ 60):slices_Contains_int l v=some (decide (v ∈ l)):=by
 have h1:Tri (slices_Index_int l v) (fun r=>0≤r↔∃ j:Nat,j < l.length∧idx l (j:Int)=v):=by
  unfold slices_Index_int;refine ou l.length (fun j=>idx l (j:Int)≠v) ?_;intro k hk hJ;unfold oC
  dsimp only
  repeat' (first | contradiction | with_reducible refine au (fun hq => ?_) (fun hq => ?_) | with_reducible refine ag (by first | omega | grind [bO]) ?_ | with_reducible refine aA ?_ | with_reducible refine cO ?_ | with_reducible refine dB ?_ | with_reducible refine dC ?_ | with_reducible refine dD ?_ | with_reducible refine af ?_)
  all_goals grind [Nxt,bO]
 refine fA.1 ?_;unfold slices_Contains_int;refine eF h1 (fun r hr=>af ?_);have:(∃ j:Nat,j < l.length∧idx l (j:Int)=v)↔v ∈ l:=by
  rw [List.mem_iff_getElem]
  constructor
  ·rintro ⟨j,hj,e⟩; exact ⟨j,hj,by rw [← e,df (n:=j) rfl hj]⟩
  ·rintro ⟨j,hj,e⟩; exact ⟨j,hj,by rw [← e,df (n:=j) rfl hj]⟩
 rw [decide_eq_decide]
 exact hr.trans this
theorem GK {s p:List Int} (hs:s.length < 2 ^ 60):pz s p=some (decide (p <+: s)):=by
 refine fA.1 ?_;unfold pz;refine au (fun h => ?_) (fun h => ?_)
 ·refine af ?_
  rw [eq_comm,decide_eq_false_iff_not]
  intro hp;have:=hp.length_le
  omega
 ·have hl:p.length≤s.length:=by omega
  refine ag (by omega) ?_;have hsv:dF (eT s (0:Int) (p.length:Int)) p=some (decide (eT s (0:Int) (p.length:Int)=p)):=EF (by rw [nQ hl,List.length_take]; omega);refine bF hsv (af ?_)
  rw [decide_eq_decide,nQ hl,List.prefix_iff_eq_take,eq_comm]
structure Parts (O:List Int) (W:Int→List Int):Prop where
 ne:∀ t ∈ O,0 < (W t).length
 ap:∀ t ∈ O,∀ u ∈ O,∀ v,v ∈ W t→v ∈ W u→t=u
 nd:∀ t ∈ O,(W t).Nodup
 ol:O.length≤32
 wl:∀ t ∈ O,(W t).length≤16
 pos:∀ t ∈ O,0≤t
theorem DU {h:History} (hS:fw h) {a:Ask} {t p:Nat} (ha:CJ h a t p) (a0:typ (opAt h (t:Int) (p:Int)).Kind=2∨typ (opAt h (t:Int) (p:Int)).Kind=3) :
  Parts (jo h a h.Txns.length) (fun t=>fH h t a.Key):=by
 have a1:=hS.len;have hty:GH h a.Key (typ (opAt h (t:Int) (p:Int)).Kind):=fun t' p' ht' hp' hk=>GG hS ht' hp' ha.tl ha.pl (hk.trans ha.e3);have hm:∀ u ∈ jo h a h.Txns.length,∃ n:Nat,u=(n:Int)∧n < h.Txns.length∧0 < (fH h u a.Key).length:=by
  intro u hu;obtain ⟨⟨h0,h1,_,h3⟩,_⟩:=kK.1 hu;exact ⟨u.toNat,by omega,by omega,h3⟩
 refine ⟨fun u hu => ?_,fun u hu v hv x h1 h2 => ?_,fun u hu => ?_,Nat.le_trans tV a1,fun u hu => ?_,fun u hu=>(kK.1 hu).1.1⟩
 ·obtain ⟨n,_,_,h3⟩:=hm u hu; exact h3
 ·obtain ⟨n,rfl,hn,_⟩:=hm u hu;obtain ⟨m,rfl,hm',_⟩:=hm v hv
  by_cases hne:n=m
  ·rw [hne]
  ·exact absurd h2 (GJ hS hty a0 hn hm' hne h1)
 ·obtain ⟨n,rfl,hn,_⟩:=hm u hu;exact GI hS hty a0 hn
 ·obtain ⟨n,rfl,hn,_⟩:=hm u hu;exact Nat.le_trans CG (hS.txn n hn).ops.1
section
variable {O:List Int} {W:Int→List Int}
def Bd (O:List Int) (W:Int→List Int):List aN:=O.map (fun t=>⟨t,W t⟩)
theorem wD:(Bd O W).length=O.length:=List.length_map _
theorem zh {j:Nat} (hj:j < O.length):idx (Bd O W) (j:Int)=⟨idx O (j:Int),W (idx O (j:Int))⟩:=xe hj
theorem eY {l:List Int} {j:Nat} (hj:j < l.length):idx l (j:Int) ∈ l:=by rw [df (n:=j) rfl hj]; exact List.getElem_mem _
theorem tX {l:List Int} {t:Int} (h:t ∈ l):∃ j:Nat,j < l.length∧idx l (j:Int)=t:=by
 obtain ⟨j,hj,e⟩:=List.getElem_of_mem h;exact ⟨j,hj,(df rfl hj).trans e⟩
theorem oO {p s:List Int} (hp:p <+: s) (h0:0 < p.length):idx p 0=idx s 0:=by
 obtain ⟨r,rfl⟩:=hp;exact (kD (j:=0) h0).symm
theorem Kn (hP:Parts O W) {rest:List Int} (hr:0 < rest.length):Tri (bE (Bd O W) rest)
  (fun y=>(∃ j:Nat,j < O.length∧y=(j:Int)∧idx (W (idx O (j:Int))) 0=idx rest 0)∨(y = -1∧∀ t ∈ O,idx (W t) 0≠idx rest 0)):=by
 have hol:=hP.ol;unfold bE;refine dE (k0:=0) O.length (fun k s=>s=(k:Int)∧∀ j:Nat,j < k→idx (W (idx O (j:Int))) 0≠idx rest 0) (Nat.zero_le _) ⟨rfl,fun j h=>absurd h (Nat.not_lt_zero _)⟩ ?_;rintro k s hk ⟨rfl,hno⟩;have hw:w64 ((k:Int) + 1)=((k + 1:Nat):Int):=bf (by omega);unfold fF rP
 dsimp only
 rw [hw,wD]
 refine au (fun a1 => ?_) (fun a1 => ?_)
 ·have a0:k < O.length:=by omega
  have h0:=hP.ne _ (eY a0)
  rw [zh a0]
  refine ag (by omega) ?_
  simp only [jv _ (show 0≤(0:Int)∧(0:Int) < ((W (idx O (k:Int))).length:Int) by omega),jv _ (show 0≤(0:Int)∧(0:Int) < (rest.length:Int) by omega),Option.bind_some]
  refine au (fun he => ?_) (fun he => ?_)
  ·exact aA (af (.inl ⟨k,a0,rfl,he⟩))
  ·refine af ⟨a0,rfl,fun j hj => ?_⟩;rcases Nat.lt_or_ge j k with h1 | h1
   ·exact hno j h1
   ·have:j=k:=by omega
    subst this;exact he
 ·have:k=O.length:=by omega
  subst this;refine aA (af (.inr ⟨rfl,fun t ht => ?_⟩));obtain ⟨j,hj,rfl⟩:=tX ht;exact hno j hj
theorem rD (hP:Parts O W) {rest:List Int} {t u:Int} (ht:t ∈ O) (hu:u ∈ O) (h1:idx (W t) 0=idx rest 0) (h2:idx (W u) 0=idx rest 0):t=u:=by
 have e1:=hP.ne t ht;have e2:=hP.ne u hu;refine hP.ap t ht u hu (idx rest 0) ?_ ?_
 ·rw [← h1]; exact eY (j:=0) e1
 ·rw [← h2]; exact eY (j:=0) e2
end
end Go.Proofs.YtfpeabnehpclnaaGreatT
