import Derived.Test.YtnlkggppokcmfaaTD
import Derived.Test.YtnlkggppokcmfaaY
import Derived.Test.YtnlkggppokcmfaaTF
namespace Go.Proofs.YtnlkggppokcmfaaT
open Go Go.Proofs Go.Proofs.YtnlkggppokcmfaaE
set_option linter.unusedVariables false
set_option linter.unusedSimpArgs false
def Upm {S Ω:Type} (n k:Nat) (J:Nat→S→Prop) (Q:Ω→Prop):S ⊕ Ω→Prop
 | .inl s'=>k < n∧J (k + 1) s'
 | .inr o=>Q o
theorem gG {S Ω:Type} {step:S→Option (S ⊕ Ω)} {Q:Ω→Prop} (n:Nat) (J:Nat→S→Prop) {s0:S} {k0:Nat} (a0:k0≤n) (h0:J k0 s0)
  (hs:∀ (k:Nat) (s:S),k≤n→J k s→Tri (step s) (Upm n k J Q)):Tri (iter step s0) Q:=by
 generalize hd:n - k0=d
 induction d using Nat.strongRecOn generalizing k0 s0 with
 | ind d ih =>
  obtain ⟨x,hx,hr⟩:=hs k0 s0 a0 h0
  rw [yf,hx]
  cases x with
  | inl s'=>exact ih (n - (k0 + 1)) (by have:=hr.1; omega) (k0:=k0 + 1) (by have:=hr.1; omega) hr.2 rfl
  | inr o=>exact ⟨o,rfl,hr⟩
def Asc (s:List Int):Prop:=∀ k:Nat,k + 1 < s.length→idx s (k:Int) < idx s ((k + 1:Nat):Int)
instance (s:List Int):Decidable (Asc s):=by
 unfold Asc;exact decidable_of_iff (∀ k,k < s.length→k + 1 < s.length→idx s (k:Int) < idx s ((k + 1:Nat):Int)) ⟨fun h k hk=>h k (by omega) hk,fun h k _ hk=>h k hk⟩
def SOk (t:Int) (s:List Int):Bool:=(t == 1 && decide (s.length≤1)) || (t == 2 && decide (s.length≤64)) || (t == 3 && decide (Asc s) && decide (s.length≤64)) || (t == 4 && s.length == 1)
def chk (t:Int) (s:List Int):Int:=if 1≤t∧t≤4 then (if SOk t s then 0 else 80) else 1
theorem qW {k:Nat} (h:k < 2 ^ 62) (h1:1≤k):w64 ((k:Int) - 1)=((k - 1:Nat):Int):=by
 rw [vz (by omega) (by omega)]; omega
def lb (s:List Int) (a:Int):Nat:=s.findIdx (fun x=>decide (a≤x))
def hit (s:List Int) (a:Int):Bool:=decide (lb s a < s.length) && (idx s (lb s a:Int) == a)
def ins (s:List Int) (a:Int):List Int:=s.take (lb s a)++((if hit s a then [] else [a])++s.drop (lb s a))
def next (t:Int) (s:List Int) (a:Int):List Int:=if t=1 then [a] else if t=2 then s++[a] else if t=3 then ins s a else [w64 (idx s 0 + a)]
def app (t:Int) (s:List Int) (a:Int):List Int×Int :=
 if chk t s≠0 then ([],chk t s) else if (next t s a).length > 64 then ([],2) else (next t s a,0)
def start (t:Int):List Int×Int:=if 1≤t∧t≤4 then (if t=4 then [0] else [],0) else ([],1)
def step (t:Int) (x:List Int×Int) (a:Int):List Int×Int:=if x.2=0 then app t x.1 a else x
theorem Cu {a b:List Int} (ha:a.length < 2 ^ 62):bU a b=some (decide (a=b)):=by
 unfold bU
 by_cases hl:a.length=b.length
 ·have:((a.length:Int) != (b.length:Int))=false:=by simp; omega
  rw [this,cond_false]
  refine kZ.1 ?_;refine Dy a.length (fun k=>∀ j:Nat,j < k→idx a (j:Int)=idx b (j:Int)) (fun j h=>by omega) (fun k hk hJ => ?_);unfold jb;refine Cf (fun h => ?_) (fun h => ?_)
  ·have h:(k:Int) < a.length:=of_decide_eq_true h;refine az (by omega) (az (by omega) (Cf (fun h2 => ?_) (fun h2 => ?_)))
   ·have h2:idx a (k:Int)≠idx b (k:Int):=by simpa using h2
    refine aJ (aj ?_)
    show false=_
    have:a≠b:=fun e=>h2 (by rw [e])
    simp [this]
   ·have h2:idx a (k:Int)=idx b (k:Int):=by simpa using h2
    refine ⟨_,rfl,dE (by omega),by omega,fun j hj => ?_⟩
    rcases Nat.lt_or_ge j k with h3 | h3
    ·exact hJ j h3
    ·have:j=k:=by omega
     subst this;exact h2
  ·have h:¬ (k:Int) < a.length:=of_decide_eq_false h;refine aJ (aj ?_)
   show true=_
   have:a=b:=Dz hl (fun j hj=>hJ j (by omega))
   simp [this]
 ·have:((a.length:Int) != (b.length:Int))=true:=by simp; omega
  rw [this,cond_true]
  have:a≠b:=fun e=>hl (by rw [e])
  simp [this]
end Go.Proofs.YtnlkggppokcmfaaT
namespace Go.Proofs.YtnlkggppokcmfaaT
open Go Go.Proofs Go.Proofs.YtnlkggppokcmfaaE
set_option linter.unusedVariables false
set_option linter.unusedSimpArgs false
def Fit (s args:List Int):Prop:=∀ k:Nat,k < args.length→idx args (k:Int) ∈ s∧idx args (k:Int) ∉ args.take k
instance (s args:List Int):Decidable (Fit s args):=by unfold Fit; infer_instance
def before (t:Int) (s args:List Int):List Int×Bool :=
 if chk t s≠0∨args=[] then ([],false)
 else if t=1 then ([],decide (s.length=1∧idx s 0=idx args ((args.length - 1:Nat):Int)))
 else if t=2 then (if args.length≤s.length∧s.drop (s.length - args.length)=args then (s.take (s.length - args.length),true) else ([],false))
 else if t=3 then (if Fit s args then (s.filter (fun x=>decide (x ∉ args)),true) else ([],false))
 else ([args.foldl (fun v a=>w64 (v - a)) (idx s 0)],true)
end Go.Proofs.YtnlkggppokcmfaaT
namespace Go.Proofs.YtnlkggppokcmfaaT
open Go Go.Proofs Go.Proofs.YtnlkggppokcmfaaE
set_option linter.unusedVariables false
set_option linter.unusedSimpArgs false
def oQ (c:Call) (k:Int):Prop :=
 1≤c.Kind∧c.Kind≤8∧1≤c.Key.size∧c.Key.size≤32 ∧
  (c.Kind≤4→c.Got=false∧c.Vals.length=0∧(c.Kind=4 → -1048576≤c.Arg∧c.Arg≤1048576)) ∧
  (5≤c.Kind→c.Arg=0∧(c.Got=true↔k=1)∧(c.Got=false→c.Vals.length=0) ∧
   (c.Got=true→(c.Kind=5→c.Vals.length≤1)∧(c.Kind=8→c.Vals.length=1)∧(c.Kind=7→Asc c.Vals)∧c.Vals.length≤64))
theorem zl {k:ByteArray}:k=(⟨#[]⟩:ByteArray)↔k.size=0:=by
 constructor
 ·rintro rfl; rfl
 ·intro h;obtain ⟨a⟩:=k;have:a = #[]:=Array.eq_empty_of_size_eq_zero h
  rw [this]
theorem Dh {c:Call} (hs:c.Vals.length < 2 ^ 61):Tri (iter (nz c) 1) (fun r=>r=true↔(c.Kind=7→Asc c.Vals)):=by
 refine gG (k0:=1) (c.Vals.length + 1) (fun k x=>x=(k:Int)∧1≤k∧∀ j:Nat,j + 1 < k→j + 1 < c.Vals.length→idx c.Vals (j:Int) < idx c.Vals ((j + 1:Nat):Int)) (by omega) ⟨rfl,Nat.le_refl _,fun j h=>by omega⟩ ?_
 rintro k x hk ⟨rfl,a0,hJ⟩;unfold nz ny
 dsimp only
 have e:=qW (k:=k) (by omega) a0;have e2:=dE (k:=k) (by omega)
 rw [e,e2]
 repeat' (first | contradiction | with_reducible refine aB (fun hq => ?_) (fun hq => ?_) | with_reducible refine az (by first | omega | grind [bN]) ?_ | with_reducible refine aJ ?_ | with_reducible refine bS ?_ | with_reducible refine cZ ?_ | with_reducible refine df ?_ | with_reducible refine dh ?_ | with_reducible refine aj ?_)
 ·show false=true↔_
  have hl:¬ Asc c.Vals:=by
   intro hA;have:=hA (k - 1) (by omega)
   rw [show k - 1 + 1=k by omega] at this
   omega
  grind
 ·refine ⟨by omega,rfl,by omega,fun j hj hl => ?_⟩
  rcases Nat.lt_or_ge (j + 1) k with h3 | h3
  ·exact hJ j h3 hl
  ·have:j=k - 1:=by omega
   subst this
   rw [show k - 1 + 1=k by omega]
   omega
 ·show true=true↔_
  have hl:Asc c.Vals:=fun j hj=>hJ j (by omega) hj
  grind
 ·show true=true↔_
  grind
theorem xL (c:Call) (k:Int) (hs:c.Vals.length < 2 ^ 61):Tri (bB c k) (fun r=>r=true↔oQ c k):=by
 unfold bB jG nC nA rq oQ
 simp only [cond_true,cond_false]
 have he:=zl (k:=c.Key)
 repeat' (first | contradiction | with_reducible refine aB (fun hq => ?_) (fun hq => ?_) | with_reducible refine az (by first | omega | grind [bN]) ?_ | with_reducible refine aJ ?_ | with_reducible refine bS ?_ | with_reducible refine cZ ?_ | with_reducible refine df ?_ | with_reducible refine dh ?_ | with_reducible refine aj ?_ | refine dW (Dh hs) (fun r hr => ?_))
 all_goals grind
theorem ES {c:Call} (hs:c.Vals.length < 2 ^ 61) (hc:c.Kind=7):Tri (iter (iZ c) 1) (fun r=>r=true↔(Asc c.Vals∧c.Vals.length≤64)):=by
 refine gG (k0:=1) (c.Vals.length + 1) (fun k x=>x=(k:Int)∧1≤k∧∀ j:Nat,j + 1 < k→j + 1 < c.Vals.length→idx c.Vals (j:Int) < idx c.Vals ((j + 1:Nat):Int)) (by omega) ⟨rfl,Nat.le_refl _,fun j h=>by omega⟩ ?_
 rintro k x hk ⟨rfl,a0,hJ⟩;unfold iZ gQ
 dsimp only
 have e:=qW (k:=k) (by omega) a0;have e2:=dE (k:=k) (by omega)
 rw [e,e2]
 repeat' (first | contradiction | with_reducible refine aB (fun hq => ?_) (fun hq => ?_) | with_reducible refine az (by first | omega | grind [bN]) ?_ | with_reducible refine aJ ?_ | with_reducible refine bS ?_ | with_reducible refine cZ ?_ | with_reducible refine df ?_ | with_reducible refine dh ?_ | with_reducible refine aj ?_)
 ·show false=true↔_
  have hl:¬ Asc c.Vals:=by
   intro hA;have:=hA (k - 1) (by omega)
   rw [show k - 1 + 1=k by omega] at this
   omega
  grind
 ·refine ⟨by omega,rfl,by omega,fun j hj hl => ?_⟩
  rcases Nat.lt_or_ge j (k - 1) with h3 | h3
  ·exact hJ j (by omega) hl
  ·have:j=k - 1:=by omega
   subst this
   rw [show k - 1 + 1=k by omega]
   omega
 ·show decide _=true↔_
  have hl:Asc c.Vals:=fun j hj=>hJ j (by omega) hj
  grind
theorem za (c:Call) (k:Int) (hs:c.Vals.length < 2 ^ 61):Tri (aM c k) (fun r=>r=true↔oQ c k):=by
 unfold aM fq fe gQ oQ
 simp only [cond_true,cond_false]
 have ha:c.Vals.length=0→Asc c.Vals:=fun h j hj=>by omega
 repeat' (first | contradiction | with_reducible refine aB (fun hq => ?_) (fun hq => ?_) | with_reducible refine az (by first | omega | grind [bN]) ?_ | with_reducible refine aJ ?_ | with_reducible refine bS ?_ | with_reducible refine cZ ?_ | with_reducible refine df ?_ | with_reducible refine dh ?_ | with_reducible refine aj ?_ | refine dW (ES hs (by assumption)) (fun r hr => ?_))
 all_goals grind
def Small (l:List Call):Prop:=l.length < 2 ^ 61∧rM l (fun c=>c.Vals.length < 2 ^ 61)
theorem Di {l:List Call} {e:Event} (hs:Small l):Tri (bV l e) (fun r=>r=true ↔ ¬ rM l (fun c=>oQ c e.Kind)):=by
 have h1:Tri (aW l e) (fun r=>0≤r ↔ ¬ rM l (fun c=>oQ c e.Kind)):=by
  have hl:=hs.1;unfold aW;refine mD l.length (fun j=>oQ (idx l (j:Int)) e.Kind) ?_;intro k hk hJ;unfold dY nZ
  dsimp only
  repeat' (first | contradiction | with_reducible refine aB (fun hq => ?_) (fun hq => ?_) | with_reducible refine az (by first | omega | grind [bN]) ?_ | with_reducible refine aJ ?_ | with_reducible refine bS ?_ | with_reducible refine cZ ?_ | with_reducible refine df ?_ | with_reducible refine dh ?_ | with_reducible refine aj ?_ | refine gu (xL _ _ (hs.2 k (by omega))) (fun r hr => ?_))
  all_goals grind [Nxt,rM,bN]
 unfold bV;refine gu h1 (fun r hr => ?_)
 repeat' (first | contradiction | with_reducible refine aB (fun hq => ?_) (fun hq => ?_) | with_reducible refine az (by first | omega | grind [bN]) ?_ | with_reducible refine aJ ?_ | with_reducible refine bS ?_ | with_reducible refine cZ ?_ | with_reducible refine df ?_ | with_reducible refine dh ?_ | with_reducible refine aj ?_)
 grind
def ve (e:Event):Prop:=0≤e.Kind∧e.Kind≤3∧e.Calls.length≤16∧rM e.Calls (fun c=>oQ c e.Kind)
theorem xM {e:Event} (hs:Small e.Calls):Tri (eQ [e]) (fun r=>(r=0↔ve e)∧(r=0∨r=1)):=by
 unfold eQ;refine aB (fun h => ?_) (fun h => ?_)
 ·simp at h
 ·refine mD 1 (fun j=>ve e) ?_;intro k hk hJ;unfold qx lg
  dsimp only
  have hi:k=0→idx [e] (k:Int)=e:=by rintro rfl; rfl
  simp only [cond_true,cond_false]
  have hc:=fun h:k=0=>Di (l:=e.Calls) (e:=e) hs
  by_cases h0:k=0
  ·rw [hi h0]
   repeat' (first | contradiction | with_reducible refine aB (fun hq => ?_) (fun hq => ?_) | with_reducible refine az (by first | omega | grind [bN]) ?_ | with_reducible refine aJ ?_ | with_reducible refine bS ?_ | with_reducible refine cZ ?_ | with_reducible refine df ?_ | with_reducible refine dh ?_ | with_reducible refine aj ?_ | refine gu (hc h0) (fun r hr => ?_))
   all_goals grind [Nxt,ve,bN]
  ·repeat' (first | contradiction | with_reducible refine aB (fun hq => ?_) (fun hq => ?_) | with_reducible refine az (by first | omega | grind [bN]) ?_ | with_reducible refine aJ ?_ | with_reducible refine bS ?_ | with_reducible refine cZ ?_ | with_reducible refine df ?_ | with_reducible refine dh ?_ | with_reducible refine aj ?_ | refine gu (hc (by grind)) (fun r hr => ?_))
   all_goals grind [Nxt,ve,bN]
theorem yo {e:Event} (hs:Small e.Calls):Tri (bA e) (fun r=>r=true↔ve e):=by
 unfold bA fZ
 simp only [cond_true,cond_false]
 have hl:=hs.1;have h1:Tri (iter (iN e) 0) (fun r=>r=true↔rM e.Calls (fun c=>oQ c e.Kind)):=by
  refine mD e.Calls.length (fun j=>oQ (idx e.Calls (j:Int)) e.Kind) ?_;intro k hk hJ;unfold iN
  dsimp only
  repeat' (first | contradiction | with_reducible refine aB (fun hq => ?_) (fun hq => ?_) | with_reducible refine az (by first | omega | grind [bN]) ?_ | with_reducible refine aJ ?_ | with_reducible refine bS ?_ | with_reducible refine cZ ?_ | with_reducible refine df ?_ | with_reducible refine dh ?_ | with_reducible refine aj ?_ | refine gu (za _ _ (hs.2 k (by omega))) (fun r hr => ?_))
  all_goals grind [Nxt,rM,bN]
 repeat' (first | contradiction | with_reducible refine aB (fun hq => ?_) (fun hq => ?_) | with_reducible refine az (by first | omega | grind [bN]) ?_ | with_reducible refine aJ ?_ | with_reducible refine bS ?_ | with_reducible refine cZ ?_ | with_reducible refine df ?_ | with_reducible refine dh ?_ | with_reducible refine aj ?_ | refine dW h1 (fun r hr => ?_))
 all_goals grind [ve]
theorem xN {e:Event} (hs:Small e.Calls):Tri (dN [e]) (fun r=>(r=0↔ve e)∧(r=0∨r=1)):=by
 unfold dN;refine aB (fun h => ?_) (fun h => ?_)
 ·simp at h
 ·refine mD 1 (fun j=>ve e) ?_;intro k hk hJ;unfold ky
  dsimp only
  have hi:k=0→idx [e] (k:Int)=e:=by rintro rfl; rfl
  have hc:k=0→Tri (bA (idx [e] (k:Int))) (fun r=>r=true↔ve e):=fun h0=>by rw [hi h0]; exact yo hs
  repeat' (first | contradiction | with_reducible refine aB (fun hq => ?_) (fun hq => ?_) | with_reducible refine az (by first | omega | grind [bN]) ?_ | with_reducible refine aJ ?_ | with_reducible refine bS ?_ | with_reducible refine cZ ?_ | with_reducible refine df ?_ | with_reducible refine dh ?_ | with_reducible refine aj ?_ | refine gu (hc (by grind)) (fun r hr => ?_))
  all_goals grind [Nxt,bN]
def wZ (h:History) (o:Op):Call:=⟨o.Kind,idx h.Keys o.Key,o.Arg,o.Got,o.Vals⟩
def cz (h:History) (t:Txn):List Call:=t.Ops.map (wZ h)
def vZ (h:History) (t:Txn):Event:=⟨0,t.Status,cz h t⟩
def rJ (h:History) (t:Txn):Prop:=rM t.Ops (fun o=>0≤o.Key∧o.Key < (h.Keys.length:Int))
def yu (t:Txn):Prop:=t.Ops.length * 56≤140737488351232∧rM t.Ops (fun o=>o.Vals.length * 8≤140737488351232)
theorem yu.small {h:History} {t:Txn} (hs:yu t) (k:Nat):Small ((cz h t).take k):=by
 have h1:=hs.1;refine ⟨by simp [cz]; omega,fun j hj => ?_⟩
 have hj':j < k∧j < t.Ops.length:=by simp [cz] at hj; omega
 rw [oW hj'.1,cz,ww hj'.2]
 have:=hs.2 j hj'.2
 show (idx t.Ops (j:Int)).Vals.length < _
 omega
theorem xc {h:History} {t:Txn} (hs:yu t):Tri (dz h t) (fun r=>(r.2=true↔rJ h t∧ve (vZ h t))∧(r.2=true→r.1=vZ h t)):=by
 unfold dz;have hl:=hs.1;refine Cg t.Ops.length (fun k l=>l=(cz h t).take k∧∀ j:Nat,j < k→0≤(idx t.Ops (j:Int)).Key∧(idx t.Ops (j:Int)).Key < (h.Keys.length:Int)) ⟨rfl,by omega⟩ ?_
 rintro k l hk ⟨rfl,hJ⟩;have hlen:((cz h t).take k).length=k:=by simp [cz]; omega
 unfold ou lU oq
 simp only [cond_true,cond_false,hlen]
 have hsm:=xM (e:=⟨0,t.Status,(cz h t).take k⟩) (hs.small k);have hfull:k=t.Ops.length→(cz h t).take k=cz h t:=fun e=>List.take_of_length_le (by simp [cz]; omega);have hnext:k < t.Ops.length→(cz h t).take (k + 1)=(cz h t).take k++[wZ h (idx t.Ops (k:Int))]:=fun hk=>by
  rw [jg (by simpa [cz] using hk),cz,ww hk]
 repeat' (first | contradiction | with_reducible refine aB (fun hq => ?_) (fun hq => ?_) | with_reducible refine az (by first | omega | grind [bN]) ?_ | with_reducible refine aJ ?_ | with_reducible refine bS ?_ | with_reducible refine cZ ?_ | with_reducible refine df ?_ | with_reducible refine dh ?_ | with_reducible refine aj ?_ | refine gu hsm (fun r hr => ?_))
 all_goals grind [Up2,rJ,rM,bN,wZ,vZ]
def zm (l:List Txn) (i:Nat):Prop:=∀ j:Nat,j < i → ¬ ((idx l (j:Int)).Proc=(idx l (i:Int)).Proc∧((idx l (j:Int)).To = -1∨(idx l (j:Int)).To ≥ (idx l (i:Int)).From))
def tO (l:List Txn) (i:Nat):Prop :=
 1≤(idx l (i:Int)).Status∧(idx l (i:Int)).Status≤3∧0≤(idx l (i:Int)).From∧((idx l (i:Int)).To = -1→(idx l (i:Int)).Status=3) ∧
  ((idx l (i:Int)).To ≠ -1→(idx l (i:Int)).From < (idx l (i:Int)).To)∧(0 < i→(idx l ((i - 1:Nat):Int)).From < (idx l (i:Int)).From)∧zm l i
theorem Cv {l:List Txn} {i:Nat} (hi:i < l.length) (hl:l.length < 2 ^ 61):Tri (bT (di l 0 (i:Int)) (idx l (i:Int))) (fun r=>r=true ↔ ¬ zm l i):=by
 have h1:Tri (aT (di l 0 (i:Int)) (idx l (i:Int))) (fun r=>0≤r ↔ ¬ zm l i):=by
  rw [nk (by omega)]
  unfold aT;have ht:(l.take i).length=i:=by simp; omega
  refine mD i (fun j => ¬ ((idx l (j:Int)).Proc=(idx l (i:Int)).Proc∧((idx l (j:Int)).To = -1∨(idx l (j:Int)).To ≥ (idx l (i:Int)).From))) ?_;intro k hk hJ;unfold dP lV
  dsimp only
  rw [ht]
  have hx:k < i→idx (l.take i) (k:Int)=idx l (k:Int):=fun h=>oW h
  repeat' (first | contradiction | with_reducible refine aB (fun hq => ?_) (fun hq => ?_) | with_reducible refine az (by first | omega | grind [bN]) ?_ | with_reducible refine aJ ?_ | with_reducible refine bS ?_ | with_reducible refine cZ ?_ | with_reducible refine df ?_ | with_reducible refine dh ?_ | with_reducible refine aj ?_)
  all_goals grind [Nxt,zm,bN]
 unfold bT;refine gu h1 (fun r hr => ?_)
 repeat' (first | contradiction | with_reducible refine aB (fun hq => ?_) (fun hq => ?_) | with_reducible refine az (by first | omega | grind [bN]) ?_ | with_reducible refine aJ ?_ | with_reducible refine bS ?_ | with_reducible refine cZ ?_ | with_reducible refine df ?_ | with_reducible refine dh ?_ | with_reducible refine aj ?_)
 grind
theorem wh {l:List Txn} {i:Nat} (hi:i < l.length) (hl:l.length < 2 ^ 61):Tri (bz (di l 0 (i:Int)) (idx l (i:Int))) (fun r=>r=true↔tO l i):=by
 have hf:=Cv hi hl;have hlen:(di l 0 (i:Int)).length=i:=by rw [nk (by omega)]; simp; omega
 have hx:0 < i→idx (di l 0 (i:Int)) (w64 ((i:Int) - 1))=idx l ((i - 1:Nat):Int):=fun h=>by
  rw [qW (by omega) (by omega),nk (by omega),oW (by omega)]
 have hw:0 < i→w64 ((i:Int) - 1)=((i - 1:Nat):Int):=fun h=>qW (by omega) (by omega);unfold bz lH lG lF jD tO
 simp only [cond_true,cond_false,hlen]
 repeat' (first | contradiction | with_reducible refine aB (fun hq => ?_) (fun hq => ?_) | with_reducible refine az (by first | omega | grind [bN]) ?_ | with_reducible refine aJ ?_ | with_reducible refine bS ?_ | with_reducible refine cZ ?_ | with_reducible refine df ?_ | with_reducible refine dh ?_ | with_reducible refine aj ?_ | refine gu hf (fun r hr => ?_))
 all_goals grind
theorem rZ {l:List Txn} {i:Nat} (hi:i < l.length) (hl:l.length < 2 ^ 61):Tri (aD l (i:Int)) (fun r=>r=true↔tO l i):=by
 have h1:Tri (iter (iA l (i:Int)) 0) (fun r=>r=true↔zm l i):=by
  refine mD i (fun j => ¬ ((idx l (j:Int)).Proc=(idx l (i:Int)).Proc∧((idx l (j:Int)).To = -1∨(idx l (j:Int)).To ≥ (idx l (i:Int)).From))) ?_;intro k hk hJ;unfold iA fH
  simp only [cond_true,cond_false]
  repeat' (first | contradiction | with_reducible refine aB (fun hq => ?_) (fun hq => ?_) | with_reducible refine az (by first | omega | grind [bN]) ?_ | with_reducible refine aJ ?_ | with_reducible refine bS ?_ | with_reducible refine cZ ?_ | with_reducible refine df ?_ | with_reducible refine dh ?_ | with_reducible refine aj ?_)
  all_goals grind [Nxt,zm,bN]
 have hw:0 < i→w64 ((i:Int) - 1)=((i - 1:Nat):Int):=fun h=>qW (by omega) (by omega);unfold aD bW iB tO
 simp only [cond_true,cond_false]
 repeat' (first | contradiction | with_reducible refine aB (fun hq => ?_) (fun hq => ?_) | with_reducible refine az (by first | omega | grind [bN]) ?_ | with_reducible refine aJ ?_ | with_reducible refine bS ?_ | with_reducible refine cZ ?_ | with_reducible refine df ?_ | with_reducible refine dh ?_ | with_reducible refine aj ?_ | refine dW h1 (fun r hr => ?_))
 all_goals grind
def BZ (l:List ByteArray) (s:ByteArray) (r:Int):Prop :=
 (r = -1∧∀ j:Nat,j < l.length→idx l (j:Int)≠s)∨(∃ k:Nat,r=(k:Int)∧k < l.length∧idx l (k:Int)=s∧∀ j:Nat,j < k→idx l (j:Int)≠s)
theorem xe {l:List ByteArray} {s:ByteArray} (hl:l.length < 2 ^ 61):Tri (dD l s) (BZ l s):=by
 unfold dD;refine mD l.length (fun j=>idx l (j:Int)≠s) ?_;intro k hk hJ;unfold kW
 dsimp only
 repeat' (first | contradiction | with_reducible refine aB (fun hq => ?_) (fun hq => ?_) | with_reducible refine az (by first | omega | grind [bN]) ?_ | with_reducible refine aJ ?_ | with_reducible refine bS ?_ | with_reducible refine cZ ?_ | with_reducible refine df ?_ | with_reducible refine dh ?_ | with_reducible refine aj ?_)
 ·exact .inr ⟨k,rfl,by omega,by assumption,hJ⟩
 ·grind [Nxt,bN]
 ·exact .inl ⟨rfl,fun j hj=>hJ j (by omega)⟩
def vg (l:List ByteArray) (i:Nat):Prop:=1≤(idx l (i:Int)).size∧(idx l (i:Int)).size≤32∧∀ j:Nat,j < i→idx l (j:Int)≠idx l (i:Int)
def mo (l:List ByteArray):Prop:=l.length≤32∧∀ i:Nat,i < l.length→vg l i
theorem zb {l:List ByteArray} {s:ByteArray} (hl:l.length < 2 ^ 61):Tri (slices_Contains_string l s) (fun r=>r=true↔∃ j:Nat,j < l.length∧idx l (j:Int)=s):=by
 have h1:Tri (slices_Index_string l s) (fun r=>0≤r↔∃ j:Nat,j < l.length∧idx l (j:Int)=s):=by
  unfold slices_Index_string;refine mD l.length (fun j=>idx l (j:Int)≠s) ?_;intro k hk hJ;unfold jm
  dsimp only
  repeat' (first | contradiction | with_reducible refine aB (fun hq => ?_) (fun hq => ?_) | with_reducible refine az (by first | omega | grind [bN]) ?_ | with_reducible refine aJ ?_ | with_reducible refine bS ?_ | with_reducible refine cZ ?_ | with_reducible refine df ?_ | with_reducible refine dh ?_ | with_reducible refine aj ?_)
  all_goals grind [Nxt,bN]
 unfold slices_Contains_string;refine gu h1 (fun r hr => ?_)
 repeat' (first | contradiction | with_reducible refine aB (fun hq => ?_) (fun hq => ?_) | with_reducible refine az (by first | omega | grind [bN]) ?_ | with_reducible refine aJ ?_ | with_reducible refine bS ?_ | with_reducible refine cZ ?_ | with_reducible refine df ?_ | with_reducible refine dh ?_ | with_reducible refine aj ?_)
 grind
theorem yw {l:List ByteArray} (hl:l.length < 2 ^ 61):Tri (bK l) (fun r=>r=true↔mo l):=by
 unfold bK;refine mD l.length (vg l) ?_;intro k hk hJ;unfold kw fV
 simp only [cond_true,cond_false]
 have hf:Tri (dD (di l 0 (k:Int)) (idx l (k:Int))) (fun r=>0≤r↔∃ j:Nat,j < k∧idx l (j:Int)=idx l (k:Int)):=by
  rw [nk (by omega)]
  refine dW (xe (by simp; omega)) (fun r hr => ?_);have ht:(l.take k).length=k:=by simp; omega
  have hx:∀ j:Nat,j < k→idx (l.take k) (j:Int)=idx l (j:Int):=fun j h=>oW h;unfold BZ at hr
  rw [ht] at hr
  grind
 have hN:mo l→k < l.length→vg l k:=fun h hk=>h.2 k hk
 repeat' (first | contradiction | with_reducible refine aB (fun hq => ?_) (fun hq => ?_) | with_reducible refine az (by first | omega | grind [bN]) ?_ | with_reducible refine aJ ?_ | with_reducible refine bS ?_ | with_reducible refine cZ ?_ | with_reducible refine df ?_ | with_reducible refine dh ?_ | with_reducible refine aj ?_ | refine gu hf (fun r hr => ?_))
 all_goals (have hNk:vg l k↔(1≤(idx l (k:Int)).size∧(idx l (k:Int)).size≤32∧∀ j:Nat,j < k→idx l (j:Int)≠idx l (k:Int)):=Iff.rfl)
 all_goals grind [Nxt,mo,bN]
end Go.Proofs.YtnlkggppokcmfaaT
namespace Go.Proofs.YtnlkggppokcmfaaT
open Go Go.Proofs Go.Proofs.YtnlkggppokcmfaaE
set_option linter.unusedVariables false
set_option linter.unusedSimpArgs false
def typ (k:Int):Int:=(k - 1) % 4 + 1
theorem tQ {k:Int} (h1:1≤k) (h2:k≤8):kP k=some (typ k):=by
 have:k=1∨k=2∨k=3∨k=4∨k=5∨k=6∨k=7∨k=8:=by omega
 rcases this with h | h | h | h | h | h | h | h <;> subst h <;> decide
theorem xS {k:Int} (h1:1≤k) (h2:k≤8):gm k=some (typ k):=by
 have:k=1∨k=2∨k=3∨k=4∨k=5∨k=6∨k=7∨k=8:=by omega
 rcases this with h | h | h | h | h | h | h | h <;> subst h <;> decide
structure Sim (g:aS) (b:ax) (n:Nat):Prop where
 keys:g.keys=b.keys
 types:g.types=b.types
 len:b.keys.length≤32
 tl:b.types.length=b.keys.length
 wl:b.wrote.length=b.keys.length
 il:b.incs.length=b.keys.length
 ll:b.last_.length=b.keys.length
 nd:∀ i j:Nat,i < b.keys.length→j < b.keys.length→idx b.keys (i:Int)=idx b.keys (j:Int)→i=j
 has:∀ s,jX g.at_ s=true↔∃ j:Nat,j < b.keys.length∧idx b.keys (j:Int)=s
 at_:∀ j:Nat,j < b.keys.length→mat g.at_ (idx b.keys (j:Int))=(j:Int)
 facts:∀ j:Nat,j < b.keys.length→∀ a,jX g.facts ⟨idx b.keys (j:Int),a⟩=true↔∃ m:Nat,m < (idx b.wrote (j:Int)).length∧idx (idx b.wrote (j:Int)) (m:Int)=a
 fout:∀ s a,jX g.facts ⟨s,a⟩=true→∃ j:Nat,j < b.keys.length∧idx b.keys (j:Int)=s
 wn:∀ j:Nat,j < b.keys.length→(idx b.wrote (j:Int)).length≤n
 incs:∀ j:Nat,j < b.keys.length→((mat g.incs (idx b.keys (j:Int))).length:Int)=idx b.incs (j:Int)
 i8:∀ j:Nat,j < b.keys.length→(mat g.incs (idx b.keys (j:Int))).length≤8
 iout:∀ s,(∀ j:Nat,j < b.keys.length→idx b.keys (j:Int)≠s)→mat g.incs s=[]
 last:∀ j:Nat,j < b.keys.length→((mat g.incs (idx b.keys (j:Int))).length=0→idx b.last_ (j:Int) = -1) ∧
  (0 < (mat g.incs (idx b.keys (j:Int))).length→idx b.last_ (j:Int)=idx (mat g.incs (idx b.keys (j:Int))) (((mat g.incs (idx b.keys (j:Int))).length - 1:Nat):Int))
theorem Sim.start:Sim ⟨[],[],[],[],[]⟩ ⟨[],[],[],[],[]⟩ 0:=by
 refine ⟨rfl,rfl,by simp,rfl,rfl,rfl,rfl,?_,?_,?_,?_,?_,?_,?_,?_,?_,?_⟩
 all_goals simp [Dv,Fs]
 rfl
theorem Sim.mono {g:aS} {b:ax} {n m:Nat} (h:Sim g b n) (hm:n≤m):Sim g b m :=
 { h with wn:=fun j hj=>Nat.le_trans (h.wn j hj) hm }
theorem Sim.new {g:aS} {b:ax} {n:Nat} (h:Sim g b n) {s:ByteArray} {t:Int} (hn:∀ j:Nat,j < b.keys.length→idx b.keys (j:Int)≠s) (a1:b.keys.length < 32) :
  Sim ⟨g.keys++[s],fO g.at_ s (g.keys.length:Int),g.types++[t],g.facts,g.incs⟩ ⟨b.keys++[s],b.types++[t],b.wrote++[[]],b.incs++[0],b.last_++[-1]⟩ n:=by
 have hk:=h.keys;have hl:(b.keys++[s]).length=b.keys.length + 1:=by simp
 have k1:∀ j:Nat,j < b.keys.length→idx (b.keys++[s]) (j:Int)=idx b.keys (j:Int):=fun j hj=>iG hj;have k2:idx (b.keys++[s]) ((b.keys.length:Nat):Int)=s:=iH rfl;have w1:∀ j:Nat,j < b.keys.length→idx (b.wrote++[[]]) (j:Int)=idx b.wrote (j:Int):=fun j hj=>iG (by rw [h.wl]; exact hj);have w2:idx (b.wrote++[[]]) ((b.keys.length:Nat):Int)=[]:=iH h.wl.symm;have i1:∀ j:Nat,j < b.keys.length→idx (b.incs++[0]) (j:Int)=idx b.incs (j:Int):=fun j hj=>iG (by rw [h.il]; exact hj);have i2:idx (b.incs++[0]) ((b.keys.length:Nat):Int)=0:=iH h.il.symm;have l1:∀ j:Nat,j < b.keys.length→idx (b.last_++[-1]) (j:Int)=idx b.last_ (j:Int):=fun j hj=>iG (by rw [h.ll]; exact hj);have l2:idx (b.last_++[-1]) ((b.keys.length:Nat):Int) = -1:=iH h.ll.symm;have a0:=h.iout s hn;have cut:∀ j:Nat,j < b.keys.length + 1→j < b.keys.length∨j=b.keys.length:=by omega
 refine ⟨by simp [hk],by simp [h.types],by simp; omega,by simp [h.tl],by simp [h.wl],by simp [h.il],by simp [h.ll],?_,?_,?_,?_,?_,?_,?_,?_,?_,?_⟩
 ·intro i j hi hj he
  dsimp only at hi hj he
  rw [hl] at hi hj
  have:=h.nd i j;rcases cut i hi with hi' | hi' <;> rcases cut j hj with hj' | hj' <;> grind
 ·intro x
  dsimp only
  rw [yF,hl,h.has]
  constructor
  ·rintro (rfl | ⟨j,hj,he⟩)
   ·exact ⟨_,Nat.lt_succ_self _,k2⟩
   ·exact ⟨j,by omega,(k1 j hj).trans he⟩
  ·rintro ⟨j,hj,he⟩;rcases cut j hj with hj' | hj'
   ·exact .inr ⟨j,hj',(k1 j hj') ▸ he⟩
   ·subst hj'; exact .inl (k2.symm.trans he).symm
 ·intro j hj
  dsimp only at hj ⊢
  rw [hl] at hj
  rw [rO,hk]
  rcases cut j hj with hj' | hj'
  ·rw [k1 j hj',if_neg (hn j hj')]; exact h.at_ j hj'
  ·subst hj'; rw [k2,if_pos rfl]
 ·intro j hj a
  dsimp only at hj ⊢
  rw [hl] at hj
  rcases cut j hj with hj' | hj'
  ·rw [k1 j hj',w1 j hj']; exact h.facts j hj' a
  ·subst hj'
   rw [k2,w2]
   constructor
   ·intro hh;obtain ⟨i,hi,he⟩:=h.fout s a hh;exact absurd he (hn i hi)
   ·rintro ⟨m,hm,_⟩; simp at hm
 ·intro x a hh;obtain ⟨i,hi,he⟩:=h.fout x a hh;exact ⟨i,by simp; omega,(k1 i hi).trans he⟩
 ·intro j hj
  dsimp only at hj ⊢
  rw [hl] at hj
  rcases cut j hj with hj' | hj'
  ·rw [w1 j hj']; exact h.wn j hj'
  ·subst hj'; rw [w2]; simp
 ·intro j hj
  dsimp only at hj ⊢
  rw [hl] at hj
  rcases cut j hj with hj' | hj'
  ·rw [k1 j hj',i1 j hj']; exact h.incs j hj'
  ·subst hj'; rw [k2,i2,a0]; rfl
 ·intro j hj
  dsimp only at hj ⊢
  rw [hl] at hj
  rcases cut j hj with hj' | hj'
  ·rw [k1 j hj']; exact h.i8 j hj'
  ·subst hj'; rw [k2,a0]; simp
 ·intro x hx
  dsimp only at hx ⊢
  rw [hl] at hx
  exact h.iout x (fun j hj=>by rw [← k1 j hj]; exact hx j (by omega))
 ·intro j hj
  dsimp only at hj ⊢
  rw [hl] at hj
  rcases cut j hj with hj' | hj'
  ·rw [k1 j hj',l1 j hj']; exact h.last j hj'
  ·subst hj'; rw [k2,l2,a0]; simp
theorem Sim.write {g:aS} {b:ax} {n k:Nat} (h:Sim g b n) {s:ByteArray} {a:Int} (hk:k < b.keys.length) (hs:idx b.keys (k:Int)=s) :
  Sim ⟨g.keys,g.at_,g.types,fO g.facts ⟨s,a⟩ (),g.incs⟩ ⟨b.keys,b.types,b.wrote.set k (idx b.wrote (k:Int)++[a]),b.incs,b.last_⟩ (n + 1):=by
 have w1:∀ j:Nat,idx (b.wrote.set k (idx b.wrote (k:Int)++[a])) (j:Int)=if j=k then idx b.wrote (k:Int)++[a] else idx b.wrote (j:Int):=fun j=>lw (by rw [h.wl]; exact hk);refine ⟨h.keys,h.types,h.len,h.tl,by simp [h.wl],h.il,h.ll,h.nd,h.has,h.at_,?_,?_,?_,h.incs,h.i8,h.iout,h.last⟩
 ·intro j hj x
  dsimp only at hj ⊢
  rw [yF,w1 j,h.facts j hj]
  by_cases e:j=k
  ·subst e
   rw [if_pos rfl,hs]
   constructor
   ·rintro (he | ⟨m,hm,he⟩)
    ·have:x=a:=by injection he
     subst this;exact ⟨_,by simp,iH rfl⟩
    ·exact ⟨m,by simp; omega,(iG hm).trans he⟩
   ·rintro ⟨m,hm,he⟩;rcases Nat.lt_or_ge m (idx b.wrote (j:Int)).length with h1 | h1
    ·exact .inr ⟨m,h1,(iG h1).symm.trans he⟩
    ·simp at hm
     rw [iH (by omega)] at he
     rw [he]; exact .inl rfl
  ·rw [if_neg e]
   constructor
   ·rintro (he | hh)
    ·injection he with h1 h2
     exact absurd (h.nd j k hj hk (h1.trans hs.symm)) e
    ·exact hh
   ·exact .inr
 ·intro x y hh
  dsimp only at hh ⊢
  rcases yF.1 hh with he | hh
  ·injection he with h1 h2
   exact ⟨k,hk,hs.trans h1.symm⟩
  ·exact h.fout x y hh
 ·intro j hj
  dsimp only at hj ⊢
  rw [w1 j]
  have:=h.wn j hj
  split
  ·rename_i e; subst e; simp; omega
  ·omega
theorem Sim.inc {g:aS} {b:ax} {n k:Nat} (h:Sim g b n) {s:ByteArray} {a:Int} (hk:k < b.keys.length) (hs:idx b.keys (k:Int)=s) (h8:(mat g.incs s).length < 8) :
  Sim ⟨g.keys,g.at_,g.types,g.facts,fO g.incs s (mat g.incs s++[a])⟩ ⟨b.keys,b.types,b.wrote,b.incs.set k (idx b.incs (k:Int) + 1),b.last_.set k a⟩ n:=by
 have i1:∀ j:Nat,idx (b.incs.set k (idx b.incs (k:Int) + 1)) (j:Int)=if j=k then idx b.incs (k:Int) + 1 else idx b.incs (j:Int):=fun j=>lw (by rw [h.il]; exact hk);have l1:∀ j:Nat,idx (b.last_.set k a) (j:Int)=if j=k then a else idx b.last_ (j:Int):=fun j=>lw (by rw [h.ll]; exact hk);have hne:∀ j:Nat,j < b.keys.length→j≠k→idx b.keys (j:Int)≠s:=fun j hj e he=>e (h.nd j k hj hk (he.trans hs.symm));refine ⟨h.keys,h.types,h.len,h.tl,h.wl,by simp [h.il],by simp [h.ll],h.nd,h.has,h.at_,h.facts,h.fout,h.wn,?_,?_,?_,?_⟩
 ·intro j hj
  dsimp only at hj ⊢
  rw [rO,i1 j]
  by_cases e:j=k
  ·subst e
   rw [if_pos hs,if_pos rfl,← h.incs j hj,hs]; simp
  ·rw [if_neg (hne j hj e),if_neg e]; exact h.incs j hj
 ·intro j hj
  dsimp only at hj ⊢
  rw [rO]
  by_cases e:j=k
  ·subst e
   rw [if_pos hs]; simp; omega
  ·rw [if_neg (hne j hj e)]; exact h.i8 j hj
 ·intro x hx
  dsimp only at hx ⊢
  rw [rO,if_neg (fun e=>hx k hk (hs.trans e.symm))]
  exact h.iout x hx
 ·intro j hj
  dsimp only at hj ⊢
  rw [rO,l1 j]
  by_cases e:j=k
  ·subst e
   rw [if_pos hs,if_pos rfl]
   refine ⟨fun h0=>by simp at h0,fun _ => ?_⟩
   rw [iH (by simp)]
  ·rw [if_neg (hne j hj e),if_neg e]; exact h.last j hj
theorem Bf {c:Call} {who:Int} {a2:List ByteArray} {a3:List Int} {a0:List (List Int)} {a1 a4:List Int} {k:Nat} {Q:Int×ax→Prop} (hk:k < a0.length) (hb:(idx a0 (k:Int)).length≤4096)
  (h1:(∃ m:Nat,m < (idx a0 (k:Int)).length∧idx (idx a0 (k:Int)) (m:Int)=c.Arg)→Q (3,⟨a2,a3,a0,a1,a4⟩))
  (h2:(¬ ∃ m:Nat,m < (idx a0 (k:Int)).length∧idx (idx a0 (k:Int)) (m:Int)=c.Arg)→Tri (dG c who a2 a3 a1 a4 (k:Int) (a0.set k (idx a0 (k:Int)++[c.Arg]))) Q) :
  Tri (iter (fA c who a2 a3 a0 a1 a4 (k:Int)) 0) Q:=by
 refine mD (idx a0 (k:Int)).length (fun m=>idx (idx a0 (k:Int)) (m:Int)≠c.Arg) ?_;intro m hm hJ;unfold fA
 dsimp only
 rw [Int.toNat_natCast]
 repeat' (first | contradiction | with_reducible refine aB (fun hq => ?_) (fun hq => ?_) | with_reducible refine az (by first | omega | grind [bN]) ?_ | with_reducible refine aJ ?_ | with_reducible refine bS ?_ | with_reducible refine cZ ?_ | with_reducible refine df ?_ | with_reducible refine dh ?_ | with_reducible refine aj ?_)
 ·exact h1 ⟨m,by omega,by assumption⟩
 ·grind [Nxt,bN]
 ·exact h2 (by grind)
def Both (r:Int×aS) (n:Nat) (r':Int×ax):Prop:=r.1=r'.1∧(r.1=0→Sim r.2 r'.2 n)
def Bg (b:ax) (c:Call) (who:Int) (k:Nat) (r:Int×ax):Prop :=
 (idx b.types (k:Int)≠typ c.Kind∧r=(50,b)) ∨
 (idx b.types (k:Int)=typ c.Kind∧(c.Kind=2∨c.Kind=3)∧(∃ m:Nat,m < (idx b.wrote (k:Int)).length∧idx (idx b.wrote (k:Int)) (m:Int)=c.Arg)∧r=(3,b)) ∨
 (idx b.types (k:Int)=typ c.Kind∧(c.Kind=2∨c.Kind=3)∧(¬ ∃ m:Nat,m < (idx b.wrote (k:Int)).length∧idx (idx b.wrote (k:Int)) (m:Int)=c.Arg) ∧
  r=(0,⟨b.keys,b.types,b.wrote.set k (idx b.wrote (k:Int)++[c.Arg]),b.incs,b.last_⟩)) ∨
 (idx b.types (k:Int)=typ c.Kind∧c.Kind=4∧idx b.last_ (k:Int)≠who∧idx b.incs (k:Int) + 1 > 8∧r.1=51) ∨
 (idx b.types (k:Int)=typ c.Kind∧c.Kind=4∧idx b.last_ (k:Int)≠who∧idx b.incs (k:Int) + 1≤8 ∧
  r=(0,⟨b.keys,b.types,b.wrote,b.incs.set k (idx b.incs (k:Int) + 1),b.last_.set k who⟩)) ∨
 (idx b.types (k:Int)=typ c.Kind∧c.Kind=4∧idx b.last_ (k:Int)=who∧r=(0,b)) ∨
 (idx b.types (k:Int)=typ c.Kind∧c.Kind≠2∧c.Kind≠3∧c.Kind≠4∧r=(0,b))
theorem zK {b:ax} {k:Nat} {c:Call} {who:Int} (hk:k < b.keys.length) (t1:b.types.length=b.keys.length) (t2:b.wrote.length=b.keys.length) (t3:b.incs.length=b.keys.length)
  (t4:b.last_.length=b.keys.length) (hwr:(idx b.wrote (k:Int)).length≤4096) (hin:0≤idx b.incs (k:Int)∧idx b.incs (k:Int)≤8)
  (h1:1≤c.Kind) (h8:c.Kind≤8):Tri (cK c who b.keys b.types b.wrote b.incs b.last_ (k:Int)) (Bg b c who k):=by
 have e1:w64 (idx b.incs (k:Int) + 1)=idx b.incs (k:Int) + 1:=bN (by omega) (by omega);have e2:idx (b.incs.set k (idx b.incs (k:Int) + 1)) (k:Int)=idx b.incs (k:Int) + 1:=by rw [lw (by omega),if_pos rfl]
 unfold cK fB dG eB eu
 simp only [cond_true,cond_false,xS h1 h8,Int.toNat_natCast,e1,e2]
 repeat' (first | contradiction | with_reducible refine aB (fun hq => ?_) (fun hq => ?_) | with_reducible refine az (by first | omega | grind [bN]) ?_ | with_reducible refine aJ ?_ | with_reducible refine bS ?_ | with_reducible refine cZ ?_ | with_reducible refine df ?_ | with_reducible refine dh ?_ | with_reducible refine aj ?_ | refine Bf (by omega) hwr (fun h => ?_) (fun h => ?_))
 all_goals try unfold dG eB eu
 all_goals try simp only [cond_true,cond_false,Int.toNat_natCast,e1,e2]
 repeat' (first | contradiction | with_reducible refine aB (fun hq => ?_) (fun hq => ?_) | with_reducible refine az (by first | omega | grind [bN]) ?_ | with_reducible refine aJ ?_ | with_reducible refine bS ?_ | with_reducible refine cZ ?_ | with_reducible refine df ?_ | with_reducible refine dh ?_ | with_reducible refine aj ?_)
 all_goals grind [Bg]
theorem enter_at {g:aS} {b:ax} {n k:Nat} {a0:aS} {c:Call} {who:Int} (h:Sim g b n) (hf:a0.facts=g.facts) (hi:a0.incs=g.incs) (hk:k < b.keys.length) (hs:idx b.keys (k:Int)=c.Key)
  (h1:1≤c.Kind) (h8:c.Kind≤8) (hw:0≤who) (hn:n≤2048) :
  Tri (fF a0 c who g.keys g.at_ g.types (k:Int)) (fun r=>Tri (cK c who b.keys b.types b.wrote b.incs b.last_ (k:Int)) (Both r (n + 1))):=by
 obtain ⟨gk,ga,gt,gf,gi⟩:=g
 dsimp only at hf hi
 have htl:=h.types;have hkk:=h.keys
 dsimp only at htl hkk ⊢
 subst htl hkk;have t1:=h.tl;have t2:=h.wl;have t3:=h.il;have t4:=h.ll;have hfa:=h.facts k hk c.Arg;have hin:=h.incs k hk;have a1:=h.i8 k hk;have hla:=h.last k hk;have hwr:=h.wn k hk
 rw [hs] at hfa hin a1 hla
 dsimp only at hfa hin a1 hla
 obtain ⟨r',hr',spec⟩:=zK (who:=who) hk t1 t2 t3 t4 (by omega) (by omega) h1 h8;have s0:=h.mono (Nat.le_succ n);have s1:=h.write (a:=c.Arg) hk hs;have s2:(mat gi c.Key).length < 8→_:=fun hl=>(h.inc (a:=who) hk hs hl).mono (Nat.le_succ n)
 dsimp only at s1 s2
 have e3:0 < (mat gi c.Key).length→w64 (((mat gi c.Key).length:Int) - 1)=(((mat gi c.Key).length - 1:Nat):Int):=fun h=>qW (by omega) (by omega);have m1:mat (fO gi c.Key (mat gi c.Key++[who])) c.Key=mat gi c.Key++[who]:=by rw [rO,if_pos rfl]
 unfold fF ik jH ig ib fE
 simp only [cond_true,cond_false,tQ h1 h8,hf,hi,m1]
 repeat' (first | contradiction | with_reducible refine aB (fun hq => ?_) (fun hq => ?_) | with_reducible refine az (by first | omega | grind [bN]) ?_ | with_reducible refine aJ ?_ | with_reducible refine bS ?_ | with_reducible refine cZ ?_ | with_reducible refine df ?_ | with_reducible refine dh ?_ | with_reducible refine aj ?_)
 all_goals refine ⟨r',hr',?_⟩
 all_goals unfold Bg at spec
 all_goals simp only [Both]
 all_goals grind
theorem Bh {g:aS} {b:ax} {n:Nat} {c:Call} {who:Int} (h:Sim g b n) (h1:1≤c.Kind) (h8:c.Kind≤8) (hw:0≤who) (hn:n≤2048) :
  Tri (ak g c who) (fun r=>Tri (af b c who) (Both r (n + 1))):=by
 have hl:=h.len;have t1:=h.tl;have t2:=h.wl;have t3:=h.il;have t4:=h.ll;have hk:=h.keys;have ht:=h.types;obtain ⟨r0,a3,hf⟩:=xe (l:=b.keys) (s:=c.Key) (by omega);rcases hf with ⟨rfl,hno⟩ | ⟨k,rfl,a2,a1,_⟩
 ·have hm:¬ jX g.at_ c.Key=true:=fun hh=>by
   obtain ⟨j,hj,he⟩:=(h.has c.Key).1 hh;exact hno j hj he
  unfold ak af jI
  simp only [a3,tQ h1 h8,hk,ht]
  refine aB (fun _ => ?_) (fun hh=>absurd hm hh);refine aB (fun a4 => ?_) (fun a4 => ?_)
  ·refine aj (bS ?_)
   repeat' (first | contradiction | with_reducible refine aB (fun hq => ?_) (fun hq => ?_) | with_reducible refine az (by first | omega | grind [bN]) ?_ | with_reducible refine aJ ?_ | with_reducible refine bS ?_ | with_reducible refine cZ ?_ | with_reducible refine df ?_ | with_reducible refine dh ?_ | with_reducible refine aj ?_)
   ·exact ⟨rfl,fun h=>by cases h⟩
   ·omega
  ·have hS:=h.new (s:=c.Key) (t:=typ c.Kind) hno (by omega)
   rw [hk,ht] at hS
   have he:=enter_at (a0:=g) (who:=who) hS rfl rfl (k:=b.keys.length) (by simp) (iH rfl) h1 h8 hw hn
   dsimp only at he
   refine az (by omega) (bS (az (by omega) ?_));refine dW he (fun r hr => ?_);unfold fD fC
   simp only [xS h1 h8]
   repeat' (first | contradiction | with_reducible refine aB (fun hq => ?_) (fun hq => ?_) | with_reducible refine az (by first | omega | grind [bN]) ?_ | with_reducible refine aJ ?_ | with_reducible refine bS ?_ | with_reducible refine cZ ?_ | with_reducible refine df ?_ | with_reducible refine dh ?_ | with_reducible refine aj ?_ | exact hr)
   omega
 ·have hm:jX g.at_ c.Key=true:=(h.has c.Key).2 ⟨k,a2,a1⟩;have hat:mat g.at_ c.Key=(k:Int):=by rw [← a1]; exact h.at_ k a2
  have he:=enter_at (a0:=g) (who:=who) h rfl rfl a2 a1 h1 h8 hw hn;unfold ak af
  simp only [a3,hat]
  refine aB (fun hh=>absurd hm hh) (fun _ => ?_);refine dW he (fun r hr=>bS ?_)
  repeat' (first | contradiction | with_reducible refine aB (fun hq => ?_) (fun hq => ?_) | with_reducible refine az (by first | omega | grind [bN]) ?_ | with_reducible refine aJ ?_ | with_reducible refine bS ?_ | with_reducible refine cZ ?_ | with_reducible refine df ?_ | with_reducible refine dh ?_ | with_reducible refine aj ?_ | exact hr)
abbrev GS:=List ByteArray×(List (ByteArray×Int))×List Int×(List (bO×Unit))×(List (ByteArray×(List Int)))×Int
abbrev BS:=List ByteArray×List Int×(List (List Int))×List Int×List Int×Int
def Ah (g:aS) (x:Int):GS:=(g.keys,g.at_,g.types,g.facts,g.incs,x)
def wm (b:ax) (x:Int):BS:=(b.keys,b.types,b.wrote,b.incs,b.last_,x)
def Go1 (i n:Nat):GS ⊕ (Int ⊕ Int)→(List Call×Int) ⊕ (BS ⊕ Int)→Prop
 | .inl s,.inr (.inl t)=>∃ g b,s=Ah g ((i + 1:Nat):Int)∧t=wm b ((i + 1:Nat):Int)∧Sim g b n
 | .inr (.inr a),.inr (.inr b)=>a=1∧b=1
 | _,_=>False
theorem enters {g:aS} {b:ax} {n i:Nat} {l:List Call} {y:Event×Bool} (h:Sim g b n) (hy:y.1.Calls=l) (hl:l.length≤16) (hi:i < 64) (hn:n≤1024) (hc:rM l (fun c=>1≤c.Kind∧c.Kind≤8)) :
  Tri (iter (lW (i:Int) y) (Ah g 0)) (fun x=>Tri (iter (dR (i:Int) l) (wm b 0)) (Go1 i (n + 16) x)):=by
 refine uq l.length (fun k s t=>∃ g b,s=Ah g (k:Int)∧t=wm b (k:Int)∧Sim g b (n + k)) (Nat.zero_le _) ⟨g,b,rfl,rfl,h⟩ ?_;rintro k s t hk ⟨g,b,rfl,rfl,hS⟩;unfold lW dR Ah wm
 dsimp only
 rw [hy]
 refine aB (fun h => ?_) (fun h => ?_)
 ·refine az (by omega) ?_;obtain ⟨r,hr,r',hr',hb⟩:=Bh (who:=(i:Int)) hS (hc k (by omega)).1 (hc k (by omega)).2 (by omega) (by omega);refine dw hr ?_;have hw:w64 ((k:Int) + 1)=((k + 1:Nat):Int):=dE (by omega)
  rw [hw]
  repeat' (first | contradiction | with_reducible refine aB (fun hq => ?_) (fun hq => ?_) | with_reducible refine az (by first | omega | grind [bN]) ?_ | with_reducible refine aJ ?_ | with_reducible refine bS ?_ | with_reducible refine cZ ?_ | with_reducible refine df ?_ | with_reducible refine dh ?_ | with_reducible refine aj ?_ | refine dw hr' ?_)
  ·exact ⟨rfl,rfl⟩
  ·exact absurd (by rw [hb.1]; omega) ‹r.1≠0›
  ·exact absurd (by rw [← hb.1]; omega) ‹r'.1≠0›
  ·exact ⟨by omega,r.2,r'.2,rfl,rfl,hb.2 (by omega)⟩
 ·have hw:w64 ((i:Int) + 1)=((i + 1:Nat):Int):=dE (by omega)
  rw [hw]
  repeat' (first | contradiction | with_reducible refine aB (fun hq => ?_) (fun hq => ?_) | with_reducible refine az (by first | omega | grind [bN]) ?_ | with_reducible refine aJ ?_ | with_reducible refine bS ?_ | with_reducible refine cZ ?_ | with_reducible refine df ?_ | with_reducible refine dh ?_ | with_reducible refine aj ?_)
  exact ⟨g,b,rfl,rfl,hS.mono (by omega)⟩
theorem zL {h:History} {i:Nat} {b:ax} {Q:BS ⊕ Int→Prop} (hi:i < h.Txns.length) (hs:yu (idx h.Txns (i:Int))) (a1:(idx h.Txns (i:Int)).Ops.length≤16)
  (h1:¬ (rJ h (idx h.Txns (i:Int))∧ve (vZ h (idx h.Txns (i:Int))))→Q (.inr 1))
  (h2:rJ h (idx h.Txns (i:Int))→ve (vZ h (idx h.Txns (i:Int)))→Tri (iter (dR (i:Int) (cz h (idx h.Txns (i:Int)))) (wm b 0)) (fun x=>match x with | .inl _=>False | .inr y=>Q y)) :
  Tri (iter (dS h b.keys b.types b.wrote b.incs b.last_ (i:Int)) ([],0)) Q:=by
 generalize ht:idx h.Txns (i:Int)=t at hs a1 h1 h2;refine Cg t.Ops.length (fun k l=>l=(cz h t).take k∧∀ j:Nat,j < k→0≤(idx t.Ops (j:Int)).Key∧(idx t.Ops (j:Int)).Key < (h.Keys.length:Int)) ⟨rfl,by omega⟩ ?_
 rintro k l hk ⟨rfl,hJ⟩;have hlen:((cz h t).take k).length=k:=by simp [cz]; omega
 unfold dS iO kz
 simp only [cond_true,cond_false,hlen,ht]
 have hsm:=xN (e:=⟨0,t.Status,(cz h t).take k⟩) (hs.small k);have hfull:k=t.Ops.length→(cz h t).take k=cz h t:=fun e=>List.take_of_length_le (by simp [cz]; omega);have hnext:k < t.Ops.length→(cz h t).take (k + 1)=(cz h t).take k++[wZ h (idx t.Ops (k:Int))]:=fun hk=>by
  rw [jg (by simpa [cz] using hk),cz,ww hk]
 have hw:w64 ((k:Int) + 1)=((k + 1:Nat):Int):=dE (by omega)
 rw [hw]
 repeat' (first | contradiction | with_reducible refine aB (fun hq => ?_) (fun hq => ?_) | with_reducible refine az (by first | omega | grind [bN]) ?_ | with_reducible refine aJ ?_ | with_reducible refine bS ?_ | with_reducible refine cZ ?_ | with_reducible refine df ?_ | with_reducible refine dh ?_ | with_reducible refine aj ?_ | refine gu hsm (fun r hr => ?_))
 ·grind [Up2,rJ,rM]
 ·grind [Up2,rJ,rM]
 ·grind [Up2,wZ]
 ·have a0:k=t.Ops.length:=by omega
  rw [hfull a0] at hr
  refine h1 (fun hh => ?_);have:=hr.1.2 hh.2
  contradiction
 ·have a0:k=t.Ops.length:=by omega
  rw [hfull a0] at hr ⊢
  have hK:rJ _ t:=fun j hj=>hJ j (by omega);refine dW (h2 hK (hr.1.1 (by omega))) ?_;rintro (x | y) hxy
  ·exact hxy.elim
  ·exact hxy
def wo (h:History) (i:Nat):Prop:=tO h.Txns i∧rJ h (idx h.Txns (i:Int))∧ve (vZ h (idx h.Txns (i:Int)))
def tT (h:History):Prop:=h.Keys.length * 16≤140737488351232∧h.Txns.length * 56≤140737488351232∧rM h.Txns yu
theorem Cw {h:History} (hs:tT h) (hN:mo h.Keys) (a8:h.Txns.length≤32) :
  Tri (iter (kg h) (Ah ⟨[],[],[],[],[]⟩ 0)) (fun x=>Tri (iter (gq h) (wm ⟨[],[],[],[],[]⟩ 0)) (fun y=>(∃ v,x = .inr v∧v=y)∧(y=0∨y=1))):=by
 obtain ⟨a7,a9,a1⟩:=hs;refine uq h.Txns.length (fun k s t=>∃ g b,s=Ah g (k:Int)∧t=wm b (k:Int)∧Sim g b (k * 16)∧∀ j:Nat,j < k→wo h j) (Nat.zero_le _) ⟨_,_,rfl,rfl,Sim.start,fun j hj=>absurd hj (Nat.not_lt_zero _)⟩ ?_;rintro k s t hk ⟨g,b,rfl,rfl,hS,hJ⟩;unfold kg lX gq gp Ah wm
 simp only [cond_true,cond_false]
 refine aB (fun a6 => ?_) (fun a6 => ?_)
 ·have a0:k < h.Txns.length:=by omega
  obtain ⟨r,hr,a2,a5⟩:=xc (h:=h) (a1 k a0);obtain ⟨p,hp,a4⟩:=wh (l:=h.Txns) a0 (by omega);obtain ⟨p',hp',hp1'⟩:=rZ (l:=h.Txns) a0 (by omega);have hco:ve (vZ h (idx h.Txns (k:Int)))→(idx h.Txns (k:Int)).Ops.length≤16:=fun he=>by
   have:=he.2.2.1
   simpa [vZ,cz] using this
  refine az (by omega) (dw hr ?_)
  by_cases hok:wo h k
  ·have e1:r.2=true:=a2.2 ⟨hok.2.1,hok.2.2⟩;have e2:p=true:=a4.2 hok.1;have e3:p'=true:=hp1'.2 hok.1;have hc:rM (cz h (idx h.Txns (k:Int))) (fun c=>1≤c.Kind∧c.Kind≤8):=fun j hj=>⟨(hok.2.2.2.2.2 j hj).1,(hok.2.2.2.2.2 j hj).2.1⟩;obtain ⟨x,hx,y,hy,hxy⟩:=enters (y:=r) (i:=k) hS (congrArg Event.Calls (a5 e1)) hok.2.2.2.2.1 (by omega) (by omega) hc;refine aB (fun h=>absurd e1 h) (fun _ => ?_);refine az (by omega) (dw hp ?_);refine aB (fun h=>absurd e2 h) (fun _ => ?_);refine ⟨x,hx,?_⟩
   repeat' (first | contradiction | with_reducible refine aB (fun hq => ?_) (fun hq => ?_) | with_reducible refine az (by first | omega | grind [bN]) ?_ | with_reducible refine aJ ?_ | with_reducible refine bS ?_ | with_reducible refine cZ ?_ | with_reducible refine df ?_ | with_reducible refine dh ?_ | with_reducible refine aj ?_ | refine dw hp' ?_)
   ·exact absurd (hco hok.2.2) (by omega)
   ·refine zL a0 (a1 k a0) (hco hok.2.2) (fun hn=>absurd ⟨hok.2.1,hok.2.2⟩ hn) (fun _ _=>⟨y,hy,?_⟩);rcases x with s | a | a <;> rcases y with t | t | t
    ·exact hxy.elim
    ·obtain ⟨g',b',rfl,rfl,hS'⟩:=hxy;refine ⟨by omega,g',b',rfl,rfl,(show k * 16 + 16=(k + 1) * 16 by omega) ▸ hS',fun j hj => ?_⟩
     rcases Nat.lt_or_ge j k with h1 | h1
     ·exact hJ j h1
     ·rw [show j=k by omega]; exact hok
    ·exact hxy.elim
    ·exact hxy.elim
    ·exact hxy.elim
    ·exact hxy.elim
    ·exact hxy.elim
    ·exact hxy.elim
    ·obtain ⟨rfl,rfl⟩:=hxy;exact ⟨⟨1,rfl,rfl⟩,.inr rfl⟩
  ·have h1:Tri (iter (dS h b.keys b.types b.wrote b.incs b.last_ (k:Int)) ([],0)) (fun y=>p'=true→(idx h.Txns (k:Int)).Ops.length≤16→y = .inr 1) ∨ ¬ ((idx h.Txns (k:Int)).Ops.length≤16) ∨ ¬ p'=true:=by
    by_cases a3:(idx h.Txns (k:Int)).Ops.length≤16
    ·by_cases h3:p'=true
     ·refine .inl (zL a0 (a1 k a0) a3 (fun _ _ _=>rfl) (fun q1 q2=>absurd ⟨hp1'.1 h3,q1,q2⟩ hok))
     ·exact .inr (.inr h3)
    ·exact .inr (.inl a3)
   have hend:Tri (aD h.Txns (k:Int)) (fun y=>Tri (bif !y then (out (some 1):Option (BS ⊕ Int)) else bif decide ((((idx h.Txns (k:Int)).Ops).length:Int) > 16) then out (some 1) else iter (dS h b.keys b.types b.wrote b.incs b.last_ (k:Int)) ([],0)) (fun y=>y = .inr 1)):=by
    refine ⟨p',hp',?_⟩
    repeat' (first | contradiction | with_reducible refine aB (fun hq => ?_) (fun hq => ?_) | with_reducible refine az (by first | omega | grind [bN]) ?_ | with_reducible refine aJ ?_ | with_reducible refine bS ?_ | with_reducible refine cZ ?_ | with_reducible refine df ?_ | with_reducible refine dh ?_ | with_reducible refine aj ?_)
    ·rfl
    ·rfl
    ·rcases h1 with h1 | h1 | h1
     ·exact dW h1 (fun y hy=>hy (Decidable.of_not_not ‹¬¬p'=true›) (by omega))
     ·omega
     ·contradiction
   have hend2:∀ {Q:BS ⊕ Int→Prop},Q (.inr 1)→Tri ((aD h.Txns (k:Int)).bind fun y=>bif !y then (out (some 1):Option (BS ⊕ Int)) else bif decide ((((idx h.Txns (k:Int)).Ops).length:Int) > 16) then out (some 1) else iter (dS h b.keys b.types b.wrote b.incs b.last_ (k:Int)) ([],0)) Q:=by
    intro Q hQ;refine gu hend (fun y hy=>dW hy ?_);rintro _ rfl;exact hQ
   repeat' (first | contradiction | with_reducible refine aB (fun hq => ?_) (fun hq => ?_) | with_reducible refine az (by first | omega | grind [bN]) ?_ | with_reducible refine aJ ?_ | with_reducible refine bS ?_ | with_reducible refine cZ ?_ | with_reducible refine df ?_ | with_reducible refine dh ?_ | with_reducible refine aj ?_ | refine dw hp ?_)
   ·refine hend2 ?_;exact ⟨⟨1,rfl,rfl⟩,.inr rfl⟩
   ·refine hend2 ?_;exact ⟨⟨1,rfl,rfl⟩,.inr rfl⟩
   ·exact absurd ⟨a4.1 (by grind),a2.1 (by grind)⟩ hok
 ·repeat' (first | contradiction | with_reducible refine aB (fun hq => ?_) (fun hq => ?_) | with_reducible refine az (by first | omega | grind [bN]) ?_ | with_reducible refine aJ ?_ | with_reducible refine bS ?_ | with_reducible refine cZ ?_ | with_reducible refine df ?_ | with_reducible refine dh ?_ | with_reducible refine aj ?_)
  exact ⟨⟨0,rfl,rfl⟩,.inl rfl⟩
theorem xg {h:History} (hs:tT h):Tri (aN h) (fun v=>Tri (ag h) (fun v'=>v=v'∧(v=0∨v=1))):=by
 obtain ⟨a1,a4,a2⟩:=hs;obtain ⟨y,hy,hn⟩:=yw (l:=h.Keys) (by omega);have hT:=fun hN a0=>Cw (h:=h) ⟨a1,a4,a2⟩ hN a0;have hfail:¬ (mo h.Keys∧h.Txns.length≤32)→ag h=some 1:=by
  intro hno;refine kZ.1 ?_;unfold ag eU
  simp only [cond_true,cond_false]
  repeat' (first | contradiction | with_reducible refine aB (fun hq => ?_) (fun hq => ?_) | with_reducible refine az (by first | omega | grind [bN]) ?_ | with_reducible refine aJ ?_ | with_reducible refine bS ?_ | with_reducible refine cZ ?_ | with_reducible refine df ?_ | with_reducible refine dh ?_ | with_reducible refine aj ?_ | refine dw hy ?_)
  ·rfl
  ·rfl
  ·exact absurd ⟨hn.1 (Decidable.of_not_not ‹¬¬y=true›),by omega⟩ hno
 have hgood:mo h.Keys→h.Txns.length≤32→Tri (iter (kg h) (Ah ⟨[],[],[],[],[]⟩ 0)) (fun x=>Tri (ag h) (fun v'=>x = .inr v'∧(v'=0∨v'=1))):=by
  intro hN a0;refine dW (hT hN a0) (fun x hx => ?_);unfold ag eU
  simp only [cond_true,cond_false]
  have:=hn.2 hN
  repeat' (first | contradiction | with_reducible refine aB (fun hq => ?_) (fun hq => ?_) | with_reducible refine az (by first | omega | grind [bN]) ?_ | with_reducible refine aJ ?_ | with_reducible refine bS ?_ | with_reducible refine cZ ?_ | with_reducible refine df ?_ | with_reducible refine dh ?_ | with_reducible refine aj ?_ | refine dw hy ?_)
  ·omega
  ·refine dW hx (fun v hv => ?_);obtain ⟨⟨v2,rfl,rfl⟩,h2⟩:=hv;exact ⟨rfl,h2⟩
 have hbad:¬ (mo h.Keys∧h.Txns.length≤32)→Tri (ag h) (fun v'=>(1:Int)=v'∧((1:Int)=0∨(1:Int)=1)):=fun hno=>⟨1,hfail hno,rfl,.inr rfl⟩;unfold aN lY
 simp only [cond_true,cond_false]
 repeat' (first | contradiction | with_reducible refine aB (fun hq => ?_) (fun hq => ?_) | with_reducible refine az (by first | omega | grind [bN]) ?_ | with_reducible refine aJ ?_ | with_reducible refine bS ?_ | with_reducible refine cZ ?_ | with_reducible refine df ?_ | with_reducible refine dh ?_ | with_reducible refine aj ?_)
 ·exact hbad (fun hh=>by have:=hh.1.1; omega)
 ·exact hbad (fun hh=>by have:=hh.2; omega)
 ·refine mD h.Keys.length (vg h.Keys) ?_;intro k hk hJ;unfold ow jZ
  simp only [cond_true,cond_false]
  have hf:k < h.Keys.length→Tri (slices_Contains_string (di h.Keys 0 (k:Int)) (idx h.Keys (k:Int))) (fun r=>r=true↔∃ j:Nat,j < k∧idx h.Keys (j:Int)=idx h.Keys (k:Int)):=by
   intro hk'
   rw [nk (by omega)]
   refine dW (zb (by simp; omega)) (fun r hr => ?_);have ht:(h.Keys.take k).length=k:=by simp; omega
   have hx:∀ j:Nat,j < k→idx (h.Keys.take k) (j:Int)=idx h.Keys (j:Int):=fun j h=>oW h
   rw [ht] at hr
   grind
  have he:=zl (k:=idx h.Keys (k:Int));have hw:w64 ((k:Int) + 1)=((k + 1:Nat):Int):=dE (by omega)
  rw [hw]
  have hNk:vg h.Keys k↔(1≤(idx h.Keys (k:Int)).size∧(idx h.Keys (k:Int)).size≤32∧∀ j:Nat,j < k→idx h.Keys (j:Int)≠idx h.Keys (k:Int)):=Iff.rfl;have hno:k < h.Keys.length → ¬ vg h.Keys k → ¬ (mo h.Keys∧h.Txns.length≤32):=fun h1 h2 h3=>h2 (h3.1.2 k h1);refine aB (fun a3 => ?_) (fun a3 => ?_)
  ·refine az (by omega) ?_
   repeat' (first | contradiction | with_reducible refine aB (fun hq => ?_) (fun hq => ?_) | with_reducible refine az (by first | omega | grind [bN]) ?_ | with_reducible refine aJ ?_ | with_reducible refine bS ?_ | with_reducible refine cZ ?_ | with_reducible refine df ?_ | with_reducible refine dh ?_ | with_reducible refine aj ?_ | refine gu (hf (by omega)) (fun r hr => ?_))
   ·exact hbad (hno (by omega) (by grind))
   ·exact hbad (hno (by omega) (by grind))
   ·exact hbad (hno (by omega) (by grind))
   ·exact ⟨rfl,by omega,by grind⟩
  ·have hN:mo h.Keys:=⟨by omega,fun i hi=>hJ i (by omega)⟩
   unfold lD;refine bS ?_;obtain ⟨x,hx,v,hv,hq⟩:=hgood hN (by omega);obtain ⟨rfl,h2⟩:=hq;exact ⟨_,hx,v,hv,rfl,h2⟩
end Go.Proofs.YtnlkggppokcmfaaT
namespace Go.Proofs.YtnlkggppokcmfaaT
open Go Go.Proofs Go.Proofs.YtnlkggppokcmfaaE
set_option linter.unusedVariables false
set_option linter.unusedSimpArgs false
def mq (l:List Int) (c:Call) (w:Int) (s:ByteArray):List Int:=if c.Kind=4∧c.Key=s∧(l.length=0∨idx l ((l.length - 1:Nat):Int)≠w) then l++[w] else l
def jA (E:List (Call×Int)) (s:ByteArray):List Int:=E.foldl (fun l e=>mq l e.1 e.2 s) []
theorem xh {E:List (Call×Int)} {c:Call} {w:Int} {s:ByteArray}:jA (E++[(c,w)]) s=mq (jA E s) c w s:=by
 unfold jA; rw [List.foldl_append]; rfl
theorem oU {l:List Int} {c:Call} {w:Int} {s:ByteArray} (h:¬ (c.Kind=4∧c.Key=s)):mq l c w s=l:=by
 unfold mq; rw [if_neg (fun hh=>h ⟨hh.1,hh.2.1⟩)]
def Dj (E:List (Call×Int)) (c:Call) (w:Int):Prop :=
 ((c.Kind=2∨c.Kind=3)→∀ e ∈ E,e.1.Key=c.Key→(e.1.Kind=2∨e.1.Kind=3)→e.1.Arg≠c.Arg)∧(c.Kind=4→(mq (jA E c.Key) c w c.Key).length≤8)
def Ca (E:List (Call×Int)) (c:Call) (w:Int):Prop:=(∀ e ∈ E,e.1.Key=c.Key→typ e.1.Kind=typ c.Kind)∧Dj E c w
structure BookInv0 (E:List (Call×Int)) (b:ax):Prop where
 tl:b.types.length=b.keys.length
 wl:b.wrote.length=b.keys.length
 il:b.incs.length=b.keys.length
 ll:b.last_.length=b.keys.length
 nd:∀ i j:Nat,i < b.keys.length→j < b.keys.length→idx b.keys (i:Int)=idx b.keys (j:Int)→i=j
 ks:∀ e ∈ E,∃ j:Nat,j < b.keys.length∧idx b.keys (j:Int)=e.1.Key
 ty:∀ e ∈ E,∀ j:Nat,j < b.keys.length→idx b.keys (j:Int)=e.1.Key→idx b.types (j:Int)=typ e.1.Kind
 wr:∀ j:Nat,j < b.keys.length→∀ a,(∃ m:Nat,m < (idx b.wrote (j:Int)).length∧idx (idx b.wrote (j:Int)) (m:Int)=a)↔∃ e ∈ E,e.1.Key=idx b.keys (j:Int)∧(e.1.Kind=2∨e.1.Kind=3)∧e.1.Arg=a
 wn:∀ j:Nat,j < b.keys.length→(idx b.wrote (j:Int)).length≤E.length
 ic:∀ j:Nat,j < b.keys.length→idx b.incs (j:Int)=((jA E (idx b.keys (j:Int))).length:Int)
 i8:∀ j:Nat,j < b.keys.length→(jA E (idx b.keys (j:Int))).length≤8
 io:∀ s,(∀ j:Nat,j < b.keys.length→idx b.keys (j:Int)≠s)→jA E s=[]
 la:∀ j:Nat,j < b.keys.length→((jA E (idx b.keys (j:Int))).length=0→idx b.last_ (j:Int) = -1) ∧
  (0 < (jA E (idx b.keys (j:Int))).length→idx b.last_ (j:Int)=idx (jA E (idx b.keys (j:Int))) (((jA E (idx b.keys (j:Int))).length - 1:Nat):Int))
theorem BookInv0.start:BookInv0 [] ⟨[],[],[],[],[]⟩:=by
 refine ⟨rfl,rfl,rfl,rfl,?_,?_,?_,?_,?_,?_,?_,?_,?_⟩
 all_goals simp [jA]
theorem BookInv0.new {E:List (Call×Int)} {b:ax} (h:BookInv0 E b) {s:ByteArray} {t:Int} (hn:∀ j:Nat,j < b.keys.length→idx b.keys (j:Int)≠s) :
  BookInv0 E ⟨b.keys++[s],b.types++[t],b.wrote++[[]],b.incs++[0],b.last_++[-1]⟩:=by
 have hl:(b.keys++[s]).length=b.keys.length + 1:=by simp
 have k1:∀ j:Nat,j < b.keys.length→idx (b.keys++[s]) (j:Int)=idx b.keys (j:Int):=fun j hj=>iG hj;have k2:idx (b.keys++[s]) ((b.keys.length:Nat):Int)=s:=iH rfl;have t1:∀ j:Nat,j < b.keys.length→idx (b.types++[t]) (j:Int)=idx b.types (j:Int):=fun j hj=>iG (by rw [h.tl]; exact hj);have w1:∀ j:Nat,j < b.keys.length→idx (b.wrote++[[]]) (j:Int)=idx b.wrote (j:Int):=fun j hj=>iG (by rw [h.wl]; exact hj);have w2:idx (b.wrote++[[]]) ((b.keys.length:Nat):Int)=[]:=iH h.wl.symm;have i1:∀ j:Nat,j < b.keys.length→idx (b.incs++[0]) (j:Int)=idx b.incs (j:Int):=fun j hj=>iG (by rw [h.il]; exact hj);have i2:idx (b.incs++[0]) ((b.keys.length:Nat):Int)=0:=iH h.il.symm;have l1:∀ j:Nat,j < b.keys.length→idx (b.last_++[-1]) (j:Int)=idx b.last_ (j:Int):=fun j hj=>iG (by rw [h.ll]; exact hj);have l2:idx (b.last_++[-1]) ((b.keys.length:Nat):Int) = -1:=iH h.ll.symm;have ho:=h.io s hn;have hne:∀ e ∈ E,e.1.Key≠s:=fun e he hs=>by
  obtain ⟨j,hj,hk⟩:=h.ks e he;exact hn j hj (hk.trans hs)
 have cut:∀ j:Nat,j < b.keys.length + 1→j < b.keys.length∨j=b.keys.length:=by omega
 refine ⟨by simp [h.tl],by simp [h.wl],by simp [h.il],by simp [h.ll],?_,?_,?_,?_,?_,?_,?_,?_,?_⟩
 ·intro i j hi hj he
  dsimp only at hi hj he
  rw [hl] at hi hj
  have:=h.nd i j;rcases cut i hi with hi' | hi' <;> rcases cut j hj with hj' | hj' <;> grind
 ·intro e he;obtain ⟨j,hj,hk⟩:=h.ks e he;exact ⟨j,by simp; omega,(k1 j hj).trans hk⟩
 ·intro e he j hj hk
  dsimp only at hj hk ⊢
  rw [hl] at hj
  rcases cut j hj with hj' | hj'
  ·rw [k1 j hj'] at hk; rw [t1 j hj']; exact h.ty e he j hj' hk
  ·subst hj'; rw [k2] at hk; exact absurd hk.symm (hne e he)
 ·intro j hj a
  dsimp only at hj ⊢
  rw [hl] at hj
  rcases cut j hj with hj' | hj'
  ·rw [k1 j hj',w1 j hj']; exact h.wr j hj' a
  ·subst hj'
   rw [k2,w2]
   constructor
   ·rintro ⟨m,hm,_⟩; simp at hm
   ·rintro ⟨e,he,hk,_⟩; exact absurd hk (hne e he)
 ·intro j hj
  dsimp only at hj ⊢
  rw [hl] at hj
  rcases cut j hj with hj' | hj'
  ·rw [w1 j hj']; exact h.wn j hj'
  ·subst hj'; rw [w2]; simp
 ·intro j hj
  dsimp only at hj ⊢
  rw [hl] at hj
  rcases cut j hj with hj' | hj'
  ·rw [k1 j hj',i1 j hj']; exact h.ic j hj'
  ·subst hj'; rw [k2,i2,ho]; rfl
 ·intro j hj
  dsimp only at hj ⊢
  rw [hl] at hj
  rcases cut j hj with hj' | hj'
  ·rw [k1 j hj']; exact h.i8 j hj'
  ·subst hj'; rw [k2,ho]; simp
 ·intro x hx
  dsimp only at hx ⊢
  rw [hl] at hx
  exact h.io x (fun j hj=>by rw [← k1 j hj]; exact hx j (by omega))
 ·intro j hj
  dsimp only at hj ⊢
  rw [hl] at hj
  rcases cut j hj with hj' | hj'
  ·rw [k1 j hj',l1 j hj']; exact h.la j hj'
  ·subst hj'; rw [k2,l2,ho]; simp
theorem fI {E:List (Call×Int)} {c:Call} {w:Int} {e:Call×Int}:e ∈ E++[(c,w)]↔e ∈ E∨e=(c,w):=by simp
theorem BookInv0.same {E:List (Call×Int)} {b:ax} {c:Call} {w:Int} {k:Nat} (h:BookInv0 E b) (hk:k < b.keys.length) (hs:idx b.keys (k:Int)=c.Key) (ht:idx b.types (k:Int)=typ c.Kind)
  (h2:c.Kind≠2) (h3:c.Kind≠3) (hw:mq (jA E c.Key) c w c.Key=jA E c.Key):BookInv0 (E++[(c,w)]) b:=by
 have hws:∀ s,jA (E++[(c,w)]) s=jA E s:=fun s=>by
  rw [xh]
  by_cases e:c.Kind=4∧c.Key=s
  ·rw [← e.2]; exact hw
  ·exact oU e
 refine ⟨h.tl,h.wl,h.il,h.ll,h.nd,?_,?_,?_,?_,?_,?_,?_,?_⟩
 ·intro e he;rcases fI.1 he with he | rfl
  ·exact h.ks e he
  ·exact ⟨k,hk,hs⟩
 ·intro e he j hj hkj;rcases fI.1 he with he | rfl
  ·exact h.ty e he j hj hkj
  ·have:=h.nd j k hj hk (hkj.trans hs.symm);subst this;exact ht
 ·intro j hj a
  rw [h.wr j hj a]
  constructor
  ·rintro ⟨e,he,r⟩; exact ⟨e,fI.2 (.inl he),r⟩
  ·rintro ⟨e,he,r⟩;rcases fI.1 he with he | rfl
   ·exact ⟨e,he,r⟩
   ·rcases r.2.1 with r | r <;> contradiction
 ·intro j hj;have:=h.wn j hj
  simp; omega
 ·intro j hj; rw [hws]; exact h.ic j hj
 ·intro j hj; rw [hws]; exact h.i8 j hj
 ·intro s hs'; rw [hws]; exact h.io s hs'
 ·intro j hj; rw [hws]; exact h.la j hj
theorem BookInv0.write {E:List (Call×Int)} {b:ax} {c:Call} {w:Int} {k:Nat} (h:BookInv0 E b) (hk:k < b.keys.length) (hs:idx b.keys (k:Int)=c.Key) (ht:idx b.types (k:Int)=typ c.Kind)
  (a0:c.Kind=2∨c.Kind=3):BookInv0 (E++[(c,w)]) ⟨b.keys,b.types,b.wrote.set k (idx b.wrote (k:Int)++[c.Arg]),b.incs,b.last_⟩:=by
 have hws:∀ s,jA (E++[(c,w)]) s=jA E s:=fun s=>by
  rw [xh]
  exact oU (fun e=>by omega)
 have w1:∀ j:Nat,idx (b.wrote.set k (idx b.wrote (k:Int)++[c.Arg])) (j:Int)=if j=k then idx b.wrote (k:Int)++[c.Arg] else idx b.wrote (j:Int):=fun j=>lw (by rw [h.wl]; exact hk);refine ⟨h.tl,by simp [h.wl],h.il,h.ll,h.nd,?_,?_,?_,?_,?_,?_,?_,?_⟩
 ·intro e he;rcases fI.1 he with he | rfl
  ·exact h.ks e he
  ·exact ⟨k,hk,hs⟩
 ·intro e he j hj hkj;rcases fI.1 he with he | rfl
  ·exact h.ty e he j hj hkj
  ·have:=h.nd j k hj hk (hkj.trans hs.symm);subst this;exact ht
 ·intro j hj a
  dsimp only at hj ⊢
  rw [w1 j]
  have hold:=h.wr j hj a
  by_cases e:j=k
  ·subst e
   rw [if_pos rfl]
   constructor
   ·rintro ⟨m,hm,he⟩;rcases Nat.lt_or_ge m (idx b.wrote (j:Int)).length with h1 | h1
    ·rw [iG h1] at he
     obtain ⟨e,he',r⟩:=hold.1 ⟨m,h1,he⟩;exact ⟨e,fI.2 (.inl he'),r⟩
    ·simp at hm
     rw [iH (by omega)] at he
     exact ⟨(c,w),fI.2 (.inr rfl),hs.symm,a0,he⟩
   ·rintro ⟨e,he,r⟩;rcases fI.1 he with he | rfl
    ·obtain ⟨m,hm,hh⟩:=hold.2 ⟨e,he,r⟩;exact ⟨m,by simp; omega,(iG hm).trans hh⟩
    ·exact ⟨_,by simp,(iH rfl).trans r.2.2⟩
  ·rw [if_neg e,hold]
   constructor
   ·rintro ⟨e,he,r⟩; exact ⟨e,fI.2 (.inl he),r⟩
   ·rintro ⟨e',he,r⟩;rcases fI.1 he with he | rfl
    ·exact ⟨e',he,r⟩
    ·exact absurd (h.nd j k hj hk (r.1.symm.trans hs.symm)) e
 ·intro j hj
  dsimp only at hj ⊢
  rw [w1 j]
  have:=h.wn j hj
  split
  ·rename_i e; subst e; simp; omega
  ·simp; omega
 ·intro j hj; rw [hws]; exact h.ic j hj
 ·intro j hj; rw [hws]; exact h.i8 j hj
 ·intro s hs'; rw [hws]; exact h.io s hs'
 ·intro j hj; rw [hws]; exact h.la j hj
theorem BookInv0.inc {E:List (Call×Int)} {b:ax} {c:Call} {w:Int} {k:Nat} (h:BookInv0 E b) (hk:k < b.keys.length) (hs:idx b.keys (k:Int)=c.Key) (ht:idx b.types (k:Int)=typ c.Kind)
  (h4:c.Kind=4) (hw:mq (jA E c.Key) c w c.Key=jA E c.Key++[w]) (h8:(jA E c.Key).length + 1≤8) :
  BookInv0 (E++[(c,w)]) ⟨b.keys,b.types,b.wrote,b.incs.set k (idx b.incs (k:Int) + 1),b.last_.set k w⟩:=by
 have hws:∀ s,jA (E++[(c,w)]) s=if c.Key=s then jA E s++[w] else jA E s:=fun s=>by
  rw [xh]
  by_cases e:c.Key=s
  ·rw [if_pos e,← e]; exact hw
  ·rw [if_neg e]; exact oU (fun hh=>e hh.2)
 have i1:∀ j:Nat,idx (b.incs.set k (idx b.incs (k:Int) + 1)) (j:Int)=if j=k then idx b.incs (k:Int) + 1 else idx b.incs (j:Int):=fun j=>lw (by rw [h.il]; exact hk);have l1:∀ j:Nat,idx (b.last_.set k w) (j:Int)=if j=k then w else idx b.last_ (j:Int):=fun j=>lw (by rw [h.ll]; exact hk);have hne:∀ j:Nat,j < b.keys.length→(c.Key=idx b.keys (j:Int)↔j=k):=fun j hj=>⟨fun e=>h.nd j k hj hk (e.symm.trans hs.symm),fun e=>by rw [e,hs]⟩
 refine ⟨h.tl,h.wl,by simp [h.il],by simp [h.ll],h.nd,?_,?_,?_,?_,?_,?_,?_,?_⟩
 ·intro e he;rcases fI.1 he with he | rfl
  ·exact h.ks e he
  ·exact ⟨k,hk,hs⟩
 ·intro e he j hj hkj;rcases fI.1 he with he | rfl
  ·exact h.ty e he j hj hkj
  ·have:=h.nd j k hj hk (hkj.trans hs.symm);subst this;exact ht
 ·intro j hj a
  dsimp only at hj ⊢
  rw [h.wr j hj a]
  constructor
  ·rintro ⟨e,he,r⟩; exact ⟨e,fI.2 (.inl he),r⟩
  ·rintro ⟨e,he,r⟩;rcases fI.1 he with he | rfl
   ·exact ⟨e,he,r⟩
   ·have:=r.2.1; dsimp only at this; omega
 ·intro j hj;have:=h.wn j hj
  simp; omega
 ·intro j hj
  dsimp only at hj ⊢
  have:=h.ic j hj
  rw [hws,i1 j]
  by_cases e:j=k
  ·rw [if_pos e,if_pos ((hne j hj).2 e)]; subst e; simp; omega
  ·rw [if_neg e,if_neg (fun hh=>e ((hne j hj).1 hh))]; exact this
 ·intro j hj
  dsimp only at hj ⊢
  rw [hws]
  by_cases e:j=k
  ·rw [if_pos ((hne j hj).2 e)]; subst e; rw [hs]; simp; omega
  ·rw [if_neg (fun hh=>e ((hne j hj).1 hh))]; exact h.i8 j hj
 ·intro s hs'
  dsimp only at hs'
  rw [hws,if_neg (fun e=>hs' k hk (hs.trans e))]
  exact h.io s hs'
 ·intro j hj
  dsimp only at hj ⊢
  rw [hws,l1 j]
  by_cases e:j=k
  ·rw [if_pos e,if_pos ((hne j hj).2 e)]
   refine ⟨fun h0=>by simp at h0,fun _ => ?_⟩
   rw [iH (by simp)]
  ·rw [if_neg e,if_neg (fun hh=>e ((hne j hj).1 hh))]; exact h.la j hj
theorem Cb {E:List (Call×Int)} {b:ax} {c:Call} {w:Int} {k:Nat} (h:BookInv0 E b) (hk:k < b.keys.length) (hs:idx b.keys (k:Int)=c.Key) (ht:idx b.types (k:Int)=typ c.Kind)
  (h1:1≤c.Kind) (h8:c.Kind≤8) (hw:0≤w) (hE:E.length≤4096) :
  Tri (cK c w b.keys b.types b.wrote b.incs b.last_ (k:Int)) (fun r=>(r.1=0↔Dj E c w)∧(r.1=0→BookInv0 (E++[(c,w)]) r.2∧r.2.keys=b.keys∧r.2.types=b.types)):=by
 have hin:=h.ic k hk;have a0:=h.i8 k hk;have hla:=h.la k hk;have hwr:=h.wr k hk c.Arg;have hwn:=h.wn k hk
 rw [hs] at hin a0 hla hwr
 refine dW (zK (who:=w) hk h.tl h.wl h.il h.ll (by omega) (by omega) h1 h8) (fun r hr => ?_);have stay:∀ {l:List Int},mq (jA E c.Key) c w c.Key=l→l=if c.Kind=4∧((jA E c.Key).length=0∨idx (jA E c.Key) (((jA E c.Key).length - 1:Nat):Int)≠w) then jA E c.Key++[w] else jA E c.Key:=by
  rintro l rfl;unfold mq
  simp
 have st:=stay rfl;rcases hr with ⟨a,rfl⟩ | ⟨_,b1,b2,rfl⟩ | ⟨_,b1,b2,rfl⟩ | ⟨_,b1,b2,b3,b4⟩ | ⟨_,b1,b2,b3,rfl⟩ | ⟨_,b1,b2,rfl⟩ | ⟨_,b1,b2,b3,rfl⟩
 ·exact absurd ht a
 ·refine ⟨⟨fun h=>by simp at h,fun hh => ?_⟩,fun h=>by simp at h⟩
  obtain ⟨e,he,r1,r2,r3⟩:=hwr.1 b2;exact absurd r3 (hh.1 b1 e he r1 r2)
 ·refine ⟨⟨fun _=>⟨fun _ e he r1 r2 r3=>b2 (hwr.2 ⟨e,he,r1,r2,r3⟩),fun h4=>by omega⟩,fun _=>rfl⟩,fun _=>⟨h.write hk hs ht b1,rfl,rfl⟩⟩
 ·have hne:(jA E c.Key).length=0∨idx (jA E c.Key) (((jA E c.Key).length - 1:Nat):Int)≠w:=by grind
  rw [if_pos ⟨b1,hne⟩] at st
  refine ⟨⟨fun h0=>by omega,fun hh => ?_⟩,fun h0=>by omega⟩
  have:=hh.2 b1
  rw [st] at this
  simp at this
  omega
 ·have hne:(jA E c.Key).length=0∨idx (jA E c.Key) (((jA E c.Key).length - 1:Nat):Int)≠w:=by grind
  rw [if_pos ⟨b1,hne⟩] at st
  refine ⟨⟨fun _=>⟨fun h=>by omega,fun _=>by rw [st]; simp; omega⟩,fun _=>rfl⟩,fun _=>⟨h.inc hk hs ht b1 st (by omega),rfl,rfl⟩⟩
 ·have hne:¬ ((jA E c.Key).length=0∨idx (jA E c.Key) (((jA E c.Key).length - 1:Nat):Int)≠w):=by grind
  rw [if_neg (fun hh=>hne hh.2)] at st
  refine ⟨⟨fun _=>⟨fun h=>by omega,fun _=>by rw [st]; exact a0⟩,fun _=>rfl⟩,fun _=>⟨h.same hk hs ht (by omega) (by omega) st,rfl,rfl⟩⟩
 ·rw [if_neg (fun hh=>b3 hh.1)] at st
  refine ⟨⟨fun _=>⟨fun h=>by omega,fun h=>by omega⟩,fun _=>rfl⟩,fun _=>⟨h.same hk hs ht b1 b2 st,rfl,rfl⟩⟩
structure mr (E:List (Call×Int)) (b:ax):Prop extends BookInv0 E b where
 len:b.keys.length≤32
 kex:∀ j:Nat,j < b.keys.length→∃ e ∈ E,e.1.Key=idx b.keys (j:Int)
theorem mr.start:mr [] ⟨[],[],[],[],[]⟩:=⟨BookInv0.start,by simp,fun j hj=>by simp at hj⟩
theorem Cx {E:List (Call×Int)} {b:ax} {c:Call} {w:Int} (h:mr E b) (hroom:b.keys.length=32→∃ j:Nat,j < b.keys.length∧idx b.keys (j:Int)=c.Key)
  (h1:1≤c.Kind) (h8:c.Kind≤8) (hw:0≤w) (hE:E.length≤4096) :
  Tri (af b c w) (fun r=>(r.1=0↔Ca E c w)∧(r.1=0→mr (E++[(c,w)]) r.2)):=by
 have hl:=h.len;have t1:=h.tl;have t2:=h.wl;have t3:=h.il;have t4:=h.ll;obtain ⟨r0,a4,hf⟩:=xe (l:=b.keys) (s:=c.Key) (by omega);unfold af
 rw [a4]
 refine bS ?_;rcases hf with ⟨rfl,hno⟩ | ⟨k,rfl,a0,a1,_⟩
 ·refine aB (fun _ => ?_) (fun hh=>by omega);refine aB (fun a5 => ?_) (fun a5 => ?_)
  ·obtain ⟨j,hj,he⟩:=hroom (by omega);exact absurd he (hno j hj)
  ·have hn:=h.toBookInv0.new (s:=c.Key) (t:=typ c.Kind) hno;have hat:=Cb (w:=w) hn (k:=b.keys.length) (by simp) (iH rfl) (iH t1.symm) h1 h8 hw hE;have hne:∀ e ∈ E,e.1.Key≠c.Key:=fun e he hs=>by
    obtain ⟨j,hj,hk⟩:=h.ks e he;exact hno j hj (hk.trans hs)
   unfold fD fC
   simp only [xS h1 h8]
   refine az (by omega) (bS (az (by omega) (az (by omega) (az (by omega) (az (by omega) ?_)))));refine dW hat (fun r hr => ?_);refine ⟨hr.1.trans ⟨fun hh=>⟨fun e he hs=>absurd hs (hne e he),hh⟩,fun hh=>hh.2⟩,fun h0 => ?_⟩;obtain ⟨q1,q2,q3⟩:=hr.2 h0;refine ⟨q1,by rw [q2]; simp; omega,fun j hj => ?_⟩
   rw [q2] at hj ⊢
   have hj:j < b.keys.length + 1:=by simpa using hj
   rcases (by omega:j < b.keys.length∨j=b.keys.length) with hj' | hj'
   ·obtain ⟨e,he,hk⟩:=h.kex j hj';exact ⟨e,fI.2 (.inl he),by rw [hk]; exact (iG hj').symm⟩
   ·subst hj';exact ⟨(c,w),fI.2 (.inr rfl),(iH rfl).symm⟩
 ·refine aB (fun hh=>by omega) (fun _ => ?_);obtain ⟨e0,a2,a3⟩:=h.kex k a0;have hty:=h.ty e0 a2 k a0 a3.symm
  by_cases ht:idx b.types (k:Int)=typ c.Kind
  ·have hat:=Cb (w:=w) h.toBookInv0 a0 a1 ht h1 h8 hw hE;refine dW hat (fun r hr => ?_);refine ⟨hr.1.trans ⟨fun hh=>⟨fun e he hs => ?_,hh⟩,fun hh=>hh.2⟩,fun h0 => ?_⟩
   ·exact (h.ty e he k a0 (a1.trans hs.symm)).symm.trans ht
   ·obtain ⟨q1,q2,q3⟩:=hr.2 h0;refine ⟨q1,by rw [q2]; exact hl,fun j hj => ?_⟩
    rw [q2] at hj ⊢
    obtain ⟨e,he,hk⟩:=h.kex j hj;exact ⟨e,fI.2 (.inl he),hk⟩
  ·have hin:=h.ic k a0;have a6:=h.i8 k a0;have hwn:=h.wn k a0;refine dW (zK (who:=w) a0 t1 t2 t3 t4 (by omega) (by omega) h1 h8) (fun r hr => ?_);have hno:¬ Ca E c w:=fun hh=>ht (hty.trans (hh.1 e0 a2 (a3.trans a1)));rcases hr with ⟨a,rfl⟩ | ⟨a,_⟩ | ⟨a,_⟩ | ⟨a,_⟩ | ⟨a,_⟩ | ⟨a,_⟩ | ⟨a,_⟩
   ·exact ⟨⟨fun h=>by simp at h,fun hh=>absurd hh hno⟩,fun h=>by simp at h⟩
   all_goals exact absurd a ht
def zn (h:History) (i:Nat):List (Call×Int):=(cz h (idx h.Txns (i:Int))).map (fun c=>(c,(i:Int)))
def qf (h:History) (k:Nat):List (Call×Int):=(List.range k).flatMap (zn h)
theorem oV {h:History} {k:Nat}:qf h (k + 1)=qf h k++zn h k:=by
 unfold qf; rw [List.range_succ,List.flatMap_append]; simp
def ni (E L:List (Call×Int)):Prop:=∀ j:Nat,j < L.length→Ca (E++L.take j) (idx L (j:Int)).1 (idx L (j:Int)).2
theorem ni.append {E L M:List (Call×Int)}:ni E (L++M)↔ni E L∧ni (E++L) M:=by
 constructor
 ·intro h;refine ⟨fun j hj => ?_,fun j hj => ?_⟩
  ·have:=h j (by simp; omega)
   rwa [iG hj,List.take_append_of_le_length (by omega)] at this
  ·have:=h (L.length + j) (by simp; omega)
   rw [List.take_append,List.take_of_length_le (by omega),show L.length + j - L.length=j by omega,← List.append_assoc] at this
   rwa [show idx (L++M) ((L.length + j:Nat):Int)=idx M (j:Int) from by
    rw [dL rfl (by simp; omega),dL rfl hj,List.getElem_append_right (by omega)]; congr 1; omega] at this
 ·rintro ⟨h1,h2⟩ j hj;rcases Nat.lt_or_ge j L.length with h3 | h3
  ·rw [iG h3,List.take_append_of_le_length (by omega)]; exact h1 j h3
  ·obtain ⟨i,rfl⟩:∃ i,j=L.length + i:=⟨j - L.length,by omega⟩
   have hi:i < M.length:=by simp at hj; omega
   have:=h2 i hi
   rw [List.take_append,List.take_of_length_le (by omega),show L.length + i - L.length=i by omega,← List.append_assoc]
   rwa [show idx (L++M) ((L.length + i:Nat):Int)=idx M (i:Int) from by
    rw [dL rfl (by simp; omega),dL rfl hi,List.getElem_append_right (by omega)]; congr 1; omega]
theorem room {K l:List ByteArray} {s:ByteArray} (hK:K.length≤32) (hl:l.length=32) (nd:∀ i j:Nat,i < l.length→j < l.length→idx l (i:Int)=idx l (j:Int)→i=j)
  (hs:s ∈ K) (hsub:∀ x ∈ l,x ∈ K):∃ j:Nat,j < l.length∧idx l (j:Int)=s:=by
 have hnd:l.Nodup:=by
  rw [List.nodup_iff_pairwise_ne,List.pairwise_iff_getElem]
  intro i j hi hj hij he;have:=nd i j hi hj (by rw [dL rfl hi,dL rfl hj]; exact he)
  omega
 by_cases h:s ∈ l
 ·obtain ⟨j,hj,he⟩:=List.getElem_of_mem h;exact ⟨j,hj,(dL rfl hj).trans he⟩
 ·have h1:(s::l).Nodup:=List.nodup_cons.2 ⟨h,hnd⟩;have h2:=h1.length_le_of_subset (l₂:=K) (fun x hx=>by
   rcases List.mem_cons.1 hx with rfl | hx
   ·exact hs
   ·exact hsub x hx)
  simp at h2
  omega
def InK (K:List ByteArray) (E:List (Call×Int)):Prop:=∀ e ∈ E,e.1.Key ∈ K
theorem mr.sub {K:List ByteArray} {E:List (Call×Int)} {b:ax} (h:mr E b) (hE:InK K E):∀ x ∈ b.keys,x ∈ K:=by
 intro x hx;obtain ⟨j,hj,rfl⟩:=List.getElem_of_mem hx;obtain ⟨e,he,hk⟩:=h.kex j hj;have:=hE e he
 rw [hk,dL rfl hj] at this
 exact this
theorem Bi {K:List ByteArray} {E:List (Call×Int)} {b:ax} {i:Nat} {l:List Call} (h:mr E b) (hK:K.length≤32) (hEK:InK K E) (hlK:∀ c ∈ l,c.Key ∈ K) (hl:l.length≤16) (hi:i < 64) (hn:E.length≤1024)
  (hc:rM l (fun c=>1≤c.Kind∧c.Kind≤8)) :
  Tri (iter (dR (i:Int) l) (wm b 0)) (fun x=>(ni E (l.map (fun c=>(c,(i:Int))))→∃ b',x = .inr (.inl (wm b' ((i + 1:Nat):Int)))∧mr (E++l.map (fun c=>(c,(i:Int)))) b') ∧
   (¬ ni E (l.map (fun c=>(c,(i:Int))))→x = .inr (.inr 1))):=by
 generalize hm:l.map (fun c=>(c,(i:Int)))=m;have hml:m.length=l.length:=by rw [← hm]; simp
 have hmi:∀ k:Nat,k < l.length→idx m (k:Int)=(idx l (k:Int),(i:Int)):=fun k hk=>by rw [← hm,ww hk]
 refine gG (k0:=0) l.length (fun k s=>∃ b',s=wm b' (k:Int)∧mr (E++m.take k) b'∧∀ j:Nat,j < k→Ca (E++m.take j) (idx m (j:Int)).1 (idx m (j:Int)).2) (Nat.zero_le _) ⟨b,rfl,by simpa using h,fun j hj=>absurd hj (Nat.not_lt_zero _)⟩ ?_
 rintro k s hk ⟨b',rfl,hb,hJ⟩;unfold dR wm
 dsimp only
 refine aB (fun a2 => ?_) (fun a2 => ?_)
 ·have a0:k < l.length:=by omega
  have hin:InK K (E++m.take k):=fun e he=>by
   rcases List.mem_append.1 he with he | he
   ·exact hEK e he
   ·have:=List.mem_of_mem_take he
    rw [← hm] at this
    obtain ⟨c,hc,rfl⟩:=List.mem_map.1 this;exact hlK c hc
  have hcK:(idx l (k:Int)).Key ∈ K:=hlK _ (by rw [dL rfl a0]; exact List.getElem_mem a0);have hw:w64 ((k:Int) + 1)=((k + 1:Nat):Int):=dE (by omega);obtain ⟨r,hr,q1,q2⟩:=Cx (c:=idx l (k:Int)) (w:=(i:Int)) hb (fun a1=>room hK a1 hb.nd hcK (hb.sub hin)) (hc k a0).1 (hc k a0).2 (by omega) (by simp; omega);refine az (by omega) (dw hr ?_);refine aB (fun h0 => ?_) (fun h0 => ?_)
  ·refine aJ (aJ (aJ (aj ⟨fun hall => ?_,fun _=>rfl⟩)));have:=hall k (by omega)
   rw [hmi k a0] at this
   exact absurd (q1.2 this) h0
  ·refine aj ⟨a0,r.2,?_,?_,?_⟩
   ·rw [hw]
   ·rw [jg (by omega),hmi k a0,← List.append_assoc]
    exact q2 (by omega)
   ·intro j hj;rcases Nat.lt_or_ge j k with h1 | h1
    ·exact hJ j h1
    ·rw [show j=k by omega,hmi k a0]; exact q1.1 (by omega)
 ·have hw:w64 ((i:Int) + 1)=((i + 1:Nat):Int):=dE (by omega)
  rw [hw]
  have hfull:m.take k=m:=List.take_of_length_le (by omega)
  rw [hfull] at hb
  refine aJ (aJ (aj ⟨fun _=>⟨b',rfl,hb⟩,fun hno=>absurd (fun j hj=>hJ j (by omega)) hno⟩))
structure si (h:History):Prop where
 names:mo h.Keys
 len:h.Txns.length≤32
 txn:∀ i:Nat,i < h.Txns.length→wo h i
 ents:ni [] (qf h h.Txns.length)
theorem keys_in {h:History} {i:Nat} (hi:rJ h (idx h.Txns (i:Int))):∀ c ∈ cz h (idx h.Txns (i:Int)),c.Key ∈ h.Keys:=by
 intro c hc;obtain ⟨o,ho,rfl⟩:=List.mem_map.1 hc;have:=(yE.1 hi) o ho
 show idx h.Keys o.Key ∈ h.Keys
 rw [dL (n:=o.Key.toNat) (by omega) (by omega)]
 exact List.getElem_mem _
theorem Cy {h:History} {i:Nat} (hi:wo h i):(zn h i).length≤16:=by
 have:=hi.2.2.2.2.1
 simpa [zn,vZ,cz] using this
theorem xO {h:History} (hs:tT h):Tri (ag h) (fun v=>(v=0↔si h)∧(v=0∨v=1)):=by
 obtain ⟨a4,a5,a1⟩:=hs;obtain ⟨y,hy,hn⟩:=yw (l:=h.Keys) (by omega);unfold ag eU
 simp only [cond_true,cond_false]
 repeat' (first | contradiction | with_reducible refine aB (fun hq => ?_) (fun hq => ?_) | with_reducible refine az (by first | omega | grind [bN]) ?_ | with_reducible refine aJ ?_ | with_reducible refine bS ?_ | with_reducible refine cZ ?_ | with_reducible refine df ?_ | with_reducible refine dh ?_ | with_reducible refine aj ?_ | refine dw hy ?_)
 ·exact ⟨⟨fun h=>absurd h (by decide),fun hS=>absurd (hn.2 hS.names) ‹¬y=true›⟩,.inr rfl⟩
 ·exact ⟨⟨fun h=>absurd h (by decide),fun hS=>absurd hS.len (by omega)⟩,.inr rfl⟩
 ·have hN:mo h.Keys:=hn.1 (Decidable.of_not_not ‹¬¬y=true›);have a2:h.Txns.length≤32:=by omega
  refine gG (k0:=0) h.Txns.length (fun k s=>∃ b,s=wm b (k:Int)∧mr (qf h k) b∧InK h.Keys (qf h k)∧(qf h k).length≤16 * k∧ni [] (qf h k)∧∀ j:Nat,j < k→wo h j) (Nat.zero_le _)
   ⟨⟨[],[],[],[],[]⟩,rfl,mr.start,fun e he=>by simp [qf] at he,by simp [qf],fun j hj=>by simp [qf] at hj,fun j hj=>absurd hj (Nat.not_lt_zero _)⟩ ?_
  rintro k s hk ⟨b,rfl,hb,hin,hlen,hents,hJ⟩;unfold gq gp wm
  simp only [cond_true,cond_false]
  have hbad:(k < h.Txns.length → ¬ wo h k)→k < h.Txns.length → ¬ si h:=fun h1 h2 hS=>h1 h2 (hS.txn k h2);refine aB (fun a3 => ?_) (fun a3 => ?_)
  ·have a0:k < h.Txns.length:=by omega
   obtain ⟨p',hp',hp1'⟩:=rZ (l:=h.Txns) a0 (by omega);have hco:ve (vZ h (idx h.Txns (k:Int)))→(idx h.Txns (k:Int)).Ops.length≤16:=fun he=>by
    have:=he.2.2.1
    simpa [vZ,cz] using this
   repeat' (first | contradiction | with_reducible refine aB (fun hq => ?_) (fun hq => ?_) | with_reducible refine az (by first | omega | grind [bN]) ?_ | with_reducible refine aJ ?_ | with_reducible refine bS ?_ | with_reducible refine cZ ?_ | with_reducible refine df ?_ | with_reducible refine dh ?_ | with_reducible refine aj ?_ | refine dw hp' ?_)
   ·exact ⟨⟨fun h=>absurd h (by decide),fun hS=>absurd (hp1'.2 (hS.txn k a0).1) ‹¬p'=true›⟩,.inr rfl⟩
   ·exact ⟨⟨fun h=>absurd h (by decide),fun hS=>absurd (hco (hS.txn k a0).2.2) (by omega)⟩,.inr rfl⟩
   ·refine zL (b:=b) a0 (a1 k a0) (by omega) (fun hno => ?_) (fun hKo hEv => ?_)
    ·exact ⟨⟨fun h=>absurd h (by decide),fun hS=>absurd ⟨(hS.txn k a0).2.1,(hS.txn k a0).2.2⟩ hno⟩,.inr rfl⟩
    ·have hok:wo h k:=⟨hp1'.1 (Decidable.of_not_not ‹¬¬p'=true›),hKo,hEv⟩;have hc:rM (cz h (idx h.Txns (k:Int))) (fun c=>1≤c.Kind∧c.Kind≤8):=fun j hj=>⟨(hEv.2.2.2 j hj).1,(hEv.2.2.2 j hj).2.1⟩;refine dW (Bi (i:=k) hb hN.1 hin (keys_in hKo) hEv.2.2.1 (by omega) (by omega) hc) (fun x hx => ?_)
     by_cases hall:ni (qf h k) (zn h k)
     ·obtain ⟨b',rfl,hb'⟩:=hx.1 hall;refine ⟨a0,b',rfl,by rw [oV]; exact hb',?_,?_,?_,?_⟩
      ·rw [oV]
       intro e he;rcases List.mem_append.1 he with he | he
       ·exact hin e he
       ·obtain ⟨c,hc,rfl⟩:=List.mem_map.1 he;exact keys_in hKo c hc
      ·have:=Cy hok
       rw [oV,List.length_append]; omega
      ·rw [oV]
       exact ni.append.2 ⟨hents,hall⟩
      ·intro j hj;rcases Nat.lt_or_ge j k with h1 | h1
       ·exact hJ j h1
       ·rw [show j=k by omega]; exact hok
     ·rw [hx.2 hall]
      refine ⟨⟨fun h=>absurd h (by decide),fun hS=>absurd ?_ hall⟩,.inr rfl⟩;have hsp:∀ n:Nat,k + 1≤n→ni [] (qf h n)→ni (qf h k) (zn h k):=by
       intro n
       induction n with
       | zero=>intro h; omega
       | succ n ih =>
        intro hn hE
        rw [oV,ni.append] at hE
        rcases Nat.lt_or_ge k n with h1 | h1
        ·exact ih (by omega) hE.1
        ·rw [show n=k by omega] at hE
         exact hE.2
      exact hsp _ a0 hS.ents
  ·have a0:k=h.Txns.length:=by omega
   repeat' (first | contradiction | with_reducible refine aB (fun hq => ?_) (fun hq => ?_) | with_reducible refine az (by first | omega | grind [bN]) ?_ | with_reducible refine aJ ?_ | with_reducible refine bS ?_ | with_reducible refine cZ ?_ | with_reducible refine df ?_ | with_reducible refine dh ?_ | with_reducible refine aj ?_)
   rw [a0] at hents hJ
   exact ⟨⟨fun _=>⟨hN,a2,hJ,hents⟩,fun _=>rfl⟩,.inl rfl⟩
theorem yx {h:History} (hs:tT h):∃ v,aN h=some v∧ag h=some v∧(v=0∨v=1)∧(v=0↔si h):=by
 obtain ⟨v,hv,v',hv',rfl,a0⟩:=xg hs;obtain ⟨w,hw,h1,h2⟩:=xO hs;have:v=w:=Option.some.inj (hv'.symm.trans hw);subst this;exact ⟨v,hv,hv',a0,h1⟩
end Go.Proofs.YtnlkggppokcmfaaT
namespace Go.Proofs.YtnlkggppokcmfaaT
open Go Go.Proofs Go.Proofs.YtnlkggppokcmfaaE
set_option linter.unusedVariables false
set_option linter.unusedSimpArgs false
def xk (ops:List Op) (key:Int) (p:Nat):List Int:=((ops.take p).filter (fun o=>decide (o.Key=key∧o.Kind≤4))).map (·.Arg)
theorem Cz {ops:List Op} {key:Int}:xk ops key 0=[]:=rfl
theorem zo {ops:List Op} {key:Int} {p:Nat} (h:p < ops.length):xk ops key (p + 1)=if (idx ops (p:Int)).Key=key∧(idx ops (p:Int)).Kind≤4 then xk ops key p++[(idx ops (p:Int)).Arg] else xk ops key p:=by
 unfold xk
 rw [jg h,List.filter_append,List.map_append]
 by_cases e:(idx ops (p:Int)).Key=key∧(idx ops (p:Int)).Kind≤4
 ·simp [e]
 ·rw [if_neg e]
  simp only [List.filter_cons,List.filter_nil,decide_eq_true_eq,if_neg e]
  simp
theorem yz {ops:List Op} {key:Int} {p:Nat}:(xk ops key p).length≤ops.length:=by
 unfold xk
 rw [List.length_map]
 exact Nat.le_trans (List.length_filter_le _ _) (by simp; omega)
def Gx (ops:List Op) (t:Int) (p:Nat):List Ask :=
 let o:=idx ops (p:Int)
 let mine:=xk ops o.Key p
 if o.Kind≤4 then [] else if mine=[] then [⟨t,p,o.Key,o.Vals⟩] else if (before (o.Kind - 4) o.Vals mine).2=true∧o.Kind≠5 then [⟨t,p,o.Key,(before (o.Kind - 4) o.Vals mine).1⟩] else []
def FX (ops:List Op) (t:Int) (p:Nat):List fu :=
 let o:=idx ops (p:Int)
 let mine:=xk ops o.Key p
 if o.Kind≤4 then [] else if mine=[] then [] else if (before (o.Kind - 4) o.Vals mine).2=true then [] else [⟨t,p⟩]
def FY (ops:List Op) (t:Int) (k:Nat):List Ask:=(List.range k).flatMap (Gx ops t)
def ET (ops:List Op) (t:Int) (k:Nat):List fu:=(List.range k).flatMap (FX ops t)
def FZ (h:History) (t:Int):List Ask:=if (idx h.Txns t).Status=1 then FY (idx h.Txns t).Ops t (idx h.Txns t).Ops.length else []
def EU (h:History) (t:Int):List fu:=if (idx h.Txns t).Status=1 then ET (idx h.Txns t).Ops t (idx h.Txns t).Ops.length else []
def Gy (ops:List Op):Prop:=ops.length≤16∧rM ops (fun o=>1≤o.Kind∧o.Kind≤8∧o.Vals.length≤64)
theorem wo.ops {h:History} {i:Nat} (hi:wo h i):Gy (idx h.Txns (i:Int)).Ops:=by
 obtain ⟨_,_,_,_,h1,h2⟩:=hi;refine ⟨by simpa [vZ,cz] using h1,fun j hj => ?_⟩
 have:=h2 j (by simpa [vZ,cz] using hj)
 dsimp only [vZ,cz] at this
 rw [ww hj] at this
 unfold oQ wZ at this
 dsimp only at this
 grind
end Go.Proofs.YtnlkggppokcmfaaT
namespace Go.Proofs.YtnlkggppokcmfaaT
open Go Go.Proofs Go.Proofs.YtnlkggppokcmfaaE
set_option linter.unusedVariables false
set_option linter.unusedSimpArgs false
end Go.Proofs.YtnlkggppokcmfaaT
namespace Go.Proofs.YtnlkggppokcmfaaT
open Go Go.Proofs Go.Proofs.YtnlkggppokcmfaaE
set_option linter.unusedVariables false
set_option linter.unusedSimpArgs false
abbrev OG (y:Op):Prop:=((Lit.int .i64 (y).Kind).wf=true)∧((Lit.int .i64 (y).Key).wf=true)∧((Lit.int .i64 (y).Arg).wf=true)∧(True)∧((∀ z ∈ (y).Vals,(Lit.int .i64 z).wf=true)∧((y).Vals).length * 8≤140737488351232)
abbrev TG (y:Txn):Prop:=((Lit.int .i64 (y).Proc).wf=true)∧((Lit.int .i64 (y).Status).wf=true)∧((Lit.int .i64 (y).From).wf=true)∧((Lit.int .i64 (y).To).wf=true)∧((∀ z ∈ (y).Ops,OG z)∧((y).Ops).length * 56≤140737488351232)
abbrev HG (K:ByteArray→Prop) (x:History):Prop:=((∀ y ∈ (x).Keys,K y)∧((x).Keys).length * 16≤140737488351232)∧((∀ y ∈ (x).Txns,TG y)∧((x).Txns).length * 56≤140737488351232)
theorem HG.small {K:ByteArray→Prop} {h:History} (g:HG K h):tT h :=
 ⟨g.1.2,g.2.2,yE.2 fun t ht=>⟨(g.2.1 t ht).2.2.2.2.2,yE.2 fun o ho=>((g.2.1 t ht).2.2.2.2.1 o ho).2.2.2.2.2⟩⟩
end Go.Proofs.YtnlkggppokcmfaaT
namespace Go.Proofs.YtnlkggppokcmfaaT
open Go Go.Proofs Go.Proofs.YtnlkggppokcmfaaE
set_option linter.unusedVariables false
set_option linter.unusedSimpArgs false
def wu (h:History) (k:Nat):List Ask:=(List.range k).flatMap (fun t=>FZ h ((t:Nat):Int))
def tV (h:History) (k:Nat):List fu:=(List.range k).flatMap (fun t=>EU h ((t:Nat):Int))
end Go.Proofs.YtnlkggppokcmfaaT
namespace Go.Proofs.YtnlkggppokcmfaaT
open Go Go.Proofs Go.Proofs.YtnlkggppokcmfaaE
set_option linter.unusedVariables false
set_option linter.unusedSimpArgs false
def qg (h:History) (t:Int) (key:Int):List Int:=xk (idx h.Txns t).Ops key (idx h.Txns t).Ops.length
theorem Ai {h:History} {t key:Int}:(qg h t key).length≤(idx h.Txns t).Ops.length:=yz
theorem Bj {h:History} {t key:Int} (ht:0≤t∧t < (h.Txns.length:Int)) (ho:(idx h.Txns t).Ops.length≤16):aO h t key=some (qg h t key):=by
 refine kZ.1 ?_;unfold aO qg;generalize hx:(idx h.Txns t).Ops=ops at ho ⊢;refine gG (k0:=0) ops.length (fun k s=>s=(xk ops key k,(k:Int))) (Nat.zero_le _) rfl ?_;rintro k s hk rfl;have hw:w64 ((k:Int) + 1)=((k + 1:Nat):Int):=dE (by omega);have l3:=yz (ops:=ops) (key:=key) (p:=k);have hn:k < ops.length→xk ops key (k + 1)=_:=fun hk=>zo hk;unfold kC iQ iP fK
 simp only [hx,hw,Option.bind_some]
 refine az ht ?_;refine aB (fun a1 => ?_) (fun a1 => ?_)
 ·have a0:k < ops.length:=by omega
  replace hn:=hn a0
  repeat' (first | contradiction | with_reducible refine aB (fun hq => ?_) (fun hq => ?_) | with_reducible refine az (by first | omega | grind [bN]) ?_ | with_reducible refine aJ ?_ | with_reducible refine bS ?_ | with_reducible refine cZ ?_ | with_reducible refine df ?_ | with_reducible refine dh ?_ | with_reducible refine aj ?_)
  all_goals (refine ⟨a0,?_⟩; dsimp only; grind)
 ·have:k=ops.length:=by omega
  subst this
  repeat' (first | contradiction | with_reducible refine aB (fun hq => ?_) (fun hq => ?_) | with_reducible refine az (by first | omega | grind [bN]) ?_ | with_reducible refine aJ ?_ | with_reducible refine bS ?_ | with_reducible refine cZ ?_ | with_reducible refine df ?_ | with_reducible refine dh ?_ | with_reducible refine aj ?_)
  all_goals rfl
end Go.Proofs.YtnlkggppokcmfaaT
namespace Go.Proofs.YtnlkggppokcmfaaT
open Go Go.Proofs Go.Proofs.YtnlkggppokcmfaaE
set_option linter.unusedVariables false
set_option linter.unusedSimpArgs false
def opAt (h:History) (t p:Int):Op:=idx (idx h.Txns t).Ops p
theorem EW {h:History} (hS:si h) {t p:Nat} (ht:t < h.Txns.length) (hp:p < (idx h.Txns (t:Int)).Ops.length):1≤(opAt h (t:Int) (p:Int)).Kind∧(opAt h (t:Int) (p:Int)).Kind≤8:=by
 obtain ⟨h1,h2⟩:=(hS.txn t ht).ops;have:=h2 p hp;exact ⟨this.1,this.2.1⟩
end Go.Proofs.YtnlkggppokcmfaaT
namespace Go.Proofs.YtnlkggppokcmfaaT
open Go Go.Proofs Go.Proofs.YtnlkggppokcmfaaE
set_option linter.unusedVariables false
set_option linter.unusedSimpArgs false
def Gz (h:History) (key ty:Int):Prop:=∀ t p:Nat,t < h.Txns.length→p < (idx h.Txns (t:Int)).Ops.length→(opAt h (t:Int) (p:Int)).Key=key→typ (opAt h (t:Int) (p:Int)).Kind=ty
structure Hd (h:History) (a:Ask) (t p:Nat):Prop where
 tl:t < h.Txns.length
 pl:p < (idx h.Txns (t:Int)).Ops.length
 e1:a.Txn=(t:Int)
 e2:a.Place=(p:Int)
 e3:a.Key=(opAt h (t:Int) (p:Int)).Key
 rd:5≤(opAt h (t:Int) (p:Int)).Kind
 b64:a.Base.length≤64
 b4:typ (opAt h (t:Int) (p:Int)).Kind=4→a.Base.length=1
 b3:typ (opAt h (t:Int) (p:Int)).Kind=3→a.Base.Nodup
end Go.Proofs.YtnlkggppokcmfaaT
namespace Go.Proofs.YtnlkggppokcmfaaT
open Go Go.Proofs Go.Proofs.YtnlkggppokcmfaaE
set_option linter.unusedVariables false
set_option linter.unusedSimpArgs false
structure Parts (O:List Int) (W:Int→List Int):Prop where
 ne:∀ t ∈ O,0 < (W t).length
 ap:∀ t ∈ O,∀ u ∈ O,∀ v,v ∈ W t→v ∈ W u→t=u
 nd:∀ t ∈ O,(W t).Nodup
 ol:O.length≤32
 wl:∀ t ∈ O,(W t).length≤16
 pos:∀ t ∈ O,0≤t
section
variable {O:List Int} {W:Int→List Int}
theorem lJ {l:List Int} {j:Nat} (hj:j < l.length):idx l (j:Int) ∈ l:=by rw [dL (n:=j) rfl hj]; exact List.getElem_mem _
theorem EX {l:List Int} {t:Int} (h:t ∈ l):∃ j:Nat,j < l.length∧idx l (j:Int)=t:=by
 obtain ⟨j,hj,e⟩:=List.getElem_of_mem h;exact ⟨j,hj,(dL rfl hj).trans e⟩
end
end Go.Proofs.YtnlkggppokcmfaaT
namespace Go.Proofs.YtnlkggppokcmfaaT
open Go Go.Proofs Go.Proofs.YtnlkggppokcmfaaE
set_option linter.unusedVariables false
set_option linter.unusedSimpArgs false
section
variable {O:List Int} {W:Int→List Int} {rest l:List Int}
end
end Go.Proofs.YtnlkggppokcmfaaT
namespace Go.Proofs.YtnlkggppokcmfaaT
open Go Go.Proofs Go.Proofs.YtnlkggppokcmfaaE
set_option linter.unusedVariables false
set_option linter.unusedSimpArgs false
section
variable {O:List Int} {W:Int→List Int} {rest l:List Int}
end
end Go.Proofs.YtnlkggppokcmfaaT
namespace Go.Proofs.YtnlkggppokcmfaaT
open Go Go.Proofs Go.Proofs.YtnlkggppokcmfaaE
set_option linter.unusedVariables false
set_option linter.unusedSimpArgs false
theorem xU {l:List Int}:∀ {m:List Int},l.Nodup→(∀ x ∈ l,x ∈ m)→l.length≤m.length:=by
 induction l with
 | nil=>intro m _ _; simp
 | cons x l ih =>
  intro m hn hs;obtain ⟨h1,h2⟩:=List.nodup_cons.1 hn;have hx:=hs x (by simp);have:=ih (m:=m.erase x) h2 (fun y hy=>(List.mem_erase_of_ne (fun (e:y=x)=>h1 (e ▸ hy))).2 (hs y (by simp [hy])))
  rw [List.length_erase_of_mem hx] at this
  have:0 < m.length:=List.length_pos_of_mem hx
  simp
  omega
def cnt (base w:List Int):Nat:=(w.filter (fun v=>decide (v ∈ base))).length
def Whole (O:List Int) (W:Int→List Int) (base:List Int):Prop:=(∀ t ∈ O,cnt base (W t)=0∨cnt base (W t)=(W t).length)∧∀ v ∈ base,∃ t ∈ O,v ∈ W t
section
variable {O:List Int} {W:Int→List Int} {base:List Int}
end
end Go.Proofs.YtnlkggppokcmfaaT
namespace Go.Proofs.YtnlkggppokcmfaaT
open Go Go.Proofs Go.Proofs.YtnlkggppokcmfaaE
set_option linter.unusedVariables false
set_option linter.unusedSimpArgs false
section
variable {O:List Int} {W:Int→List Int} {base:List Int}
end
end Go.Proofs.YtnlkggppokcmfaaT
namespace Go.Proofs.YtnlkggppokcmfaaT
open Go Go.Proofs Go.Proofs.YtnlkggppokcmfaaE
set_option linter.unusedVariables false
set_option linter.unusedSimpArgs false
def zM (s:Int) (w:List Int):Int:=w.foldl (fun x v=>w64 (x + v)) s
theorem zq {s:Int} {w:List Int} {k:Nat} (hk:k < w.length):zM s (w.take (k + 1))=w64 (zM s (w.take k) + idx w (k:Int)):=by
 unfold zM
 rw [List.take_succ_eq_append_getElem hk,List.foldl_append,(dL (n:=k) rfl hk:idx w (k:Int)=w[k])]
 rfl
section
variable {O:List Int} {W:Int→List Int} {want:Int}
def picks (O:List Int) (f:Nat→Prop) [DecidablePred f] (k:Nat):List Int:=((List.range k).filter (fun j=>decide (f j))).map (fun j:Nat=>idx O (j:Int))
end
end Go.Proofs.YtnlkggppokcmfaaT
namespace Go.Proofs.YtnlkggppokcmfaaT
open Go Go.Proofs Go.Proofs.YtnlkggppokcmfaaE
set_option linter.unusedVariables false
set_option linter.unusedSimpArgs false
theorem wbm (x:Int):w64 x=Int.bmod x 18446744073709551616:=by
 unfold w64 IntKind.wrap
 simp only [IntKind.bits,IntKind.signed,Bool.true_and,Int.bmod_def]
 have h1:(2 ^ 64:Int)=18446744073709551616:=by decide
 have h2:=Int.emod_nonneg x (show (18446744073709551616:Int)≠0 by decide);have h3:=Int.emod_lt_of_pos x (show (0:Int) < 18446744073709551616 by decide)
 simp only [h1]
 by_cases h:x % 18446744073709551616 < 9223372036854775808
 ·rw [if_neg (by simp; omega),if_pos (by simp; omega)]
  rfl
 ·rw [if_pos (by simp; omega),if_neg (by simp; omega)]
  rfl
theorem GV (x y:Int):w64 (w64 x + y)=w64 (x + y):=by rw [wbm,wbm,wbm,Int.bmod_add_bmod]
theorem zt:∀ (w:List Int) (s:Int),zM (w64 s) w=w64 (s + w.sum)
 | [],s=>by simp [zM]
 | v::w,s=>by
  show zM (w64 (w64 s + v)) w=_
  rw [GV,zt w,List.sum_cons,Int.add_assoc]
theorem zu (w:List Int):zM 0 w=w64 w.sum:=by
 have h:=zt w 0
 rw [Int.zero_add] at h
 exact h
section
variable {O:List Int} {W:Int→List Int} {want:Int}
end
end Go.Proofs.YtnlkggppokcmfaaT
namespace Go.Proofs.YtnlkggppokcmfaaT
open Go Go.Proofs Go.Proofs.YtnlkggppokcmfaaE
set_option linter.unusedVariables false
set_option linter.unusedSimpArgs false
section
variable {O:List Int} {W:Int→List Int}
end
end Go.Proofs.YtnlkggppokcmfaaT
namespace Go.Proofs.YtnlkggppokcmfaaT
open Go Go.Proofs Go.Proofs.YtnlkggppokcmfaaE
set_option linter.unusedVariables false
set_option linter.unusedSimpArgs false
section
variable {O:List Int} {W:Int→List Int}
end
end Go.Proofs.YtnlkggppokcmfaaT
namespace Go.Proofs.YtnlkggppokcmfaaT
open Go Go.Proofs Go.Proofs.YtnlkggppokcmfaaE
set_option linter.unusedVariables false
set_option linter.unusedSimpArgs false
section
variable {h:History}
end
end Go.Proofs.YtnlkggppokcmfaaT
namespace Go.Proofs.YtnlkggppokcmfaaT
open Go Go.Proofs Go.Proofs.YtnlkggppokcmfaaE
set_option linter.unusedVariables false
set_option linter.unusedSimpArgs false
end Go.Proofs.YtnlkggppokcmfaaT
namespace Go.Proofs.YtnlkggppokcmfaaT
open Go Go.Proofs Go.Proofs.YtnlkggppokcmfaaE
set_option linter.unusedVariables false
set_option linter.unusedSimpArgs false
end Go.Proofs.YtnlkggppokcmfaaT
namespace Go.Proofs.YtnlkggppokcmfaaT
open Go Go.Proofs Go.Proofs.YtnlkggppokcmfaaE
set_option linter.unusedVariables false
set_option linter.unusedSimpArgs false
section
variable {h:History}
end
end Go.Proofs.YtnlkggppokcmfaaT
namespace Go.Proofs.YtnlkggppokcmfaaT
open Go Go.Proofs Go.Proofs.YtnlkggppokcmfaaE
set_option linter.unusedVariables false
set_option linter.unusedSimpArgs false
def pos (l:List Int) (t:Int):Nat:=l.findIdx (fun x=>decide (x=t))
theorem vk {l:List Int} {t:Int}:pos l t < l.length↔t ∈ l:=by
 unfold pos
 rw [List.findIdx_lt_length]
 constructor
 ·rintro ⟨x,hx,h⟩;have:x=t:=by simpa using h
  exact this ▸ hx
 ·intro h;exact ⟨t,h,by simp⟩
theorem qh {l:List Int} {t:Int} (h:t ∈ l):idx l (pos l t:Int)=t:=by
 have hl:=vk.2 h
 rw [dL (n:=pos l t) rfl hl]
 have:=List.findIdx_getElem (xs:=l) (p:=fun x=>decide (x=t)) (w:=hl);exact of_decide_eq_true this
theorem yA {l:List Int} {i j:Nat} (hn:l.Nodup) (hi:i < l.length) (hj:j < l.length) (e:idx l (i:Int)=idx l (j:Int)):i=j:=by
 rw [dL (n:=i) rfl hi,dL (n:=j) rfl hj] at e
 have hp:=List.pairwise_iff_getElem.1 hn;rcases Nat.lt_trichotomy i j with h | h | h
 ·exact absurd e (hp i j hi hj h)
 ·exact h
 ·exact absurd e.symm (hp j i hj hi h)
theorem Ga {l:List Int} (hn:l.Nodup) {j:Nat} (hj:j < l.length):pos l (idx l (j:Int))=j:=by
 have hm:idx l (j:Int) ∈ l:=lJ hj;exact yA hn (vk.2 hm) hj (qh hm)
theorem Bl {l:List Int} (hn:l.Nodup) {t:Int} {j:Nat} (hj:j < l.length) (e:idx l (j:Int)=t):pos l t=j:=by rw [← e]; exact Ga hn hj
theorem yB {l:List Int} {k:Nat} {t:Int}:t ∈ l.take k↔∃ j:Nat,j < k∧j < l.length∧idx l (j:Int)=t:=by
 constructor
 ·intro h;obtain ⟨j,hj,e⟩:=List.getElem_of_mem h
  rw [List.length_take] at hj
  refine ⟨j,by omega,by omega,?_⟩
  rw [dL (n:=j) rfl (by omega),← e,List.getElem_take]
 ·rintro ⟨j,h1,h2,e⟩
  rw [dL (n:=j) rfl h2] at e
  rw [← e]
  exact List.mem_iff_getElem.2 ⟨j,by rw [List.length_take]; omega,by rw [List.getElem_take]⟩
structure jf (h:History) (l:List Int):Prop where
 nd:l.Nodup
 rg:∀ t ∈ l,0≤t∧t < (h.Txns.length:Int)∧(idx h.Txns t).Status≠2
 dn:∀ t:Nat,t < h.Txns.length→(idx h.Txns (t:Int)).Status=1→(t:Int) ∈ l
theorem Bn {l:List Int} {k:Nat} (hk:k < l.length) (h:(l.take k).Nodup):(l.take (k + 1)).Nodup↔idx l (k:Int) ∉ l.take k:=by
 rw [jg hk,List.nodup_append]
 simp [h]
 constructor
 ·intro h1 h2; exact h1 _ h2 rfl
 ·intro h1 x hx e; subst e; exact h1 hx
theorem jf.len {h:History} {l:List Int} (ho:jf h l):l.length≤h.Txns.length:=by
 have h1:∀ x ∈ l,x ∈ (List.range h.Txns.length).map (fun j:Nat=>(j:Int)):=fun x hx=>by
  have:=ho.rg x hx;exact List.mem_map.2 ⟨x.toNat,List.mem_range.2 (by omega),by omega⟩
 have:=xU ho.nd h1
 simpa using this
section
variable {h:History} {l:List Int}
abbrev sj (m:List (Int×Int)):List Int:=m.map (·.1)
theorem vo {x v:Int}:∀ {m:List (Int×Int)},sj (fO m x v)=if x ∈ sj m then sj m else sj m++[x]
 | []=>by simp [fO]
 | p::m=>by
  unfold fO
  by_cases e:p.1=x
  ·simp [e]
  ·rw [if_neg e]
   show p.1::sj (fO m x v)=_
   rw [vo]
   have e':¬ x=p.1:=fun h=>e h.symm
   by_cases hx:x ∈ sj m
   ·simp [hx]
   ·simp [hx,e']
theorem EY {x:Int} {m:List (Int×Int)}:jX m x=true↔x ∈ sj m:=by
 unfold jX
 simp [List.any_eq_true]
structure tX (l:List Int) (k:Nat) (m:List (Int×Int)):Prop where
 nd:(sj m).Nodup
 mem:∀ x,x ∈ sj m↔x ∈ l.take k
 at_:∀ j:Nat,j < k→(∀ i:Nat,j < i→i < k→idx l (i:Int)≠idx l (j:Int))→mat m (idx l (j:Int))=(j:Int)
theorem tX.zero:tX l 0 []:=⟨List.nodup_nil,fun x=>by simp,fun j hj=>absurd hj (Nat.not_lt_zero _)⟩
theorem tX.put {k:Nat} {m:List (Int×Int)} (hm:tX l k m) (hk:k < l.length):tX l (k + 1) (fO m (idx l (k:Int)) (k:Int)):=by
 refine ⟨?_,fun x => ?_,fun j hj hno => ?_⟩
 ·rw [vo]
  split
  ·exact hm.nd
  ·rename_i hx
   rw [List.nodup_append]
   exact ⟨hm.nd,by simp,by intro a ha b hb; rw [List.mem_singleton.1 hb]; intro e; exact hx (e ▸ ha)⟩
 ·rw [vo,jg hk,List.mem_append,List.mem_singleton]
  split
  ·rename_i hx
   rw [hm.mem]
   constructor
   ·exact .inl
   ·rintro (h | rfl)
    ·exact h
    ·exact (hm.mem _).1 hx
  ·rw [List.mem_append,List.mem_singleton,hm.mem]
 ·rw [rO]
  split
  ·rename_i e
   rcases Nat.lt_or_ge j k with h1 | h1
   ·exact absurd e.symm (hno k h1 (by omega))
   ·have:j=k:=by omega
    rw [this]
  ·rename_i e
   rcases Nat.lt_or_ge j k with h1 | h1
   ·exact hm.at_ j h1 (fun i h2 h3=>hno i h2 (by omega))
   ·have:j=k:=by omega
    subst this;exact absurd rfl e
theorem tX.len {m:List (Int×Int)} (hm:tX l l.length m):m.length=l.length↔l.Nodup:=by
 have hmem:∀ x,x ∈ sj m↔x ∈ l:=fun x=>by rw [hm.mem,List.take_length]
 have hl:(sj m).length=m.length:=List.length_map _
 constructor
 ·intro he
  apply Classical.byContradiction
  intro hn;have:∃ i j:Nat,i < j∧j < l.length∧idx l (i:Int)=idx l (j:Int):=by
   apply Classical.byContradiction
   intro hno;refine hn (List.pairwise_iff_getElem.2 fun i j hi hj hij e=>hno ⟨i,j,hij,hj,?_⟩)
   rw [dL (n:=i) rfl hi,dL (n:=j) rfl hj,e]
  obtain ⟨i,j,hij,hj,e⟩:=this;have hsub:∀ x ∈ sj m,x ∈ l.eraseIdx j:=fun x hx=>by
   have hx:=(hmem x).1 hx;obtain ⟨q,hq,rfl⟩:=EX hx
   rw [List.mem_eraseIdx_iff_getElem]
   by_cases hqj:q=j
   ·subst hqj;exact ⟨i,by omega,by omega,by rw [← dL (n:=i) rfl (by omega:i < l.length)]; exact e⟩
   ·exact ⟨q,by omega,by omega,(dL (n:=q) rfl hq).symm⟩
  have:=xU hm.nd hsub
  rw [List.length_eraseIdx,if_pos hj] at this
  omega
 ·intro hn;have h1:=xU hm.nd (fun x hx=>(hmem x).1 hx);have h2:=xU hn (fun x hx=>(hmem x).2 hx)
  omega
structure xm (l:List Int) (m:List (Int×Int)):Prop where
 has:∀ x,jX m x=true↔x ∈ l
 at_:∀ x ∈ l,mat m x=(pos l x:Int)
theorem tX.ord {m:List (Int×Int)} (hm:tX l l.length m) (hn:l.Nodup):xm l m:=by
 refine ⟨fun x=>by rw [EY,hm.mem,List.take_length],fun x hx => ?_⟩
 have hl:=vk.2 hx;have:=hm.at_ (pos l x) hl (fun i h1 h2 e=>by have:=yA hn h2 hl e; omega)
 rwa [qh hx] at this
theorem xm.hasB {m:List (Int×Int)} (hm:xm l m) (x:Int):jX m x=decide (x ∈ l):=by
 by_cases hx:x ∈ l
 ·rw [(hm.has x).2 hx,decide_eq_true hx]
 ·rw [decide_eq_false hx]
  cases e:jX m x with
  | false=>rfl
  | true=>exact absurd ((hm.has x).1 e) hx
theorem zw (a2:h.Txns.length≤32) (hl:l.length < 2 ^ 60):Tri (dC h l) (fun r=>r.1.h=h∧r.1.order=l∧(r.2=true↔jf h l)∧(r.2=true→xm l r.1.at_)):=by
 unfold dC;refine gG (k0:=0) l.length (fun k s=>s.2=(k:Int)∧tX l k s.1∧∀ t ∈ l.take k,0≤t∧t < (h.Txns.length:Int)∧(idx h.Txns t).Status≠2) (Nat.zero_le _) ⟨rfl,tX.zero,fun t ht=>by simp at ht⟩ ?_
 rintro k ⟨m,x⟩ hk ⟨rfl,hm,hrg⟩;have hw:w64 ((k:Int) + 1)=((k + 1:Nat):Int):=dE (by omega);unfold sZ nK
 dsimp only at hm ⊢
 rw [hw]
 have bad:∀ t ∈ l,¬ (0≤t∧t < (h.Txns.length:Int)∧(idx h.Txns t).Status≠2) → ¬ jf h l:=fun t ht hn ho=>hn (ho.rg t ht);have no:∀ {m:List (Int×Int)},¬ jf h l→(⟨h,l,m⟩:bE).h=h∧(⟨h,l,m⟩:bE).order=l∧((false:Bool)=true↔jf h l)∧((false:Bool)=true→xm l (⟨h,l,m⟩:bE).at_):=fun hn=>⟨rfl,rfl,⟨fun h=>(nomatch h),fun h=>absurd h hn⟩,fun h=>(nomatch h)⟩;refine aB (fun h1 => ?_) (fun h1 => ?_)
 ·have a0:k < l.length:=by omega
  have hmem:idx l (k:Int) ∈ l:=lJ a0;refine az (by omega) ?_;refine aB (fun h2 => ?_) (fun h2 => ?_)
  ·exact aB (fun _=>aJ (aj (no (bad _ hmem (fun h3=>by omega))))) (fun h3=>absurd trivial h3)
  ·refine aB (fun h3 => ?_) (fun h3 => ?_)
   ·exact aB (fun _=>aJ (aj (no (bad _ hmem (fun h3=>by omega))))) (fun h3=>absurd trivial h3)
   ·refine az (by omega) ?_;refine aB (fun h4=>aJ (aj (no (bad _ hmem (fun h5=>h5.2.2 h4))))) (fun h4 => ?_);refine aj ⟨a0,rfl,hm.put a0,fun t ht => ?_⟩
    rw [jg a0,List.mem_append,List.mem_singleton] at ht
    rcases ht with ht | rfl
    ·exact hrg t ht
    ·exact ⟨by omega,by omega,h4⟩
 ·have:k=l.length:=by omega
  subst this
  rw [List.take_length] at hrg
  refine aB (fun h2 => ?_) (fun h2 => ?_)
  ·exact aJ (aj (no (fun ho=>h2 (by have:=hm.len.2 ho.nd; omega))))
  ·have hnd:l.Nodup:=hm.len.1 (by omega);have hom:=hm.ord hnd;have hb:=hom.hasB
   suffices hs:Tri (iter (pU h l m) 0) (fun y:(List (Int×Int)×Int) ⊕ (bE×Bool)=>∃ b,y = .inr (⟨h,l,m⟩,b)∧(b=true↔jf h l)) from
    dW hs (by rintro y ⟨b,rfl,hb⟩; exact ⟨rfl,rfl,hb,fun _=>hom⟩)
   refine gG (k0:=0) h.Txns.length (fun j s=>s=(j:Int)∧∀ t:Nat,t < j→(idx h.Txns (t:Int)).Status=1→(t:Int) ∈ l) (Nat.zero_le _) ⟨rfl,fun t ht=>absurd ht (Nat.not_lt_zero _)⟩ ?_;rintro j s hj ⟨rfl,hdn⟩;have hw:w64 ((j:Int) + 1)=((j + 1:Nat):Int):=dE (by omega);unfold pU pR
   dsimp only
   rw [hw,hb]
   refine aB (fun h3 => ?_) (fun h3 => ?_)
   ·have a1:j < h.Txns.length:=by omega
    have next:((idx h.Txns (j:Int)).Status=1→(j:Int) ∈ l)→Upm h.Txns.length j (fun j s=>s=(j:Int)∧∀ t:Nat,t < j→(idx h.Txns (t:Int)).Status=1→(t:Int) ∈ l) (fun y:(List (Int×Int)×Int) ⊕ (bE×Bool)=>∃ b,y = .inr (⟨h,l,m⟩,b)∧(b=true↔jf h l)) (.inl ((j + 1:Nat):Int)):=fun h4=>⟨a1,rfl,fun t ht hst=>by
     rcases Nat.lt_or_ge t j with h5 | h5
     ·exact hdn t h5 hst
     ·have:t=j:=by omega
      subst this;exact h4 hst⟩
    refine az (by omega) ?_;refine aB (fun h4 => ?_) (fun h4 => ?_)
    ·refine aB (fun h5 => ?_) (fun h5=>aj (next (fun h6=>absurd h6 h5)));refine aJ (aJ (aj ⟨false,rfl,fun h=>(nomatch h),fun ho=>absurd (ho.dn j a1 h5) h4⟩))
    ·refine aB (fun h5=>absurd h5 (by simp)) (fun h5=>aj (next (fun _=>Classical.byContradiction h4)))
   ·have:j=h.Txns.length:=by omega
    subst this;exact aJ (aJ (aj ⟨true,rfl,fun _=>⟨hnd,hrg,hdn⟩,fun _=>rfl⟩))
structure Bo (h:History) (l:List Int) (at_:List Int):Prop where
 len:at_.length=h.Txns.length
 at_:∀ t:Nat,t < h.Txns.length→idx at_ (t:Int)=if (t:Int) ∈ l then (pos l (t:Int):Int) + 1 else 0
theorem xB (a3:h.Txns.length≤32) (hl:l.length < 2 ^ 60):Tri (aL h l) (fun r=>(r.2=true↔jf h l)∧(r.2=true→Bo h l r.1)∧(r.2=false→r.1=[])):=by
 unfold aL;refine az (by omega) ?_;refine gG (k0:=0) l.length (fun k s=>s.2=(k:Int)∧s.1.length=h.Txns.length∧(l.take k).Nodup∧(∀ t ∈ l.take k,0≤t∧t < (h.Txns.length:Int)∧(idx h.Txns t).Status≠2) ∧
  ∀ t:Nat,t < h.Txns.length→(∀ j:Nat,j < k→idx l (j:Int)=(t:Int)→idx s.1 (t:Int)=(j:Int) + 1)∧((t:Int) ∉ l.take k→idx s.1 (t:Int)=0)) (Nat.zero_le _)
  ⟨rfl,by simp,by simp,fun t ht=>by simp at ht,fun t ht=>⟨fun j hj=>absurd hj (Nat.not_lt_zero _),fun _=>by rw [dL (n:=t) rfl (by simpa using ht)]; simp⟩⟩ ?_
 rintro k ⟨a,x⟩ hk ⟨rfl,hal,hnd,hrg,hat⟩;have hw:w64 ((k:Int) + 1)=((k + 1:Nat):Int):=dE (by omega);unfold jN eH
 dsimp only at hal hat ⊢
 rw [hw]
 have no:¬ jf h l→((([]:List Int),false).2=true↔jf h l)∧((([]:List Int),false).2=true→Bo h l (([]:List Int),false).1)∧((([]:List Int),false).2=false→(([]:List Int),false).1=[]):=fun hn=>⟨⟨fun h=>(nomatch h),fun h=>absurd h hn⟩,fun h=>(nomatch h),fun _=>rfl⟩;refine aB (fun h1 => ?_) (fun h1 => ?_)
 ·have a0:k < l.length:=by omega
  have hmem:idx l (k:Int) ∈ l:=lJ a0;refine az (by omega) ?_;refine aB (fun h2=>aB (fun _=>aJ (aj (no (fun ho=>by have:=ho.rg _ hmem; omega)))) (fun h3=>absurd trivial h3)) (fun h2 => ?_);refine aB (fun h3=>aB (fun _=>aJ (aj (no (fun ho=>by have:=ho.rg _ hmem; omega)))) (fun h3=>absurd trivial h3)) (fun h3 => ?_);obtain ⟨t,ht⟩:∃ t:Nat,idx l (k:Int)=(t:Int):=⟨(idx l (k:Int)).toNat,by omega⟩
  rw [ht] at h2 h3 hmem ⊢
  have htl:t < h.Txns.length:=by omega
  obtain ⟨q1,q2⟩:=hat t htl;refine az (by omega) ?_;refine aB (fun h4=>aB (fun _=>aJ (aj (no (fun ho => ?_)))) (fun h3=>absurd trivial h3)) (fun h4 => ?_)
  ·
   have hin:(t:Int) ∈ l.take k:=Classical.byContradiction fun h5=>h4 (q2 h5);obtain ⟨j,a2,a1,e⟩:=yB.1 hin;have:=yA ho.nd a1 a0 (e.trans ht.symm)
   omega
  ·have hni:(t:Int) ∉ l.take k:=fun h5=>by
    obtain ⟨j,a2,a1,e⟩:=yB.1 h5;have h6:=q1 j a2 e;exact h4 (by omega)
   refine az (by omega) ?_;refine aB (fun h5=>aJ (aj (no (fun ho=>(ho.rg _ hmem).2.2 h5)))) (fun h5 => ?_);refine az (by omega) (aj ⟨a0,rfl,by rw [List.length_set]; exact hal,(Bn a0 hnd).2 (by rw [ht]; exact hni),fun u hu => ?_,fun u hu => ?_⟩)
   ·rw [jg a0,List.mem_append,List.mem_singleton,ht] at hu
    rcases hu with hu | rfl
    ·exact hrg u hu
    ·exact ⟨by omega,by omega,h5⟩
   ·dsimp only
    rw [Int.toNat_natCast,lw (by omega)]
    obtain ⟨p1,p2⟩:=hat u hu;refine ⟨fun j hj e => ?_,fun hn => ?_⟩
    ·by_cases hut:u=t
     ·subst hut
      rw [if_pos rfl]
      rcases Nat.lt_or_ge j k with h6 | h6
      ·exact absurd (yB.2 ⟨j,h6,by omega,e⟩) hni
      ·have:j=k:=by omega
       subst this
       omega
     ·rw [if_neg hut]
      rcases Nat.lt_or_ge j k with h6 | h6
      ·exact p1 j h6 e
      ·have:j=k:=by omega
       subst this
       rw [ht] at e
       omega
    ·rw [jg a0,List.mem_append,List.mem_singleton,ht] at hn
     have hut:¬ u=t:=fun e=>hn (.inr (by rw [e]))
     rw [if_neg hut]
     exact p2 (fun h6=>hn (.inl h6))
 ·have:k=l.length:=by omega
  subst this
  rw [List.take_length] at hnd hrg
  have hP:Bo h l a:=by
   refine ⟨hal,fun t ht => ?_⟩;obtain ⟨q1,q2⟩:=hat t ht
   rw [List.take_length] at q2
   split
   ·rename_i hin
    exact q1 _ (vk.2 hin) (qh hin)
   ·rename_i hin
    exact q2 hin
  suffices hs:Tri (iter (iD h a) 0) (fun y:(List Int×Int) ⊕ (List Int×Bool)=>(y = .inr (a,true)∧jf h l)∨(y = .inr ([],false) ∧ ¬ jf h l)) from
   dW hs (by
    rintro y (⟨rfl,ho⟩ | ⟨rfl,ho⟩)
    ·exact ⟨⟨fun _=>ho,fun _=>rfl⟩,fun _=>hP,fun h=>(nomatch h)⟩
    ·exact no ho)
  refine gG (k0:=0) h.Txns.length (fun j s=>s=(j:Int)∧∀ t:Nat,t < j→(idx h.Txns (t:Int)).Status=1→(t:Int) ∈ l) (Nat.zero_le _) ⟨rfl,fun t ht=>absurd ht (Nat.not_lt_zero _)⟩ ?_;rintro j s hj ⟨rfl,hdn⟩;have hw:w64 ((j:Int) + 1)=((j + 1:Nat):Int):=dE (by omega);unfold iD iC
  dsimp only
  rw [hw]
  refine aB (fun h3 => ?_) (fun h3 => ?_)
  ·have a1:j < h.Txns.length:=by omega
   have hpj:=hP.at_ j a1;have next:((idx h.Txns (j:Int)).Status=1→(j:Int) ∈ l)→Upm h.Txns.length j (fun j s=>s=(j:Int)∧∀ t:Nat,t < j→(idx h.Txns (t:Int)).Status=1→(t:Int) ∈ l) (fun y:(List Int×Int) ⊕ (List Int×Bool)=>(y = .inr (a,true)∧jf h l)∨(y = .inr ([],false) ∧ ¬ jf h l)) (.inl ((j + 1:Nat):Int)):=fun h4=>⟨a1,rfl,fun t ht hst=>by
    rcases Nat.lt_or_ge t j with h5 | h5
    ·exact hdn t h5 hst
    ·have:t=j:=by omega
     subst this;exact h4 hst⟩
   refine az (by omega) ?_;refine aB (fun h4 => ?_) (fun h4 => ?_)
   ·refine az (by omega) ?_;refine aB (fun h5 => ?_) (fun h5=>aj (next (fun _ => ?_)))
    ·refine aJ (aJ (aj (.inr ⟨rfl,fun ho => ?_⟩)))
     rw [if_pos (ho.dn j a1 h4)] at hpj
     omega
    ·apply Classical.byContradiction
     intro h6
     rw [if_neg h6] at hpj
     exact h5 hpj
   ·exact aB (fun h5=>absurd h5 (by simp)) (fun h5=>aj (next (fun h6=>absurd h6 h4)))
  ·have:j=h.Txns.length:=by omega
   subst this;exact aJ (aJ (aj (.inl ⟨rfl,hnd,hrg,hdn⟩)))
end
end Go.Proofs.YtnlkggppokcmfaaT
namespace Go.Proofs.YtnlkggppokcmfaaT
open Go Go.Proofs Go.Proofs.YtnlkggppokcmfaaE
set_option linter.unusedVariables false
set_option linter.unusedSimpArgs false
abbrev srt (l:List Int):List Int:=l.mergeSort fun x y=>decide (x≤y)
theorem Bp (l:List Int):(srt l).Pairwise (· ≤ ·) :=
 (List.pairwise_mergeSort (le:=fun x y:Int=>decide (x≤y)) (fun a b c h1 h2=>by simp at *; omega) (fun a b=>by simp; omega) l).imp (fun h=>by simpa using h)
theorem Dk {s l:List Int} (hp:s.Perm l) (hs:s.Pairwise (· ≤ ·)):s=srt l :=
 List.Perm.eq_of_pairwise (le:=(· ≤ ·)) (fun a b _ _ h1 h2=>Int.le_antisymm h1 h2) hs (Bp l) (hp.trans (List.mergeSort_perm l _).symm)
def But (s:List Int) (k:Nat):Prop:=(∀ i j:Nat,i < j→j < s.length→i≠k→j≠k→idx s (i:Int)≤idx s (j:Int))∧∀ j:Nat,k < j→j < s.length→idx s (k:Int)≤idx s (j:Int)
theorem Dl {s:List Int}:s.Pairwise (· ≤ ·)↔∀ i j:Nat,i < j→j < s.length→idx s (i:Int)≤idx s (j:Int):=by
 rw [List.pairwise_iff_getElem]
 constructor
 ·intro h i j hij hj
  rw [dL (n:=i) rfl (by omega),dL (n:=j) rfl hj]
  exact h i j (by omega) hj hij
 ·intro h i j hi hj hij;have:=h i j hij hj
  rwa [dL (n:=i) rfl (by omega),dL (n:=j) rfl hj] at this
theorem But.done {s:List Int} {k:Nat} (hb:But s k) (h:k=0∨idx s ((k - 1:Nat):Int)≤idx s (k:Int)):s.Pairwise (· ≤ ·):=by
 rw [Dl]
 intro i j hij hj
 by_cases hi:i=k
 ·subst hi; exact hb.2 j hij hj
 ·by_cases hjk:j=k
  ·subst hjk;rcases h with h | h
   ·omega
   ·by_cases a0:i=j - 1
    ·subst a0; exact h
    ·exact Int.le_trans (hb.1 i (j - 1) (by omega) (by omega) hi (by omega)) h
  ·exact hb.1 i j hij hj hi hjk
theorem But.swap {s:List Int} {k:Nat} (hb:But s k) (hk:0 < k) (hl:k < s.length) (h:idx s (k:Int) < idx s ((k - 1:Nat):Int)):But ((s.set k (idx s ((k - 1:Nat):Int))).set (k - 1) (idx s (k:Int))) (k - 1):=by
 have at_:∀ q:Nat,idx ((s.set k (idx s ((k - 1:Nat):Int))).set (k - 1) (idx s (k:Int))) (q:Int)=if q=k - 1 then idx s (k:Int) else if q=k then idx s ((k - 1:Nat):Int) else idx s (q:Int):=fun q=>by
  rw [lw (by rw [List.length_set]; omega),lw hl]
 constructor
 ·intro i j hij hj hi a0
  simp only [List.length_set] at hj
  rw [at_,at_,if_neg hi,if_neg a0]
  by_cases hik:i=k
  ·rw [if_pos hik,if_neg (by omega)]
   exact hb.1 (k - 1) j (by omega) hj (by omega) (by omega)
  ·rw [if_neg hik]
   by_cases hjk:j=k
   ·rw [if_pos hjk]
    exact hb.1 i (k - 1) (by omega) (by omega) hik (by omega)
   ·rw [if_neg hjk]
    exact hb.1 i j hij hj hik hjk
 ·intro j a1 hj
  simp only [List.length_set] at hj
  rw [at_,at_,if_pos rfl,if_neg (by omega)]
  by_cases hjk:j=k
  ·rw [if_pos hjk]; omega
  ·rw [if_neg hjk]; exact hb.2 j (by omega) hj
theorem Aj {l:List Int} (hl:l.length < 2 ^ 40):aQ l=some (srt l):=by
 refine kZ.1 ?_;unfold aQ;refine gG (k0:=0) l.length (fun k s=>s.2=(k:Int)∧s.1.Perm (l.take k)∧s.1.Pairwise (· ≤ ·)) (Nat.zero_le _) ⟨rfl,by simp,List.Pairwise.nil⟩ ?_
 rintro k ⟨s,x⟩ hk ⟨rfl,hp,hs⟩;have hw:w64 ((k:Int) + 1)=((k + 1:Nat):Int):=dE (by omega)
 dsimp only at hp hs
 have hsl:s.length=k:=by have:=hp.length_eq; rw [List.length_take] at this; omega
 unfold jQ
 dsimp only
 refine aB (fun h1 => ?_) (fun h1 => ?_)
 ·have a0:k < l.length:=by omega
  refine az (by omega) (az (by omega) ?_);have e1:w64 (((s++[idx l (k:Int)]).length:Int) - 1)=(k:Int):=by
   rw [List.length_append,List.length_singleton,hsl,vz (by omega) (by omega)]; omega
  rw [e1]
  have a2:But (s++[idx l (k:Int)]) k:=by
   refine ⟨fun i j hij hj hi hjk => ?_,fun j a3 hj => ?_⟩
   ·rw [List.length_append,List.length_singleton] at hj
    rw [iG (by omega),iG (by omega)]
    exact Dl.1 hs i j hij (by omega)
   ·rw [List.length_append,List.length_singleton] at hj
    omega
  refine gG (k0:=0) k (fun q t=>∃ p:Nat,p + q=k∧t.2=(p:Int)∧t.1.Perm (l.take (k + 1))∧But t.1 p) (Nat.zero_le _) ⟨k,rfl,rfl,by rw [jg a0]; exact hp.append_right _,a2⟩ ?_
  rintro q ⟨t,y⟩ hq ⟨p,hpq,rfl,htp,hbt⟩
  dsimp only at htp hbt
  have htl:t.length=k + 1:=by have:=htp.length_eq; rw [List.length_take] at this; omega
  unfold jP iE jO
  dsimp only
  have stop:(p=0∨idx t ((p - 1:Nat):Int)≤idx t (p:Int))→Upm l.length k (fun k s=>s.2=(k:Int)∧s.1.Perm (l.take k)∧s.1.Pairwise (· ≤ ·)) (fun r=>r=srt l) (.inl (t,w64 ((k:Int) + 1))):=fun h2=>⟨a0,hw,htp,hbt.done h2⟩;refine aB (fun h2 => ?_) (fun h2 => ?_)
  ·have a1:0 < p:=by omega
   have e2:w64 ((p:Int) - 1)=((p - 1:Nat):Int):=by rw [vz (by omega) (by omega)]; omega
   rw [e2]
   refine az (by omega) (az (by omega) ?_);refine aB (fun h3 => ?_) (fun h3 => ?_)
   ·refine az (by omega) (az (by omega) (aj ⟨by omega,p - 1,by omega,rfl,?_,?_⟩))
    ·dsimp only
     rw [Int.toNat_natCast,Int.toNat_natCast,dL (n:=p - 1) rfl (by omega),dL (n:=p) rfl (by omega)]
     exact (List.set_set_perm (by omega) (by omega)).trans htp
    ·dsimp only
     rw [Int.toNat_natCast,Int.toNat_natCast]
     exact hbt.swap a1 (by omega) h3
   ·exact aJ (aj (stop (.inr (by omega))))
  ·exact aB (fun h=>absurd h (by simp)) (fun _=>aJ (aj (stop (.inl (by omega)))))
 ·have:k=l.length:=by omega
  subst this
  rw [List.take_length] at hp
  exact aJ (aj (Dk hp hs))
def fin (ty:Int) (w:List Int):List Int:=if ty=1 then w.drop (w.length - 1) else if ty=3 then srt w else if ty=4 then [w64 w.sum] else w
theorem EZ {ty:Int} {w:List Int}:(fin ty w).length≤w.length + 1:=by
 unfold fin
 split
 ·rw [List.length_drop]; omega
 ·split
  ·rw [List.length_mergeSort]; omega
  ·split
   ·simp
   ·omega
theorem yC {α:Type} (l:List α) {n:Nat} (hn:n≤l.length):di l (n:Int) (l.length:Int)=l.drop n:=by
 unfold di
 rw [Int.toNat_natCast,Int.toNat_natCast,List.take_length]
theorem Ak {st:bE} {key ty:Int} {w:List Int} (hT:dJ st.h key=some ty) (hw:w.length < 2 ^ 40):fG st key w=some (fin ty w):=by
 refine kZ.1 ?_;unfold fG;refine dw hT ?_;unfold fin;refine aB (fun h1 => ?_) (fun h1 => ?_)
 ·rw [if_pos h1]
  have e:zP 0 (w64 ((w.length:Int) - 1))=((w.length - 1:Nat):Int):=by
   rw [vz (by omega) (by omega)]
   unfold zP
   split <;> omega
  rw [e]
  refine az (by omega) (aj ?_);exact yC w (by omega)
 ·rw [if_neg h1]
  refine aB (fun h2 => ?_) (fun h2 => ?_)
  ·rw [if_pos h2]
   unfold mf iq
   rw [um _ (by omega)]
   exact bS (aj rfl)
  ·rw [if_neg h2]
   refine aB (fun h3 => ?_) (fun h3 => ?_)
   ·rw [if_pos h3]
    refine gG (k0:=0) w.length (fun k s=>s.2=(k:Int)∧s.1=zM 0 (w.take k)) (Nat.zero_le _) ⟨rfl,rfl⟩ ?_;rintro k ⟨x,i⟩ hk ⟨rfl,hx⟩
    dsimp only at hx
    have hw:w64 ((k:Int) + 1)=((k + 1:Nat):Int):=dE (by omega);unfold jK
    dsimp only
    rw [hw]
    refine aB (fun h4 => ?_) (fun h4 => ?_)
    ·have a0:k < w.length:=by omega
     exact az (by omega) (aj ⟨a0,rfl,by dsimp only; rw [zq a0,hx]⟩)
    ·have:k=w.length:=by omega
     subst this;refine aJ (aj ?_)
     rw [hx,List.take_length,zu]
     rfl
   ·rw [if_neg h3]
    exact aj rfl
theorem Cc {ty:Int} {w:List Int} (hw:w.length < 2 ^ 40):eO ty w=some (fin ty w):=by
 refine kZ.1 ?_;unfold eO dA;unfold fin;refine aB (fun h1 => ?_) (fun h1 => ?_)
 ·rw [if_pos h1]
  refine aB (fun h2 => ?_) (fun h2 => ?_)
  ·have e:w64 ((w.length:Int) - 1)=((w.length - 1:Nat):Int):=by
    rw [vz (by omega) (by omega)]; omega
   rw [e]
   refine az (by omega) (aj ?_);exact yC w (by omega)
  ·have:w=[]:=List.length_eq_zero_iff.1 (by omega);subst this;exact aj rfl
 ·rw [if_neg h1]
  refine aB (fun h2 => ?_) (fun h2 => ?_)
  ·rw [if_pos h2]
   exact dw (Aj hw) (aj rfl)
  ·rw [if_neg h2]
   refine aB (fun h3 => ?_) (fun h3 => ?_)
   ·rw [if_pos h3]
    refine gG (k0:=0) w.length (fun k s=>s.2=(k:Int)∧s.1=zM 0 (w.take k)) (Nat.zero_le _) ⟨rfl,rfl⟩ ?_;rintro k ⟨x,i⟩ hk ⟨rfl,hx⟩
    dsimp only at hx
    have hw:w64 ((k:Int) + 1)=((k + 1:Nat):Int):=dE (by omega);unfold jR dA
    dsimp only
    rw [hw]
    refine aB (fun h4 => ?_) (fun h4 => ?_)
    ·have a0:k < w.length:=by omega
     exact az (by omega) (aj ⟨a0,rfl,by dsimp only; rw [zq a0,hx]⟩)
    ·have:k=w.length:=by omega
     subst this;refine aJ (aj ?_)
     rw [hx,List.take_length,zu]
     rfl
   ·rw [if_neg h3]
    exact aj rfl
def wrs (h:History) (l:List Int) (key:Int):List Int:=l.flatMap (fun o=>qg h o key)
def lM (h:History) (l:List Int) (key t:Int):List Int:=if 0≤t then wrs h (l.take (pos l t + 1)) key else []
section
variable {h:History} {l:List Int}
theorem yD {key:Int} {k:Nat} (hk:k < l.length):wrs h (l.take (k + 1)) key=wrs h (l.take k) key++qg h (idx l (k:Int)) key:=by
 unfold wrs
 rw [jg hk,List.flatMap_append]
 simp
theorem FT (hS:si h) {o key:Int} (ho:0≤o∧o < (h.Txns.length:Int)):(qg h o key).length≤16:=by
 obtain ⟨n,rfl⟩:∃ n:Nat,o=(n:Int):=⟨o.toNat,by omega⟩
 exact Nat.le_trans Ai (hS.txn n (by omega)).ops.1
theorem uo (hS:si h) (ho:jf h l) {key:Int}:∀ k,k≤l.length→(wrs h (l.take k) key).length≤16 * k
 | 0,_=>by simp [wrs]
 | k + 1,hk=>by
  have h1:=uo hS ho (key:=key) k (by omega);have h2:=ho.rg _ (lJ (show k < l.length by omega));have h3:=FT hS (key:=key) ⟨h2.1,h2.2.1⟩
  rw [yD (by omega),List.length_append]
  omega
theorem Al (hS:si h) (ho:jf h l) {key t:Int}:(lM h l key t).length≤512:=by
 unfold lM
 split
 ·have h1:=ho.len;have h2:=hS.len;rcases Nat.lt_or_ge (pos l t) l.length with h3 | h3
  ·have:=uo hS ho (key:=key) (pos l t + 1) (by omega)
   omega
  ·have:=uo hS ho (key:=key) l.length (Nat.le_refl _)
   rw [List.take_of_length_le (by omega)]
   rw [List.take_length] at this
   omega
 ·simp
theorem zN (hS:si h) (ho:jf h l) {m:List (Int×Int)} (hm:xm l m) {key ty t:Int} (hT:dJ h key=some ty) (ht:t < 0∨t ∈ l) :
  au ⟨h,l,m⟩ key t=some (fin ty (lM h l key t)):=by
 have hll:=ho.len;have a4:=hS.len;have ha:=Al hS ho (key:=key) (t:=t);refine kZ.1 ?_;unfold au;refine aB (fun h1 => ?_) (fun h1 => ?_)
 ·have htm:t ∈ l:=by rcases ht with h | h; omega; exact h
  have hp:=vk.2 htm;have e:w64 (mat m t + 1)=((pos l t + 1:Nat):Int):=by rw [hm.at_ t htm]; exact dE (by omega)
  dsimp only
  rw [e]
  refine az (by omega) ?_;have haa:lM h l key t=wrs h (l.take (pos l t + 1)) key:=if_pos (by omega)
  rw [haa] at ha ⊢
  refine gG (k0:=0) (pos l t + 1) (fun k s=>s=(wrs h (l.take k) key,(k:Int))) (Nat.zero_le _) rfl ?_;rintro k s hk rfl;have hw:w64 ((k:Int) + 1)=((k + 1:Nat):Int):=dE (by omega);have hkl:=uo hS ho (key:=key) k (by omega);have hsub:di l (0:Int) ((pos l t + 1:Nat):Int)=l.take (pos l t + 1):=nk (by omega);unfold jM
  dsimp only
  rw [e,hsub,List.length_take,Nat.min_eq_left (by omega)]
  refine aB (fun h2 => ?_) (fun h2 => ?_)
  ·have a1:k < pos l t + 1:=by omega
   rw [oW a1]
   have hr:=ho.rg _ (lJ (show k < l.length by omega));refine az (by omega) (az ⟨hr.1,hr.2.1⟩ ?_);have a3:(idx h.Txns (idx l (k:Int))).Ops.length≤16:=by
    obtain ⟨n,hn⟩:∃ n:Nat,idx l (k:Int)=(n:Int):=⟨(idx l (k:Int)).toNat,by omega⟩
    rw [hn] at hr ⊢
    exact (hS.txn n (by omega)).ops.1
   refine gG (k0:=0) (idx h.Txns (idx l (k:Int))).Ops.length (fun p s=>s=(wrs h (l.take k) key++xk (idx h.Txns (idx l (k:Int))).Ops key p,(p:Int))) (Nat.zero_le _) (by rw [Cz,List.append_nil]; rfl) ?_;rintro p s a5 rfl;have a2:w64 ((p:Int) + 1)=((p + 1:Nat):Int):=dE (by omega);have hol:=yz (ops:=(idx h.Txns (idx l (k:Int))).Ops) (key:=key) (p:=p);unfold jL iy iw
   dsimp only
   rw [e,hsub,oW a1,a2]
   refine aB (fun h3 => ?_) (fun h3 => ?_)
   ·have a0:p < (idx h.Txns (idx l (k:Int))).Ops.length:=by omega
    have hos:=zo (key:=key) a0;refine az (by omega) ?_;refine aB (fun h4 => ?_) (fun h4 => ?_)
    ·refine aB (fun h5 => ?_) (fun h5 => ?_)
     ·refine az (by rw [List.length_append]; omega) (aj ⟨a0,?_⟩)
      rw [if_pos ⟨h4,h5⟩] at hos
      rw [hos,List.append_assoc]
     ·refine aj ⟨a0,?_⟩
      rw [if_neg (fun h=>h5 h.2)] at hos
      rw [hos]
    ·refine aB (fun h5=>absurd h5 (by simp)) (fun h5=>aj ⟨a0,?_⟩)
     rw [if_neg (fun h=>h4 h.1)] at hos
     rw [hos]
   ·have:p=(idx h.Txns (idx l (k:Int))).Ops.length:=by omega
    subst this;refine aJ (aj ⟨a1,?_⟩)
    dsimp only
    rw [hw,yD (by omega)]
    rfl
  ·have:k=pos l t + 1:=by omega
   subst this;exact aJ (kZ.2 (Ak hT (by omega)))
 ·have haa:lM h l key t=[]:=if_neg (by omega)
  rw [haa]
  exact kZ.2 (Ak hT (by simp))
theorem Am (hS:si h) (ho:jf h l) {key ty t:Int} (ht:t < 0∨t ∈ l):aC h l ty key t=some (fin ty (lM h l key t)):=by
 have hll:=ho.len;have a3:=hS.len;refine kZ.1 ?_;unfold aC;refine gG (k0:=0) (l.length + 1) (fun k s=>s=(wrs h (l.take k) key,(k:Int))∧k≤l.length∧(0≤t→k≤pos l t)∧(t < 0→k=0)) (Nat.zero_le _) ⟨rfl,Nat.zero_le _,fun _=>Nat.zero_le _,fun _=>rfl⟩ ?_;rintro k s hk ⟨rfl,hkl,hkp,a1⟩;have hw:w64 ((k:Int) + 1)=((k + 1:Nat):Int):=dE (by omega);have a4:=uo hS ho (key:=key) k hkl;unfold jS iF
 dsimp only
 rw [hw]
 by_cases htn:t < 0
 ·have:k=0:=a1 htn;subst this;have haa:lM h l key t=[]:=if_neg (by omega);have hj:Tri (out (σ:=List Int×Int) (eO ty (wrs h (l.take 0) key))) (Upm (l.length + 1) 0 (fun k s=>s=(wrs h (l.take k) key,(k:Int))∧k≤l.length∧(0≤t→k≤pos l t)∧(t < 0→k=0)) (fun r=>r=fin ty (lM h l key t))):=by
   rw [haa]
   exact aJ (kZ.2 (Cc (by simp [wrs])))
  refine aB (fun h1 => ?_) (fun h1=>aB (fun h2=>absurd h2 (by simp)) (fun _=>hj));exact aB (fun h2=>by omega) (fun _=>hj)
 ·have htm:t ∈ l:=by rcases ht with h | h; exact absurd h htn; exact h
  have hp:=vk.2 htm;have hkp:=hkp (by omega);have a0:k < l.length:=by omega
  have hr:=ho.rg _ (lJ a0);have a2:=FT hS (key:=key) ⟨hr.1,hr.2.1⟩;refine aB (fun h1 => ?_) (fun h1=>by omega);refine aB (fun h2 => ?_) (fun h2=>by omega);have hW:aO h (idx l (k:Int)) key=some (qg h (idx l (k:Int)) key):=by
   obtain ⟨n,hn⟩:∃ n:Nat,idx l (k:Int)=(n:Int):=⟨(idx l (k:Int)).toNat,by omega⟩
   rw [hn] at hr ⊢
   exact Bj ⟨by omega,by omega⟩ (hS.txn n (by omega)).ops.1
  refine az (by omega) (dw hW (az (by omega) ?_))
  rw [← yD a0]
  refine aB (fun h3 => ?_) (fun h3 => ?_)
  ·have e:pos l t=k:=Bl ho.nd a0 h3;have haa:lM h l key t=wrs h (l.take (k + 1)) key:=by unfold lM; rw [if_pos (by omega),e]
   rw [haa]
   have:=uo hS ho (key:=key) (k + 1) (by omega);exact aJ (kZ.2 (Cc (by omega)))
  ·refine aj ⟨by omega,rfl,by omega,fun _ => ?_,fun h=>absurd h htn⟩
   rcases Nat.lt_or_ge k (pos l t) with h4 | h4
   ·omega
   ·have:k=pos l t:=by omega
    rw [this,qh htm] at h3
    exact absurd rfl h3
end
end Go.Proofs.YtnlkggppokcmfaaT
namespace Go.Proofs.YtnlkggppokcmfaaT
open Go Go.Proofs Go.Proofs.YtnlkggppokcmfaaE
set_option linter.unusedVariables false
set_option linter.unusedSimpArgs false
def GA (h:History) (l:List Int):Prop:=∀ i k:Nat,k < i→i < h.Txns.length→(idx h.Txns (i:Int)).Proc=(idx h.Txns (k:Int)).Proc→(i:Int) ∈ l→(k:Int) ∈ l→pos l (k:Int) < pos l (i:Int)
def Ahead (h:History) (l:List Int) (a:Ask) (p:Int):Prop:=p ∈ l∧pos l p < pos l a.Txn∧0 < (qg h p a.Key).length
def kd (h:History) (a:Ask):Int:=typ (opAt h a.Txn a.Place).Kind
def ver (h:History) (l:List Int) (a:Ask) (p:Int):List Int:=fin (kd h a) (lM h l a.Key p)
open Classical in
noncomputable def GD (h:History) (l:List Int) (a:Ask) (p:Int):Int:=if p ≠ -1 ∧ ¬ Ahead h l a p then 5 else if ver h l a p≠a.Base then 6 else 0
def First (n:Nat) (v:Nat→Int) (r:Int):Prop:=(r=0∧∀ i,i < n→v i=0)∨(∃ i,i < n∧v i=r∧r≠0∧∀ j,j < i→v j=0)
theorem First.congr {n:Nat} {v u:Nat→Int} {r:Int} (h:First n v r) (e:∀ i,i < n→v i=u i):First n u r:=by
 rcases h with ⟨h1,h2⟩ | ⟨i,hi,e1,n1,b1⟩
 ·exact .inl ⟨h1,fun i hi=>(e i hi).symm.trans (h2 i hi)⟩
 ·exact .inr ⟨i,hi,(e i hi).symm.trans e1,n1,fun j hj=>(e j (by omega)).symm.trans (b1 j hj)⟩
inductive Why (h:History) (x:Exec):Int→Prop
 | bad:tV h h.Txns.length≠[]→Why h x 1
 | order:tV h h.Txns.length=[] → ¬ jf h x.Order→Why h x 2
 | picks:tV h h.Txns.length=[]→jf h x.Order→x.Picks.length≠(wu h h.Txns.length).length→Why h x 3
 | sess:tV h h.Txns.length=[]→jf h x.Order→x.Picks.length=(wu h h.Txns.length).length → ¬ GA h x.Order→Why h x 4
 | pick {r:Int}:tV h h.Txns.length=[]→jf h x.Order→x.Picks.length=(wu h h.Txns.length).length→GA h x.Order →
   First (wu h h.Txns.length).length (fun i=>GD h x.Order (idx (wu h h.Txns.length) (i:Int)) (idx x.Picks (i:Int))) r→Why h x r
section
variable {h:History} {l:List Int} {m:List (Int×Int)}
end
end Go.Proofs.YtnlkggppokcmfaaT
