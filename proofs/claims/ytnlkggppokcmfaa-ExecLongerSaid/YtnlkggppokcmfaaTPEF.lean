import Derived.Test.YtnlkggppokcmfaaTPEA
namespace Go.Proofs.YtnlkggppokcmfaaT
open Go Go.Proofs Go.Proofs.YtnlkggppokcmfaaE
set_option linter.unusedVariables false
set_option linter.unusedSimpArgs false
abbrev srt (l:List Int):List Int:=l.mergeSort fun x y=>decide (x≤y)
def But (s:List Int) (k:Nat):Prop:=(∀ i j:Nat,i < j→j < s.length→i≠k→j≠k→idx s (i:Int)≤idx s (j:Int))∧∀ j:Nat,k < j→j < s.length→idx s (k:Int)≤idx s (j:Int)
theorem FW {s:List Int}:s.Pairwise (· ≤ ·)↔∀ i j:Nat,i < j→j < s.length→idx s (i:Int)≤idx s (j:Int):=by
 rw [List.pairwise_iff_getElem]
 constructor
 ·intro h i j hij hj
  rw [dE (n:=i) rfl (by omega),dE (n:=j) rfl hj]
  exact h i j (by omega) hj hij
 ·intro h i j hi hj hij;have:=h i j hij hj
  rwa [dE (n:=i) rfl (by omega),dE (n:=j) rfl hj] at this
theorem But.done {s:List Int} {k:Nat} (hb:But s k) (h:k=0∨idx s ((k - 1:Nat):Int)≤idx s (k:Int)):s.Pairwise (· ≤ ·):=by
 rw [FW]
 intro i j hij hj
 by_cases hi:i=k
 ·subst hi; exact hb.2 j hij hj
 ·by_cases hjk:j=k
  ·subst hjk;rcases h with h | h
   ·omega
   ·by_cases a0:i=j - 1
    ·subst a0; exact h
    ·exact Int.le_trans (hb.1 i (j - 1) (by omega) (by omega) hi (by omega)) h
  ·exact hb.1 i j hij hj hi hjk
def fin (ty:Int) (w:List Int):List Int:=if ty=1 then w.drop (w.length - 1) else if ty=3 then srt w else if ty=4 then [w64 w.sum] else w
theorem EQ {ty:Int} {w:List Int}:(fin ty w).length≤w.length + 1:=by
 unfold fin
 split
 ·rw [List.length_drop]; omega
 ·split
  ·rw [List.length_mergeSort]; omega
  ·split
   ·simp
   ·omega
theorem Dq {α:Type} (l:List α) {n:Nat} (hn:n≤l.length):df l (n:Int) (l.length:Int)=l.drop n:=by
 unfold df
 rw [Int.toNat_natCast,Int.toNat_natCast,List.take_length]
theorem zW {st:bq} {key ty:Int} {w:List Int} (hT:dH st.h key=some ty) (hw:w.length < 2 ^ 40):fw st key w=some (fin ty w):=by
 refine kS.1 ?_;unfold fw;refine fI hT ?_;unfold fin;refine ax (fun h1 => ?_) (fun h1 => ?_)
 ·rw [if_pos h1]
  have e:xn 0 (w64 ((w.length:Int) - 1))=((w.length - 1:Nat):Int):=by
   rw [sP (by omega) (by omega)]
   unfold xn
   split <;> omega
  rw [e]
  refine au (by omega) (aj ?_);exact Dq w (by omega)
 ·rw [if_neg h1]
  refine ax (fun h2 => ?_) (fun h2 => ?_)
  ·rw [if_pos h2]
   unfold lv gT
   rw [jw _ (by omega)]
   exact bG (aj rfl)
  ·rw [if_neg h2]
   refine ax (fun h3 => ?_) (fun h3 => ?_)
   ·rw [if_pos h3]
    refine gY (k0:=0) w.length (fun k s=>s.2=(k:Int)∧s.1=zU 0 (w.take k)) (Nat.zero_le _) ⟨rfl,rfl⟩ ?_;rintro k ⟨x,i⟩ hk ⟨rfl,hx⟩
    dsimp only at hx
    have hw:w64 ((k:Int) + 1)=((k + 1:Nat):Int):=cZ (by omega);unfold jC
    dsimp only
    rw [hw]
    refine ax (fun h4 => ?_) (fun h4 => ?_)
    ·have a0:k < w.length:=by omega
     exact au (by omega) (aj ⟨a0,rfl,by dsimp only; rw [Ct a0,hx]⟩)
    ·have:k=w.length:=by omega
     subst this;refine aC (aj ?_)
     rw [hx,List.take_length,Cu]
     rfl
   ·rw [if_neg h3]
    exact aj rfl
def wrs (h:History) (l:List Int) (key:Int):List Int:=l.flatMap (fun o=>pJ h o key)
def sO (h:History) (l:List Int) (key t:Int):List Int:=if 0≤t then wrs h (l.take (pos l t + 1)) key else []
section
variable {h:History} {l:List Int}
theorem zX {key:Int} {k:Nat} (hk:k < l.length):wrs h (l.take (k + 1)) key=wrs h (l.take k) key++pJ h (idx l (k:Int)) key:=by
 unfold wrs
 rw [mr hk,List.flatMap_append]
 simp
theorem Gx (hS:kU h) {o key:Int} (ho:0≤o∧o < (h.Txns.length:Int)):(pJ h o key).length≤16:=by
 obtain ⟨n,rfl⟩:∃ n:Nat,o=(n:Int):=⟨o.toNat,by omega⟩
 exact Nat.le_trans zS (hS.txn n (by omega)).ops.1
theorem xA (hS:kU h) (ho:kV h l) {key:Int}:∀ k,k≤l.length→(wrs h (l.take k) key).length≤16 * k
 | 0,_=>by simp [wrs]
 | k + 1,hk=>by
  have h1:=xA hS ho (key:=key) k (by omega);have h2:=ho.rg _ (tF (show k < l.length by omega));have h3:=Gx hS (key:=key) ⟨h2.1,h2.2.1⟩
  rw [zX (by omega),List.length_append]
  omega
theorem zY (hS:kU h) (ho:kV h l) {key t:Int}:(sO h l key t).length≤512:=by
 unfold sO
 split
 ·have h1:=ho.len;have h2:=hS.len;rcases Nat.lt_or_ge (pos l t) l.length with h3 | h3
  ·have:=xA hS ho (key:=key) (pos l t + 1) (by omega)
   omega
  ·have:=xA hS ho (key:=key) l.length (Nat.le_refl _)
   rw [List.take_of_length_le (by omega)]
   rw [List.take_length] at this
   omega
 ·simp
theorem zt (hS:kU h) (ho:kV h l) {m:List (Int×Int)} (hm:sN l m) {key ty t:Int} (hT:dH h key=some ty) (ht:t < 0∨t ∈ l) :
  ai ⟨h,l,m⟩ key t=some (fin ty (sO h l key t)):=by
 have hll:=ho.len;have a5:=hS.len;have ha:=zY hS ho (key:=key) (t:=t);refine kS.1 ?_;unfold ai;refine ax (fun h1 => ?_) (fun h1 => ?_)
 ·have htm:t ∈ l:=by rcases ht with h | h; omega; exact h
  have hp:=xX.2 htm;have e:w64 (mat m t + 1)=((pos l t + 1:Nat):Int):=by rw [hm.at_ t htm]; exact cZ (by omega)
  dsimp only
  rw [e]
  refine au (by omega) ?_;have haa:sO h l key t=wrs h (l.take (pos l t + 1)) key:=if_pos (by omega)
  rw [haa] at ha ⊢
  refine gY (k0:=0) (pos l t + 1) (fun k s=>s=(wrs h (l.take k) key,(k:Int))) (Nat.zero_le _) rfl ?_;rintro k s hk rfl;have hw:w64 ((k:Int) + 1)=((k + 1:Nat):Int):=cZ (by omega);have hkl:=xA hS ho (key:=key) k (by omega);have hsub:df l (0:Int) ((pos l t + 1:Nat):Int)=l.take (pos l t + 1):=mq (by omega);unfold jE
  dsimp only
  rw [e,hsub,List.length_take,Nat.min_eq_left (by omega)]
  refine ax (fun h2 => ?_) (fun h2 => ?_)
  ·have a1:k < pos l t + 1:=by omega
   rw [ow a1]
   have hr:=ho.rg _ (tF (show k < l.length by omega));refine au (by omega) (au ⟨hr.1,hr.2.1⟩ ?_);have a4:(idx h.Txns (idx l (k:Int))).Ops.length≤16:=by
    obtain ⟨n,hn⟩:∃ n:Nat,idx l (k:Int)=(n:Int):=⟨(idx l (k:Int)).toNat,by omega⟩
    rw [hn] at hr ⊢
    exact (hS.txn n (by omega)).ops.1
   refine gY (k0:=0) (idx h.Txns (idx l (k:Int))).Ops.length (fun p s=>s=(wrs h (l.take k) key++qI (idx h.Txns (idx l (k:Int))).Ops key p,(p:Int))) (Nat.zero_le _) (by rw [Cq,List.append_nil]; rfl) ?_;rintro p s a3 rfl;have a2:w64 ((p:Int) + 1)=((p + 1:Nat):Int):=cZ (by omega);have hol:=vG (ops:=(idx h.Txns (idx l (k:Int))).Ops) (key:=key) (p:=p);unfold jD gV gU
   dsimp only
   rw [e,hsub,ow a1,a2]
   refine ax (fun h3 => ?_) (fun h3 => ?_)
   ·have a0:p < (idx h.Txns (idx l (k:Int))).Ops.length:=by omega
    have hos:=wJ (key:=key) a0;refine au (by omega) ?_;refine ax (fun h4 => ?_) (fun h4 => ?_)
    ·refine ax (fun h5 => ?_) (fun h5 => ?_)
     ·refine au (by rw [List.length_append]; omega) (aj ⟨a0,?_⟩)
      rw [if_pos ⟨h4,h5⟩] at hos
      rw [hos,List.append_assoc]
     ·refine aj ⟨a0,?_⟩
      rw [if_neg (fun h=>h5 h.2)] at hos
      rw [hos]
    ·refine ax (fun h5=>absurd h5 (by simp)) (fun h5=>aj ⟨a0,?_⟩)
     rw [if_neg (fun h=>h4 h.1)] at hos
     rw [hos]
   ·have:p=(idx h.Txns (idx l (k:Int))).Ops.length:=by omega
    subst this;refine aC (aj ⟨a1,?_⟩)
    dsimp only
    rw [hw,zX (by omega)]
    rfl
  ·have:k=pos l t + 1:=by omega
   subst this;exact aC (kS.2 (zW hT (by omega)))
 ·have haa:sO h l key t=[]:=if_neg (by omega)
  rw [haa]
  exact kS.2 (zW hT (by simp))
end
end Go.Proofs.YtnlkggppokcmfaaT
namespace Go.Proofs.YtnlkggppokcmfaaT
open Go Go.Proofs Go.Proofs.YtnlkggppokcmfaaE
set_option linter.unusedVariables false
set_option linter.unusedSimpArgs false
theorem Dr {m:List (Int×Int)} {x:Int} (h:ja m x=false):mat m x=0 :=
 (qx (fun k hk e=>by
  have:=BK.2 (e ▸ hk)
  rw [h] at this
  cases this)).1
theorem zZ {h:History} {a:Ask} (ha:a ∈ dS h h.Txns.length):∃ t:Nat,a.Txn=(t:Int)∧t < h.Txns.length∧(idx h.Txns (t:Int)).Status=1:=by
 unfold dS at ha;obtain ⟨t,ht,ha⟩:=List.mem_flatMap.1 ha;have ht:=List.mem_range.1 ht;unfold qa at ha
 split at ha
 case isFalse=>cases ha
 case isTrue hst =>
 unfold ou at ha;obtain ⟨p,hp,ha⟩:=List.mem_flatMap.1 ha;refine ⟨t,?_,ht,hst⟩;unfold wO at ha
 dsimp only at ha
 split at ha
 ·cases ha
 ·split at ha
  ·rw [List.mem_singleton] at ha
   rw [ha]
  ·split at ha
   ·rw [List.mem_singleton] at ha
    rw [ha]
   ·cases ha
def Cw (h:History) (l:List Int):Prop:=∀ i k:Nat,k < i→i < h.Txns.length→(idx h.Txns (i:Int)).Proc=(idx h.Txns (k:Int)).Proc→(i:Int) ∈ l→(k:Int) ∈ l→pos l (k:Int) < pos l (i:Int)
def Ahead (h:History) (l:List Int) (a:Ask) (p:Int):Prop:=p ∈ l∧pos l p < pos l a.Txn∧0 < (pJ h p a.Key).length
def kd (h:History) (a:Ask):Int:=typ (opAt h a.Txn a.Place).Kind
def ver (h:History) (l:List Int) (a:Ask) (p:Int):List Int:=fin (kd h a) (sO h l a.Key p)
open Classical in
noncomputable def qm (h:History) (l:List Int) (a:Ask) (p:Int):Int:=if p ≠ -1 ∧ ¬ Ahead h l a p then 5 else if ver h l a p≠a.Base then 6 else 0
def First (n:Nat) (v:Nat→Int) (r:Int):Prop:=(r=0∧∀ i,i < n→v i=0)∨(∃ i,i < n∧v i=r∧r≠0∧∀ j,j < i→v j=0)
theorem First.det {n:Nat} {v:Nat→Int} {r s:Int} (h1:First n v r) (h2:First n v s):r=s:=by
 rcases h1 with ⟨rfl,h1⟩ | ⟨i,hi,e1,n1,b1⟩ <;> rcases h2 with ⟨rfl,h2⟩ | ⟨j,hj,e2,n2,b2⟩
 ·rfl
 ·exact absurd (e2.symm.trans (h1 j hj)) n2
 ·exact absurd (e1.symm.trans (h2 i hi)) n1
 ·rcases Nat.lt_trichotomy i j with h | h | h
  ·exact absurd (e1.symm.trans (b2 i h)) n1
  ·subst h; exact e1.symm.trans e2
  ·exact absurd (e2.symm.trans (b1 j h)) n2
theorem First.congr {n:Nat} {v u:Nat→Int} {r:Int} (h:First n v r) (e:∀ i,i < n→v i=u i):First n u r:=by
 rcases h with ⟨h1,h2⟩ | ⟨i,hi,e1,n1,b1⟩
 ·exact .inl ⟨h1,fun i hi=>(e i hi).symm.trans (h2 i hi)⟩
 ·exact .inr ⟨i,hi,(e i hi).symm.trans e1,n1,fun j hj=>(e j (by omega)).symm.trans (b1 j hj)⟩
inductive Why (h:History) (x:Exec):Int→Prop
 | bad:gL h h.Txns.length≠[]→Why h x 1
 | order:gL h h.Txns.length=[] → ¬ kV h x.Order→Why h x 2
 | picks:gL h h.Txns.length=[]→kV h x.Order→x.Picks.length≠(dS h h.Txns.length).length→Why h x 3
 | sess:gL h h.Txns.length=[]→kV h x.Order→x.Picks.length=(dS h h.Txns.length).length → ¬ Cw h x.Order→Why h x 4
 | pick {r:Int}:gL h h.Txns.length=[]→kV h x.Order→x.Picks.length=(dS h h.Txns.length).length→Cw h x.Order →
   First (dS h h.Txns.length).length (fun i=>qm h x.Order (idx (dS h h.Txns.length) (i:Int)) (idx x.Picks (i:Int))) r→Why h x r
theorem Why.det {h:History} {x:Exec} {r s:Int} (h1:Why h x r) (h2:Why h x s):r=s:=by
 cases h1 <;> cases h2 <;> first | rfl | contradiction | exact First.det ‹_› ‹_›
section
variable {h:History} {l:List Int} {m:List (Int×Int)}
theorem Bc (hS:kU h) (hc:ay h=some 0) (ho:kV h l) (hm:sN l m) {a:Ask} (ha:a ∈ dS h h.Txns.length) {p:Int}:Tri (dF ⟨h,l,m⟩ a p) (fun r=>r=true↔Ahead h l a p):=by
 obtain ⟨t,et,ht,hst⟩:=zZ ha;have htl:=ho.dn t ht hst;unfold dF iR
 dsimp only
 rw [hm.hasB]
 refine ax (fun h1 => ?_) (fun h1 => ?_)
 ·rw [cond_true]
  exact aj ⟨fun h=>(nomatch h),fun h2=>absurd h2.1 h1⟩
 ·have hp:p ∈ l:=Classical.byContradiction h1
  rw [hm.at_ p hp,et,hm.at_ _ htl]
  refine ax (fun h2=>aj ⟨fun h=>(nomatch h),fun h3 => ?_⟩) (fun h2 => ?_)
  ·have:=h3.2.1
   rw [et] at this
   omega
  ·refine fI (Ba hS hc) (aj ?_);have hr:=ho.rg p hp
   rw [if_pos ⟨hr.1,hr.2.1⟩]
   dsimp only
   rw [decide_eq_true_iff]
   exact ⟨fun h3=>⟨hp,by rw [et]; omega,h3⟩,fun h3=>h3.2.2⟩
theorem Cx (ho:kV h l) (a1:h.Txns.length≤32) (hm:sN l m):Tri (aQ ⟨h,l,m⟩) (fun r=>r=true↔Cw h l):=by
 unfold aQ;refine gY (k0:=0) h.Txns.length (fun k s=>s.2=(k:Int)∧(∀ t:Nat,t < k→(t:Int) ∈ l→ja s.1 (idx h.Txns (t:Int)).Proc=true∧(pos l (t:Int):Int)≤mat s.1 (idx h.Txns (t:Int)).Proc) ∧
  (∀ q,ja s.1 q=true→∃ t:Nat,t < k∧(t:Int) ∈ l∧(idx h.Txns (t:Int)).Proc=q∧mat s.1 q=(pos l (t:Int):Int)) ∧
  ∀ i j:Nat,j < i→i < k→(idx h.Txns (i:Int)).Proc=(idx h.Txns (j:Int)).Proc→(i:Int) ∈ l→(j:Int) ∈ l→pos l (j:Int) < pos l (i:Int)) (Nat.zero_le _)
  ⟨rfl,fun t ht=>absurd ht (Nat.not_lt_zero _),fun q hq=>(by rw [Ac] at hq; cases hq),fun i j h1 h2=>absurd h2 (Nat.not_lt_zero _)⟩ ?_
 rintro k ⟨s,x⟩ hk ⟨rfl,i1,i2,i3⟩;have hw:w64 ((k:Int) + 1)=((k + 1:Nat):Int):=cZ (by omega)
 dsimp only at i1 i2 i3
 unfold je gF gz
 dsimp only
 rw [hw,hm.hasB]
 refine ax (fun h1 => ?_) (fun h1 => ?_)
 ·have a0:k < h.Txns.length:=by omega
  refine au (by omega) ?_;refine ax (fun h2 => ?_) (fun h2 => ?_)
  ·refine aj ⟨a0,rfl,fun t ht htl => ?_,fun q hq => ?_,fun i j hij hi hp hil hjl => ?_⟩
   ·have:t≠k:=fun e=>h2 (e ▸ htl);exact i1 t (by omega) htl
   ·obtain ⟨t,q1,q2⟩:=i2 q hq;exact ⟨t,by omega,q2⟩
   ·have:i≠k:=fun e=>h2 (e ▸ hil);exact i3 i j hij (by omega) hp hil hjl
  ·have hkl:(k:Int) ∈ l:=Classical.byContradiction h2
   rw [hm.at_ _ hkl]
   have go:(∀ t:Nat,t < k→(t:Int) ∈ l→(idx h.Txns (k:Int)).Proc=(idx h.Txns (t:Int)).Proc→pos l (t:Int) < pos l (k:Int)) →
     Upm h.Txns.length k (fun k s=>s.2=(k:Int)∧(∀ t:Nat,t < k→(t:Int) ∈ l→ja s.1 (idx h.Txns (t:Int)).Proc=true∧(pos l (t:Int):Int)≤mat s.1 (idx h.Txns (t:Int)).Proc) ∧
      (∀ q,ja s.1 q=true→∃ t:Nat,t < k∧(t:Int) ∈ l∧(idx h.Txns (t:Int)).Proc=q∧mat s.1 q=(pos l (t:Int):Int)) ∧
      ∀ i j:Nat,j < i→i < k→(idx h.Txns (i:Int)).Proc=(idx h.Txns (j:Int)).Proc→(i:Int) ∈ l→(j:Int) ∈ l→pos l (j:Int) < pos l (i:Int)) (fun r=>r=true↔Cw h l)
      (.inl (fD s (idx h.Txns (k:Int)).Proc (xn (pos l (k:Int):Int) (mat s (idx h.Txns (k:Int)).Proc)),((k + 1:Nat):Int))):=fun hno=>by
    have hmax:xn (pos l (k:Int):Int) (mat s (idx h.Txns (k:Int)).Proc)=(pos l (k:Int):Int):=by
     unfold xn
     split
     ·rename_i hlt
      by_cases hh:ja s (idx h.Txns (k:Int)).Proc=true
      ·obtain ⟨t,q1,q2,q3,q4⟩:=i2 _ hh;have:=hno t q1 q2 q3.symm
       omega
      ·have e0:mat s (idx h.Txns (k:Int)).Proc=0:=Dr (by simpa using hh)
       omega
     ·rfl
    rw [hmax]
    refine ⟨a0,rfl,fun t ht htl => ?_,fun q hq => ?_,fun i j hij hi hp hil hjl => ?_⟩
    ·dsimp only
     rw [sS,mM]
     by_cases hp:(idx h.Txns (t:Int)).Proc=(idx h.Txns (k:Int)).Proc
     ·rw [if_pos hp]
      refine ⟨.inl hp,?_⟩
      by_cases htk:t=k
      ·rw [htk]; omega
      ·have:=hno t (by omega) htl hp.symm
       omega
     ·rw [if_neg hp]
      have htk:t≠k:=fun e=>hp (by rw [e]);obtain ⟨q1,q2⟩:=i1 t (by omega) htl;exact ⟨.inr q1,q2⟩
    ·dsimp only at hq ⊢
     rw [sS] at hq
     rw [mM]
     by_cases hp:q=(idx h.Txns (k:Int)).Proc
     ·rw [if_pos hp]
      exact ⟨k,by omega,hkl,hp.symm,rfl⟩
     ·rw [if_neg hp]
      rcases hq with hq | hq
      ·exact absurd hq hp
      ·obtain ⟨t,q1,q2⟩:=i2 q hq;exact ⟨t,by omega,q2⟩
    ·rcases Nat.lt_or_ge i k with h5 | h5
     ·exact i3 i j hij h5 hp hil hjl
     ·have:i=k:=by omega
      subst this;exact hno j hij hjl hp
   refine ax (fun h3 => ?_) (fun h3 => ?_)
   ·obtain ⟨t,q1,q2,q3,q4⟩:=i2 _ h3;refine ax (fun h4 => ?_) (fun h4=>aj (go (fun u hu hul hpu => ?_)))
    ·refine aC (aj ⟨fun h=>(nomatch h),fun hs => ?_⟩);have:=hs k t q1 a0 q3.symm hkl q2
     omega
    ·have h5:=(i1 u hu hul).2
     rw [← hpu] at h5
     have h6:pos l (u:Int)≠pos l (k:Int):=fun e=>by
      have h7:=zq hul
      rw [e,zq hkl] at h7
      omega
     omega
   ·refine ax (fun h4=>absurd h4 (by simp)) (fun h4=>aj (go (fun u hu hul hpu => ?_)));have h5:=(i1 u hu hul).1
    rw [← hpu] at h5
    exact absurd h5 h3
 ·have:k=h.Txns.length:=by omega
  subst this;exact aC (aj ⟨fun _=>i3,fun _=>rfl⟩)
theorem Gy {a:Ask} {t p:Nat} (hk:FO h a t p):kd h a=typ (opAt h (t:Int) (p:Int)).Kind:=by
 unfold kd
 rw [hk.e1,hk.e2]
theorem Dt (hS:kU h) (hc:ay h=some 0) {a:Ask} (ha:a ∈ dS h h.Txns.length):dH h a.Key=some (kd h a):=by
 obtain ⟨t,p,hk⟩:=FV hS ha
 rw [Gy hk]
 exact Cs hS hc hk.tl hk.pl hk.e3.symm
theorem ER (hS:kU h) (ho:kV h l) {a:Ask} {p:Int}:(ver h l a p).length≤513:=by
 have h1:=EQ (ty:=kd h a) (w:=sO h l a.Key p);have h2:=zY hS ho (key:=a.Key) (t:=p);unfold ver
 omega
theorem Du (hs:sK h) (hS:kU h) (hc:ay h=some 0) {x:Exec} (hl:x.Order.length < 2 ^ 50) (hpl:x.Picks.length < 2 ^ 50):Tri (dD h x) (fun r=>r.2=0∧Why h x r.1):=by
 have a1:=hS.len;obtain ⟨n1,n2,_⟩:=yS hS h.Txns.length (Nat.le_refl _);have hA:jQ h=some (dS h h.Txns.length,0):=by unfold jQ; rw [zR hs hS hc]; rfl
 have hB:qc h=some (gL h h.Txns.length,0):=by unfold qc; rw [zR hs hS hc]; rfl
 unfold dD;refine fI hA ?_;refine ax (fun h1=>absurd rfl h1) (fun _ => ?_);refine fI hB ?_;refine ax (fun h1 => ?_) (fun h1 => ?_)
 ·exact aj ⟨rfl,.bad (fun e=>by dsimp only at h1; rw [e] at h1; simp at h1)⟩
 have hsp:gL h h.Txns.length=[]:=List.length_eq_zero_iff.1 (by dsimp only at h1; omega);refine eH (Cv a1 (by omega)) (fun r hr => ?_);obtain ⟨⟨rh,ro,rm⟩,rb⟩:=r;obtain ⟨e1,e2,e3,e4⟩:=hr
 dsimp only at e1 e2 e3 e4
 subst e1 e2;refine ax (fun h2 => ?_) (fun h2 => ?_)
 ·exact aj ⟨rfl,.order hsp (fun ho=>h2 (e3.2 ho))⟩
 have ho:=e3.1 (by simpa using h2);have hm:=e4 (by simpa using h2)
 dsimp only
 refine ax (fun h3 => ?_) (fun h3 => ?_)
 ·exact aj ⟨rfl,.picks hsp ho (fun e=>h3 (by rw [e]))⟩
 have hpe:x.Picks.length=(dS rh rh.Txns.length).length:=by
  have:¬ ¬ ((x.Picks.length:Int)=((dS rh rh.Txns.length).length:Int)):=h3
  omega
 refine eH (Cx ho a1 hm) (fun b hb => ?_);refine ax (fun h4 => ?_) (fun h4 => ?_)
 ·exact aj ⟨rfl,.sess hsp ho hpe (fun hq=>h4 (hb.2 hq))⟩
 have hq:=hb.1 (by simpa using h4);generalize hAs:dS rh rh.Txns.length=aL at hpe n1 hA
 suffices hloop:Tri (iter (oW x (aL,0) (⟨rh,x.Order,rm⟩,rb)) 0) (fun r=>r.2=0∧First aL.length (fun i=>qm rh x.Order (idx aL (i:Int)) (idx x.Picks (i:Int))) r.1) from
  dI hloop (fun r hr=>⟨hr.1,.pick hsp ho (by rw [hAs]; exact hpe) hq (by rw [hAs]; exact hr.2)⟩)
 refine gY (k0:=0) aL.length (fun k s=>s=(k:Int)∧∀ i,i < k→qm rh x.Order (idx aL (i:Int)) (idx x.Picks (i:Int))=0) (Nat.zero_le _) ⟨rfl,fun i hi=>absurd hi (Nat.not_lt_zero _)⟩ ?_;rintro k s hk ⟨rfl,hz⟩;have hw:w64 ((k:Int) + 1)=((k + 1:Nat):Int):=cZ (by omega);unfold oW oV
 dsimp only
 rw [hw]
 refine ax (fun h5 => ?_) (fun h5 => ?_)
 ·have a0:k < aL.length:=by omega
  have ham:idx aL (k:Int) ∈ dS rh rh.Txns.length:=by rw [hAs]; exact zV a0
  refine au (by omega) (au (by omega) ?_);generalize hpv:idx x.Picks (k:Int)=p;have tail:(p ≠ -1→Ahead rh x.Order (idx aL (k:Int)) p)→Tri (must (0≤(k:Int)∧(k:Int) < (x.Picks.length:Int)) ((ai ⟨rh,x.Order,rm⟩ ((idx aL (k:Int)).Key) p).bind fun y=>(bU y ((idx aL (k:Int)).Base)).bind fun z=>bif !z then out (some (6,0)) else (some (.inl ((k + 1:Nat):Int)))))
    (Upm aL.length k (fun k s=>s=(k:Int)∧∀ i,i < k→qm rh x.Order (idx aL (i:Int)) (idx x.Picks (i:Int))=0) (fun r:Int×Int=>r.2=0∧First aL.length (fun i=>qm rh x.Order (idx aL (i:Int)) (idx x.Picks (i:Int))) r.1)):=fun hah=>by
   have hv:ai ⟨rh,x.Order,rm⟩ ((idx aL (k:Int)).Key) p=some (ver rh x.Order (idx aL (k:Int)) p) :=
    zt hS ho hm (Dt hS hc ham) (by
     by_cases hp:p = -1
     ·left; omega
     ·exact .inr (hah hp).1)
   have hvl:=ER hS ho (a:=idx aL (k:Int)) (p:=p);refine au (by omega) (fI hv (fI (xP (by omega)) ?_));refine ax (fun h6 => ?_) (fun h6 => ?_)
   ·refine aC (aj ⟨rfl,.inr ⟨k,a0,?_,by decide,hz⟩⟩)
    show qm rh x.Order (idx aL (k:Int)) (idx x.Picks (k:Int))=6
    rw [hpv]
    unfold qm
    rw [if_neg (fun h=>h.2 (hah h.1)),if_pos h6]
   ·refine aj ⟨a0,rfl,fun i hi => ?_⟩;rcases Nat.lt_or_ge i k with h7 | h7
    ·exact hz i h7
    ·have:i=k:=by omega
     subst this
     rw [hpv]
     unfold qm
     rw [if_neg (fun h=>h.2 (hah h.1)),if_neg h6]
  refine ax (fun h6 => ?_) (fun h6 => ?_)
  ·refine eH (Bc hS hc ho hm ham) (fun b hb => ?_);refine ax (fun h7 => ?_) (fun h7 => ?_)
   ·refine aC (aj ⟨rfl,.inr ⟨k,a0,?_,by decide,hz⟩⟩)
    show qm rh x.Order (idx aL (k:Int)) (idx x.Picks (k:Int))=5
    rw [hpv]
    unfold qm
    rw [if_pos ⟨h6,fun h=>h7 (hb.2 h)⟩]
   ·exact tail (fun _=>hb.1 (by simpa using h7))
  ·rw [cond_false]
   exact tail (fun h=>absurd h h6)
 ·have:k=aL.length:=by omega
  subst this;exact aC (aj ⟨rfl,.inl ⟨rfl,hz⟩⟩)
theorem ES (hc:ay h=some 1) {x:Exec}:dD h x=some (0,1):=by
 unfold dD jQ iU
 rw [hc]
 rfl
end
end Go.Proofs.YtnlkggppokcmfaaT
namespace Go.Proofs.YtnlkggppokcmfaaT
open Go Go.Proofs Go.Proofs.YtnlkggppokcmfaaE
set_option linter.unusedVariables false
set_option linter.unusedSimpArgs false
section
variable {h:History} {l:List Int}
end
end Go.Proofs.YtnlkggppokcmfaaT
namespace Go.Proofs.YtnlkggppokcmfaaT
open Go Go.Proofs Go.Proofs.YtnlkggppokcmfaaE
set_option linter.unusedVariables false
set_option linter.unusedSimpArgs false
abbrev XG (x:Exec):Prop:=((∀ y ∈ (x).Order,(Lit.int .i64 y).wf=true)∧((x).Order).length * 8≤140737488351232)∧((∀ y ∈ (x).Picks,(Lit.int .i64 y).wf=true)∧((x).Picks).length * 8≤140737488351232)
section
variable {h:History} {x:Exec}
structure Gz (h:History) (x:Exec):Prop where
 sp:gL h h.Txns.length=[]
 ord:kV h x.Order
 len:x.Picks.length=(dS h h.Txns.length).length
 sess:Cw h x.Order
 pick:∀ i,i < (dS h h.Txns.length).length→qm h x.Order (idx (dS h h.Txns.length) (i:Int)) (idx x.Picks (i:Int))=0
theorem ET {r:Int} (hw:Why h x r):r=0↔Gz h x:=by
 constructor
 ·intro e;cases hw with
  | bad=>cases e
  | order=>cases e
  | picks=>cases e
  | sess=>cases e
  | pick h1 h2 h3 h4 h5 =>
   rcases h5 with ⟨_,h5⟩ | ⟨_,_,_,n,_⟩
   ·exact ⟨h1,h2,h3,h4,h5⟩
   ·exact absurd e n
 ·intro hf;exact Why.det hw (.pick hf.sp hf.ord hf.len hf.sess (.inl ⟨rfl,hf.pick⟩))
theorem yV {l:List Int} {a:Ask} {p:Int}:qm h l a p=0↔(p = -1∨Ahead h l a p)∧ver h l a p=a.Base:=by
 unfold qm
 by_cases h1:p ≠ -1 ∧ ¬ Ahead h l a p
 ·rw [if_pos h1]
  exact ⟨fun e=>(nomatch e),fun h2=>absurd h2.1 (fun h3=>h3.elim h1.1 h1.2)⟩
 ·rw [if_neg h1]
  have h1':p = -1∨Ahead h l a p:=by
   by_cases hp:p = -1
   ·exact .inl hp
   ·exact .inr (Classical.byContradiction fun h2=>h1 ⟨hp,h2⟩)
  by_cases h2:ver h l a p≠a.Base
  ·rw [if_pos h2]
   exact ⟨fun e=>(nomatch e),fun h3=>absurd h3.2 h2⟩
  ·rw [if_neg h2]
   exact ⟨fun _=>⟨h1',Classical.byContradiction h2⟩,fun _=>rfl⟩
theorem Dv (hs:sK h) (hl:x.Order.length < 2 ^ 50) (hpl:x.Picks.length < 2 ^ 50):Tri (dD h x) (fun r=>(r=(0,1)∧ay h=some 1)∨(r.2=0∧kU h∧ay h=some 0∧Why h x r.1)):=by
 obtain ⟨v,hv,hv',a0,hiff⟩:=AY hs;rcases a0 with rfl | rfl
 ·exact dI (Du hs (hiff.1 rfl) hv hl hpl) (fun r hr => .inr ⟨hr.1,hiff.1 rfl,hv,hr.2⟩)
 ·exact Fp (ES hv) (.inl ⟨rfl,hv⟩)
theorem Cy {l:List Int} {x:Int} (hl:l.length < 2 ^ 60):cK l x=some (decide (x ∈ l)):=by
 refine Fq.1 ?_;unfold cK;refine gY (k0:=0) l.length (fun k s=>s=(k:Int)∧∀ j:Nat,j < k→idx l (j:Int)≠x) (Nat.zero_le _) ⟨rfl,fun j h=>absurd h (Nat.not_lt_zero _)⟩ ?_;rintro k s hk ⟨rfl,hno⟩;have hw:w64 ((k:Int) + 1)=((k + 1:Nat):Int):=cZ (by omega);unfold lw
 dsimp only
 rw [hw]
 refine ax (fun h1 => ?_) (fun h1 => ?_)
 ·have a0:k < l.length:=by omega
  refine au (by omega) ?_;refine ax (fun h2 => ?_) (fun h2 => ?_)
  ·refine aC (aj ⟨fun _ => ?_,fun _=>rfl⟩)
   rw [← h2]
   exact tF a0
  ·refine aj ⟨a0,rfl,fun j hj => ?_⟩;rcases Nat.lt_or_ge j k with h3 | h3
   ·exact hno j h3
   ·have:j=k:=by omega
    subst this;exact h2
 ·have:k=l.length:=by omega
  subst this;refine aC (aj ⟨fun h=>(nomatch h),fun h => ?_⟩);obtain ⟨j,hj,e⟩:=BJ h;exact absurd e (hno j hj)
theorem zu {l:List Int} {t u:Int} (hu:u ∈ l):pos (l++[t]) u=pos l u:=by
 unfold pos
 rw [List.findIdx_append]
 have:=xX.2 hu;unfold pos at this
 rw [if_pos this]
theorem Dw {l:List Int} {t:Int} {n:Nat} (hn:n≤l.length):(l++[t]).take n=l.take n:=List.take_append_of_le_length hn
theorem EU {l:List Int} {a:Ask} {t p:Int} (hp:p < 0∨p ∈ l):ver h (l++[t]) a p=ver h l a p:=by
 unfold ver sO
 by_cases h0:0≤p
 ·have hpl:p ∈ l:=hp.resolve_left (by omega)
  rw [if_pos h0,if_pos h0,zu hpl,Dw (by have:=xX.2 hpl; omega)]
 ·rw [if_neg h0,if_neg h0]
theorem longer (hS:kU h) (hf:Gz h x) {t:Int} (ht:0≤t∧t < (h.Txns.length:Int)) (hn:t ∉ x.Order) (hst:(idx h.Txns t).Status≠2) {r:Int} (hw:Why h ⟨x.Order++[t],x.Picks⟩ r):r=0∨r=4:=by
 have ho:kV h (x.Order++[t]):=by
  refine ⟨?_,fun u hu => ?_,fun u hu hd=>List.mem_append_left _ (hf.ord.dn u hu hd)⟩
  ·rw [List.nodup_append]
   exact ⟨hf.ord.nd,by simp,fun a ha b hb e=>hn (by rw [List.mem_singleton.1 hb] at e; exact e ▸ ha)⟩
  ·rcases List.mem_append.1 hu with hu | hu
   ·exact hf.ord.rg u hu
   ·rw [List.mem_singleton.1 hu]; exact ⟨ht.1,ht.2,hst⟩
 by_cases hq:Cw h (x.Order++[t])
 ·left
  refine Why.det hw (.pick hf.sp ho hf.len hq (.inl ⟨rfl,fun i hi => ?_⟩));obtain ⟨h1,h2⟩:=yV.1 (hf.pick i hi);refine yV.2 ⟨h1.imp id (fun h3 => ?_),?_⟩
  ·obtain ⟨q1,q2,q3⟩:=h3;obtain ⟨u,eu,hu,hd⟩:=zZ (zV hi);have:=hf.ord.dn u hu hd;refine ⟨List.mem_append_left _ q1,?_,q3⟩
   dsimp only
   rw [zu q1,eu,zu this,← eu]
   exact q2
  ·dsimp only
   rw [EU,h2]
   rcases h1 with h1 | h1
   ·have h1:idx x.Picks (i:Int) = -1:=h1
    left; omega
   ·exact .inr h1.1
 ·right
  exact Why.det hw (.sess hf.sp ho hf.len hq)
theorem xY (h:History) (x:Exec) (t:Int) {K:ByteArray→Prop} (g:HG K h) (gx:XG x) (gt:(Lit.int .i64 t).wf=true):aH h x t=some true:=by
 have hs:=g.small;have g1:=gx.1.2;have g2:=gx.2.2;refine kS.1 ?_;unfold aH
 rw [qC]
 refine bG ?_
 rw [Bool.not_true,cond_false]
 refine eH (Dv hs (x:=x) (by omega) (by omega)) (fun r hr => ?_);have yes:Tri (bF h x t true) (fun b=>b=true):=by
  unfold bF; rw [cond_true]; exact aj rfl
 refine ax (fun _=>yes) (fun h1 => ?_);refine ax (fun _=>yes) (fun h2 => ?_);refine ax (fun _=>yes) (fun h3 => ?_);refine ax (fun _=>yes) (fun h4 => ?_);rcases hr with ⟨rfl,_⟩ | ⟨_,hS,hc,hw⟩
 ·exact absurd (show ((0:Int),(1:Int)).2≠0 by decide) h1
 have hf:=(ET hw).1 (Classical.byContradiction h2);refine fI (Cy (by omega)) ?_
 by_cases hin:t ∈ x.Order
 ·rw [decide_eq_true hin]; exact yes
 rw [decide_eq_false hin]
 have htr:0≤t∧t < (h.Txns.length:Int):=by omega
 unfold bF
 rw [cond_false]
 refine au (by omega) (au (by rw [List.nil_append]; omega) ?_);unfold ib
 show Tri ((dD h ⟨x.Order++[t],x.Picks⟩).bind _) _
 refine eH (Dv hs (x:=⟨x.Order++[t],x.Picks⟩) (by simp only [List.length_append,List.length_singleton]; omega) (by dsimp only; omega)) (fun r' hr' => ?_);refine au htr ?_;rcases hr' with ⟨_,hc'⟩ | ⟨e2,_,_,hw'⟩
 ·rw [hc] at hc'; cases hc'
 refine ax (fun h5 => ?_) (fun h5 => ?_)
 ·have:r'.1=2:=Why.det hw' (.order hf.sp (fun ho=>(ho.rg t (List.mem_append_right _ (List.mem_singleton.2 rfl))).2.2 h5));refine ax (fun _=>aj ?_) (fun h6=>absurd e2 h6)
  rw [this]; rfl
 ·refine ax (fun _ => ?_) (fun h6=>absurd e2 h6);rcases longer hS hf htr hin h5 hw' with h7 | h7
  ·exact ax (fun _=>aj rfl) (fun h8=>absurd h7 h8)
  ·refine ax (fun _=>aj rfl) (fun _=>aj ?_)
   rw [h7]; rfl
end
end Go.Proofs.YtnlkggppokcmfaaT
