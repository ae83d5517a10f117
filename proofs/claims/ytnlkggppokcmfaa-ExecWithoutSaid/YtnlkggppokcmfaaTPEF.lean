import Derived.Test.YtnlkggppokcmfaaTPEA
namespace Go.Proofs.YtnlkggppokcmfaaT
open Go Go.Proofs Go.Proofs.YtnlkggppokcmfaaE
set_option linter.unusedVariables false
set_option linter.unusedSimpArgs false
abbrev srt (l:List Int):List Int:=l.mergeSort fun x y=>decide (x≤y)
def But (s:List Int) (k:Nat):Prop:=(∀ i j:Nat,i < j→j < s.length→i≠k→j≠k→idx s (i:Int)≤idx s (j:Int))∧∀ j:Nat,k < j→j < s.length→idx s (k:Int)≤idx s (j:Int)
theorem FZ {s:List Int}:s.Pairwise (· ≤ ·)↔∀ i j:Nat,i < j→j < s.length→idx s (i:Int)≤idx s (j:Int):=by
 rw [List.pairwise_iff_getElem]
 constructor
 ·intro h i j hij hj
  rw [dD (n:=i) rfl (by omega),dD (n:=j) rfl hj]
  exact h i j (by omega) hj hij
 ·intro h i j hi hj hij;have:=h i j hij hj
  rwa [dD (n:=i) rfl (by omega),dD (n:=j) rfl hj] at this
theorem But.done {s:List Int} {k:Nat} (hb:But s k) (h:k=0∨idx s ((k - 1:Nat):Int)≤idx s (k:Int)):s.Pairwise (· ≤ ·):=by
 rw [FZ]
 intro i j hij hj
 by_cases hi:i=k
 ·subst hi; exact hb.2 j hij hj
 ·by_cases hjk:j=k
  ·subst hjk;rcases h with h | h
   ·omega
   ·by_cases a0:i=j - 1
    ·subst a0; exact h
    ·exact Int.le_trans (hb.1 i (j - 1) (by omega) (by omega) hi (by omega)) h
  ·exact hb.1 i j hij hj hi hjk
def fin (ty:Int) (w:List Int):List Int:=if ty=1 then w.drop (w.length - 1) else if ty=3 then srt w else if ty=4 then [w64 w.sum] else w
theorem EU {ty:Int} {w:List Int}:(fin ty w).length≤w.length + 1:=by
 unfold fin
 split
 ·rw [List.length_drop]; omega
 ·split
  ·rw [List.length_mergeSort]; omega
  ·split
   ·simp
   ·omega
theorem Dv {α:Type} (l:List α) {n:Nat} (hn:n≤l.length):dh l (n:Int) (l.length:Int)=l.drop n:=by
 unfold dh
 rw [Int.toNat_natCast,Int.toNat_natCast,List.take_length]
theorem zX {st:bn} {key ty:Int} {w:List Int} (hT:dK st.h key=some ty) (hw:w.length < 2 ^ 40):fE st key w=some (fin ty w):=by
 refine kR.1 ?_;unfold fE;refine fM hT ?_;unfold fin;refine ay (fun h1 => ?_) (fun h1 => ?_)
 ·rw [if_pos h1]
  have e:xh 0 (w64 ((w.length:Int) - 1))=((w.length - 1:Nat):Int):=by
   rw [qI (by omega) (by omega)]
   unfold xh
   split <;> omega
  rw [e]
  refine au (by omega) (ai ?_);exact Dv w (by omega)
 ·rw [if_neg h1]
  refine ay (fun h2 => ?_) (fun h2 => ?_)
  ·rw [if_pos h2]
   unfold lq gU
   rw [jr _ (by omega)]
   exact bE (ai rfl)
  ·rw [if_neg h2]
   refine ay (fun h3 => ?_) (fun h3 => ?_)
   ·rw [if_pos h3]
    refine gm (k0:=0) w.length (fun k s=>s.2=(k:Int)∧s.1=zV 0 (w.take k)) (Nat.zero_le _) ⟨rfl,rfl⟩ ?_;rintro k ⟨x,i⟩ hk ⟨rfl,hx⟩
    dsimp only at hx
    have hw:w64 ((k:Int) + 1)=((k + 1:Nat):Int):=bW (by omega);unfold jB
    dsimp only
    rw [hw]
    refine ay (fun h4 => ?_) (fun h4 => ?_)
    ·have a0:k < w.length:=by omega
     exact au (by omega) (ai ⟨a0,rfl,by dsimp only; rw [Cz a0,hx]⟩)
    ·have:k=w.length:=by omega
     subst this;refine aC (ai ?_)
     rw [hx,List.take_length,CB]
     rfl
   ·rw [if_neg h3]
    exact ai rfl
def wrs (h:History) (l:List Int) (key:Int):List Int:=l.flatMap (fun o=>jK h o key)
def sO (h:History) (l:List Int) (key t:Int):List Int:=if 0≤t then wrs h (l.take (pos l t + 1)) key else []
section
variable {h:History} {l:List Int}
theorem zY {key:Int} {k:Nat} (hk:k < l.length):wrs h (l.take (k + 1)) key=wrs h (l.take k) key++jK h (idx l (k:Int)) key:=by
 unfold wrs
 rw [jw hk,List.flatMap_append]
 simp
theorem GG (hS:kT h) {o key:Int} (ho:0≤o∧o < (h.Txns.length:Int)):(jK h o key).length≤16:=by
 obtain ⟨n,rfl⟩:∃ n:Nat,o=(n:Int):=⟨o.toNat,by omega⟩
 exact Nat.le_trans zS (hS.txn n (by omega)).ops.1
theorem xy (hS:kT h) (ho:lI h l) {key:Int}:∀ k,k≤l.length→(wrs h (l.take k) key).length≤16 * k
 | 0,_=>by simp [wrs]
 | k + 1,hk=>by
  have h1:=xy hS ho (key:=key) k (by omega);have h2:=ho.rg _ (qH (show k < l.length by omega));have h3:=GG hS (key:=key) ⟨h2.1,h2.2.1⟩
  rw [zY (by omega),List.length_append]
  omega
theorem zZ (hS:kT h) (ho:lI h l) {key t:Int}:(sO h l key t).length≤512:=by
 unfold sO
 split
 ·have h1:=ho.len;have h2:=hS.len;rcases Nat.lt_or_ge (pos l t) l.length with h3 | h3
  ·have:=xy hS ho (key:=key) (pos l t + 1) (by omega)
   omega
  ·have:=xy hS ho (key:=key) l.length (Nat.le_refl _)
   rw [List.take_of_length_le (by omega)]
   rw [List.take_length] at this
   omega
 ·simp
theorem zt (hS:kT h) (ho:lI h l) {m:List (Int×Int)} (hm:sN l m) {key ty t:Int} (hT:dK h key=some ty) (ht:t < 0∨t ∈ l) :
  ak ⟨h,l,m⟩ key t=some (fin ty (sO h l key t)):=by
 have hll:=ho.len;have a4:=hS.len;have ha:=zZ hS ho (key:=key) (t:=t);refine kR.1 ?_;unfold ak;refine ay (fun h1 => ?_) (fun h1 => ?_)
 ·have htm:t ∈ l:=by rcases ht with h | h; omega; exact h
  have hp:=zq.2 htm;have e:w64 (mat m t + 1)=((pos l t + 1:Nat):Int):=by rw [hm.at_ t htm]; exact bW (by omega)
  dsimp only
  rw [e]
  refine au (by omega) ?_;have haa:sO h l key t=wrs h (l.take (pos l t + 1)) key:=if_pos (by omega)
  rw [haa] at ha ⊢
  refine gm (k0:=0) (pos l t + 1) (fun k s=>s=(wrs h (l.take k) key,(k:Int))) (Nat.zero_le _) rfl ?_;rintro k s hk rfl;have hw:w64 ((k:Int) + 1)=((k + 1:Nat):Int):=bW (by omega);have hkl:=xy hS ho (key:=key) k (by omega);have hsub:dh l (0:Int) ((pos l t + 1:Nat):Int)=l.take (pos l t + 1):=mr (by omega);unfold jD
  dsimp only
  rw [e,hsub,List.length_take,Nat.min_eq_left (by omega)]
  refine ay (fun h2 => ?_) (fun h2 => ?_)
  ·have a1:k < pos l t + 1:=by omega
   rw [ou a1]
   have hr:=ho.rg _ (qH (show k < l.length by omega));refine au (by omega) (au ⟨hr.1,hr.2.1⟩ ?_);have a3:(idx h.Txns (idx l (k:Int))).Ops.length≤16:=by
    obtain ⟨n,hn⟩:∃ n:Nat,idx l (k:Int)=(n:Int):=⟨(idx l (k:Int)).toNat,by omega⟩
    rw [hn] at hr ⊢
    exact (hS.txn n (by omega)).ops.1
   refine gm (k0:=0) (idx h.Txns (idx l (k:Int))).Ops.length (fun p s=>s=(wrs h (l.take k) key++qj (idx h.Txns (idx l (k:Int))).Ops key p,(p:Int))) (Nat.zero_le _) (by rw [Cv,List.append_nil]; rfl) ?_;rintro p s a5 rfl;have a2:w64 ((p:Int) + 1)=((p + 1:Nat):Int):=bW (by omega);have hol:=vE (ops:=(idx h.Txns (idx l (k:Int))).Ops) (key:=key) (p:=p);unfold jC gW gV
   dsimp only
   rw [e,hsub,ou a1,a2]
   refine ay (fun h3 => ?_) (fun h3 => ?_)
   ·have a0:p < (idx h.Txns (idx l (k:Int))).Ops.length:=by omega
    have hos:=wG (key:=key) a0;refine au (by omega) ?_;refine ay (fun h4 => ?_) (fun h4 => ?_)
    ·refine ay (fun h5 => ?_) (fun h5 => ?_)
     ·refine au (by rw [List.length_append]; omega) (ai ⟨a0,?_⟩)
      rw [if_pos ⟨h4,h5⟩] at hos
      rw [hos,List.append_assoc]
     ·refine ai ⟨a0,?_⟩
      rw [if_neg (fun h=>h5 h.2)] at hos
      rw [hos]
    ·refine ay (fun h5=>absurd h5 (by simp)) (fun h5=>ai ⟨a0,?_⟩)
     rw [if_neg (fun h=>h4 h.1)] at hos
     rw [hos]
   ·have:p=(idx h.Txns (idx l (k:Int))).Ops.length:=by omega
    subst this;refine aC (ai ⟨a1,?_⟩)
    dsimp only
    rw [hw,zY (by omega)]
    rfl
  ·have:k=pos l t + 1:=by omega
   subst this;exact aC (kR.2 (zX hT (by omega)))
 ·have haa:sO h l key t=[]:=if_neg (by omega)
  rw [haa]
  exact kR.2 (zX hT (by simp))
end
end Go.Proofs.YtnlkggppokcmfaaT
namespace Go.Proofs.YtnlkggppokcmfaaT
open Go Go.Proofs Go.Proofs.YtnlkggppokcmfaaE
set_option linter.unusedVariables false
set_option linter.unusedSimpArgs false
theorem Dw {m:List (Int×Int)} {x:Int} (h:ja m x=false):mat m x=0 :=
 (qw (fun k hk e=>by
  have:=BO.2 (e ▸ hk)
  rw [h] at this
  cases this)).1
theorem Aa {h:History} {a:Ask} (ha:a ∈ dH h h.Txns.length):∃ t:Nat,a.Txn=(t:Int)∧t < h.Txns.length∧(idx h.Txns (t:Int)).Status=1:=by
 unfold dH at ha;obtain ⟨t,ht,ha⟩:=List.mem_flatMap.1 ha;have ht:=List.mem_range.1 ht;unfold pX at ha
 split at ha
 case isFalse=>cases ha
 case isTrue hst =>
 unfold oo at ha;obtain ⟨p,hp,ha⟩:=List.mem_flatMap.1 ha;refine ⟨t,?_,ht,hst⟩;unfold wL at ha
 dsimp only at ha
 split at ha
 ·cases ha
 ·split at ha
  ·rw [List.mem_singleton] at ha
   rw [ha]
  ·split at ha
   ·rw [List.mem_singleton] at ha
    rw [ha]
   ·cases ha
def Dx (h:History) (l:List Int):Prop:=∀ i k:Nat,k < i→i < h.Txns.length→(idx h.Txns (i:Int)).Proc=(idx h.Txns (k:Int)).Proc→(i:Int) ∈ l→(k:Int) ∈ l→pos l (k:Int) < pos l (i:Int)
def Ahead (h:History) (l:List Int) (a:Ask) (p:Int):Prop:=p ∈ l∧pos l p < pos l a.Txn∧0 < (jK h p a.Key).length
def kd (h:History) (a:Ask):Int:=typ (opAt h a.Txn a.Place).Kind
def ver (h:History) (l:List Int) (a:Ask) (p:Int):List Int:=fin (kd h a) (sO h l a.Key p)
open Classical in
noncomputable def ql (h:History) (l:List Int) (a:Ask) (p:Int):Int:=if p ≠ -1 ∧ ¬ Ahead h l a p then 5 else if ver h l a p≠a.Base then 6 else 0
def First (n:Nat) (v:Nat→Int) (r:Int):Prop:=(r=0∧∀ i,i < n→v i=0)∨(∃ i,i < n∧v i=r∧r≠0∧∀ j,j < i→v j=0)
theorem First.det {n:Nat} {v:Nat→Int} {r s:Int} (h1:First n v r) (h2:First n v s):r=s:=by
 rcases h1 with ⟨rfl,h1⟩ | ⟨i,hi,e1,n1,b1⟩ <;> rcases h2 with ⟨rfl,h2⟩ | ⟨j,hj,e2,n2,b2⟩
 ·rfl
 ·exact absurd (e2.symm.trans (h1 j hj)) n2
 ·exact absurd (e1.symm.trans (h2 i hi)) n1
 ·rcases Nat.lt_trichotomy i j with h | h | h
  ·exact absurd (e1.symm.trans (b2 i h)) n1
  ·subst h; exact e1.symm.trans e2
  ·exact absurd (e2.symm.trans (b1 j h)) n2
theorem First.congr {n:Nat} {v u:Nat→Int} {r:Int} (h:First n v r) (e:∀ i,i < n→v i=u i):First n u r:=by
 rcases h with ⟨h1,h2⟩ | ⟨i,hi,e1,n1,b1⟩
 ·exact .inl ⟨h1,fun i hi=>(e i hi).symm.trans (h2 i hi)⟩
 ·exact .inr ⟨i,hi,(e i hi).symm.trans e1,n1,fun j hj=>(e j (by omega)).symm.trans (b1 j hj)⟩
inductive Why (h:History) (x:Exec):Int→Prop
 | bad:gM h h.Txns.length≠[]→Why h x 1
 | order:gM h h.Txns.length=[] → ¬ lI h x.Order→Why h x 2
 | picks:gM h h.Txns.length=[]→lI h x.Order→x.Picks.length≠(dH h h.Txns.length).length→Why h x 3
 | sess:gM h h.Txns.length=[]→lI h x.Order→x.Picks.length=(dH h h.Txns.length).length → ¬ Dx h x.Order→Why h x 4
 | pick {r:Int}:gM h h.Txns.length=[]→lI h x.Order→x.Picks.length=(dH h h.Txns.length).length→Dx h x.Order →
   First (dH h h.Txns.length).length (fun i=>ql h x.Order (idx (dH h h.Txns.length) (i:Int)) (idx x.Picks (i:Int))) r→Why h x r
theorem Why.det {h:History} {x:Exec} {r s:Int} (h1:Why h x r) (h2:Why h x s):r=s:=by
 cases h1 <;> cases h2 <;> first | rfl | contradiction | exact First.det ‹_› ‹_›
section
variable {h:History} {l:List Int} {m:List (Int×Int)}
theorem Bg (hS:kT h) (hc:az h=some 0) (ho:lI h l) (hm:sN l m) {a:Ask} (ha:a ∈ dH h h.Txns.length) {p:Int}:Tri (dI ⟨h,l,m⟩ a p) (fun r=>r=true↔Ahead h l a p):=by
 obtain ⟨t,et,ht,hst⟩:=Aa ha;have htl:=ho.dn t ht hst;unfold dI iQ
 dsimp only
 rw [hm.hasB]
 refine ay (fun h1 => ?_) (fun h1 => ?_)
 ·rw [cond_true]
  exact ai ⟨fun h=>(nomatch h),fun h2=>absurd h2.1 h1⟩
 ·have hp:p ∈ l:=Classical.byContradiction h1
  rw [hm.at_ p hp,et,hm.at_ _ htl]
  refine ay (fun h2=>ai ⟨fun h=>(nomatch h),fun h3 => ?_⟩) (fun h2 => ?_)
  ·have:=h3.2.1
   rw [et] at this
   omega
  ·refine fM (Be hS hc) (ai ?_);have hr:=ho.rg p hp
   rw [if_pos ⟨hr.1,hr.2.1⟩]
   dsimp only
   rw [decide_eq_true_iff]
   exact ⟨fun h3=>⟨hp,by rw [et]; omega,h3⟩,fun h3=>h3.2.2⟩
theorem CF (ho:lI h l) (a1:h.Txns.length≤32) (hm:sN l m):Tri (aP ⟨h,l,m⟩) (fun r=>r=true↔Dx h l):=by
 unfold aP;refine gm (k0:=0) h.Txns.length (fun k s=>s.2=(k:Int)∧(∀ t:Nat,t < k→(t:Int) ∈ l→ja s.1 (idx h.Txns (t:Int)).Proc=true∧(pos l (t:Int):Int)≤mat s.1 (idx h.Txns (t:Int)).Proc) ∧
  (∀ q,ja s.1 q=true→∃ t:Nat,t < k∧(t:Int) ∈ l∧(idx h.Txns (t:Int)).Proc=q∧mat s.1 q=(pos l (t:Int):Int)) ∧
  ∀ i j:Nat,j < i→i < k→(idx h.Txns (i:Int)).Proc=(idx h.Txns (j:Int)).Proc→(i:Int) ∈ l→(j:Int) ∈ l→pos l (j:Int) < pos l (i:Int)) (Nat.zero_le _)
  ⟨rfl,fun t ht=>absurd ht (Nat.not_lt_zero _),fun q hq=>(by rw [Aj] at hq; cases hq),fun i j h1 h2=>absurd h2 (Nat.not_lt_zero _)⟩ ?_
 rintro k ⟨s,x⟩ hk ⟨rfl,i1,i2,i3⟩;have hw:w64 ((k:Int) + 1)=((k + 1:Nat):Int):=bW (by omega)
 dsimp only at i1 i2 i3
 unfold je gH gG
 dsimp only
 rw [hw,hm.hasB]
 refine ay (fun h1 => ?_) (fun h1 => ?_)
 ·have a0:k < h.Txns.length:=by omega
  refine au (by omega) ?_;refine ay (fun h2 => ?_) (fun h2 => ?_)
  ·refine ai ⟨a0,rfl,fun t ht htl => ?_,fun q hq => ?_,fun i j hij hi hp hil hjl => ?_⟩
   ·have:t≠k:=fun e=>h2 (e ▸ htl);exact i1 t (by omega) htl
   ·obtain ⟨t,q1,q2⟩:=i2 q hq;exact ⟨t,by omega,q2⟩
   ·have:i≠k:=fun e=>h2 (e ▸ hil);exact i3 i j hij (by omega) hp hil hjl
  ·have hkl:(k:Int) ∈ l:=Classical.byContradiction h2
   rw [hm.at_ _ hkl]
   have go:(∀ t:Nat,t < k→(t:Int) ∈ l→(idx h.Txns (k:Int)).Proc=(idx h.Txns (t:Int)).Proc→pos l (t:Int) < pos l (k:Int)) →
     Upm h.Txns.length k (fun k s=>s.2=(k:Int)∧(∀ t:Nat,t < k→(t:Int) ∈ l→ja s.1 (idx h.Txns (t:Int)).Proc=true∧(pos l (t:Int):Int)≤mat s.1 (idx h.Txns (t:Int)).Proc) ∧
      (∀ q,ja s.1 q=true→∃ t:Nat,t < k∧(t:Int) ∈ l∧(idx h.Txns (t:Int)).Proc=q∧mat s.1 q=(pos l (t:Int):Int)) ∧
      ∀ i j:Nat,j < i→i < k→(idx h.Txns (i:Int)).Proc=(idx h.Txns (j:Int)).Proc→(i:Int) ∈ l→(j:Int) ∈ l→pos l (j:Int) < pos l (i:Int)) (fun r=>r=true↔Dx h l)
      (.inl (fH s (idx h.Txns (k:Int)).Proc (xh (pos l (k:Int):Int) (mat s (idx h.Txns (k:Int)).Proc)),((k + 1:Nat):Int))):=fun hno=>by
    have hmax:xh (pos l (k:Int):Int) (mat s (idx h.Txns (k:Int)).Proc)=(pos l (k:Int):Int):=by
     unfold xh
     split
     ·rename_i hlt
      by_cases hh:ja s (idx h.Txns (k:Int)).Proc=true
      ·obtain ⟨t,q1,q2,q3,q4⟩:=i2 _ hh;have:=hno t q1 q2 q3.symm
       omega
      ·have e0:mat s (idx h.Txns (k:Int)).Proc=0:=Dw (by simpa using hh)
       omega
     ·rfl
    rw [hmax]
    refine ⟨a0,rfl,fun t ht htl => ?_,fun q hq => ?_,fun i j hij hi hp hil hjl => ?_⟩
    ·dsimp only
     rw [sQ,mO]
     by_cases hp:(idx h.Txns (t:Int)).Proc=(idx h.Txns (k:Int)).Proc
     ·rw [if_pos hp]
      refine ⟨.inl hp,?_⟩
      by_cases htk:t=k
      ·rw [htk]; omega
      ·have:=hno t (by omega) htl hp.symm
       omega
     ·rw [if_neg hp]
      have htk:t≠k:=fun e=>hp (by rw [e]);obtain ⟨q1,q2⟩:=i1 t (by omega) htl;exact ⟨.inr q1,q2⟩
    ·dsimp only at hq ⊢
     rw [sQ] at hq
     rw [mO]
     by_cases hp:q=(idx h.Txns (k:Int)).Proc
     ·rw [if_pos hp]
      exact ⟨k,by omega,hkl,hp.symm,rfl⟩
     ·rw [if_neg hp]
      rcases hq with hq | hq
      ·exact absurd hq hp
      ·obtain ⟨t,q1,q2⟩:=i2 q hq;exact ⟨t,by omega,q2⟩
    ·rcases Nat.lt_or_ge i k with h5 | h5
     ·exact i3 i j hij h5 hp hil hjl
     ·have:i=k:=by omega
      subst this;exact hno j hij hjl hp
   refine ay (fun h3 => ?_) (fun h3 => ?_)
   ·obtain ⟨t,q1,q2,q3,q4⟩:=i2 _ h3;refine ay (fun h4 => ?_) (fun h4=>ai (go (fun u hu hul hpu => ?_)))
    ·refine aC (ai ⟨fun h=>(nomatch h),fun hs => ?_⟩);have:=hs k t q1 a0 q3.symm hkl q2
     omega
    ·have h5:=(i1 u hu hul).2
     rw [← hpu] at h5
     have h6:pos l (u:Int)≠pos l (k:Int):=fun e=>by
      have h7:=xx hul
      rw [e,xx hkl] at h7
      omega
     omega
   ·refine ay (fun h4=>absurd h4 (by simp)) (fun h4=>ai (go (fun u hu hul hpu => ?_)));have h5:=(i1 u hu hul).1
    rw [← hpu] at h5
    exact absurd h5 h3
 ·have:k=h.Txns.length:=by omega
  subst this;exact aC (ai ⟨fun _=>i3,fun _=>rfl⟩)
theorem FT {a:Ask} {t p:Nat} (hk:FR h a t p):kd h a=typ (opAt h (t:Int) (p:Int)).Kind:=by
 unfold kd
 rw [hk.e1,hk.e2]
theorem Dy (hS:kT h) (hc:az h=some 0) {a:Ask} (ha:a ∈ dH h h.Txns.length):dK h a.Key=some (kd h a):=by
 obtain ⟨t,p,hk⟩:=Dt hS ha
 rw [FT hk]
 exact Cx hS hc hk.tl hk.pl hk.e3.symm
theorem EW (hS:kT h) (ho:lI h l) {a:Ask} {p:Int}:(ver h l a p).length≤513:=by
 have h1:=EU (ty:=kd h a) (w:=sO h l a.Key p);have h2:=zZ hS ho (key:=a.Key) (t:=p);unfold ver
 omega
theorem Dz (hs:sK h) (hS:kT h) (hc:az h=some 0) {x:Exec} (hl:x.Order.length < 2 ^ 50) (hpl:x.Picks.length < 2 ^ 50):Tri (dL h x) (fun r=>r.2=0∧Why h x r.1):=by
 have a1:=hS.len;obtain ⟨n1,n2,_⟩:=yQ hS h.Txns.length (Nat.le_refl _);have hA:jQ h=some (dH h h.Txns.length,0):=by unfold jQ; rw [zR hs hS hc]; rfl
 have hB:qa h=some (gM h h.Txns.length,0):=by unfold qa; rw [zR hs hS hc]; rfl
 unfold dL;refine fM hA ?_;refine ay (fun h1=>absurd rfl h1) (fun _ => ?_);refine fM hB ?_;refine ay (fun h1 => ?_) (fun h1 => ?_)
 ·exact ai ⟨rfl,.bad (fun e=>by dsimp only at h1; rw [e] at h1; simp at h1)⟩
 have hsp:gM h h.Txns.length=[]:=List.length_eq_zero_iff.1 (by dsimp only at h1; omega);refine eP (CE a1 (by omega)) (fun r hr => ?_);obtain ⟨⟨rh,ro,rm⟩,rb⟩:=r;obtain ⟨e1,e2,e3,e4⟩:=hr
 dsimp only at e1 e2 e3 e4
 subst e1 e2;refine ay (fun h2 => ?_) (fun h2 => ?_)
 ·exact ai ⟨rfl,.order hsp (fun ho=>h2 (e3.2 ho))⟩
 have ho:=e3.1 (by simpa using h2);have hm:=e4 (by simpa using h2)
 dsimp only
 refine ay (fun h3 => ?_) (fun h3 => ?_)
 ·exact ai ⟨rfl,.picks hsp ho (fun e=>h3 (by rw [e]))⟩
 have hpe:x.Picks.length=(dH rh rh.Txns.length).length:=by
  have:¬ ¬ ((x.Picks.length:Int)=((dH rh rh.Txns.length).length:Int)):=h3
  omega
 refine eP (CF ho a1 hm) (fun b hb => ?_);refine ay (fun h4 => ?_) (fun h4 => ?_)
 ·exact ai ⟨rfl,.sess hsp ho hpe (fun hq=>h4 (hb.2 hq))⟩
 have hq:=hb.1 (by simpa using h4);generalize hAs:dH rh rh.Txns.length=aL at hpe n1 hA
 suffices hloop:Tri (iter (oV x (aL,0) (⟨rh,x.Order,rm⟩,rb)) 0) (fun r=>r.2=0∧First aL.length (fun i=>ql rh x.Order (idx aL (i:Int)) (idx x.Picks (i:Int))) r.1) from
  dG hloop (fun r hr=>⟨hr.1,.pick hsp ho (by rw [hAs]; exact hpe) hq (by rw [hAs]; exact hr.2)⟩)
 refine gm (k0:=0) aL.length (fun k s=>s=(k:Int)∧∀ i,i < k→ql rh x.Order (idx aL (i:Int)) (idx x.Picks (i:Int))=0) (Nat.zero_le _) ⟨rfl,fun i hi=>absurd hi (Nat.not_lt_zero _)⟩ ?_;rintro k s hk ⟨rfl,hz⟩;have hw:w64 ((k:Int) + 1)=((k + 1:Nat):Int):=bW (by omega);unfold oV oU
 dsimp only
 rw [hw]
 refine ay (fun h5 => ?_) (fun h5 => ?_)
 ·have a0:k < aL.length:=by omega
  have ham:idx aL (k:Int) ∈ dH rh rh.Txns.length:=by rw [hAs]; exact zW a0
  refine au (by omega) (au (by omega) ?_);generalize hpv:idx x.Picks (k:Int)=p;have tail:(p ≠ -1→Ahead rh x.Order (idx aL (k:Int)) p)→Tri (must (0≤(k:Int)∧(k:Int) < (x.Picks.length:Int)) ((ak ⟨rh,x.Order,rm⟩ ((idx aL (k:Int)).Key) p).bind fun y=>(bS y ((idx aL (k:Int)).Base)).bind fun z=>bif !z then out (some (6,0)) else (some (.inl ((k + 1:Nat):Int)))))
    (Upm aL.length k (fun k s=>s=(k:Int)∧∀ i,i < k→ql rh x.Order (idx aL (i:Int)) (idx x.Picks (i:Int))=0) (fun r:Int×Int=>r.2=0∧First aL.length (fun i=>ql rh x.Order (idx aL (i:Int)) (idx x.Picks (i:Int))) r.1)):=fun hah=>by
   have hv:ak ⟨rh,x.Order,rm⟩ ((idx aL (k:Int)).Key) p=some (ver rh x.Order (idx aL (k:Int)) p) :=
    zt hS ho hm (Dy hS hc ham) (by
     by_cases hp:p = -1
     ·left; omega
     ·exact .inr (hah hp).1)
   have hvl:=EW hS ho (a:=idx aL (k:Int)) (p:=p);refine au (by omega) (fM hv (fM (xN (by omega)) ?_));refine ay (fun h6 => ?_) (fun h6 => ?_)
   ·refine aC (ai ⟨rfl,.inr ⟨k,a0,?_,by decide,hz⟩⟩)
    show ql rh x.Order (idx aL (k:Int)) (idx x.Picks (k:Int))=6
    rw [hpv]
    unfold ql
    rw [if_neg (fun h=>h.2 (hah h.1)),if_pos h6]
   ·refine ai ⟨a0,rfl,fun i hi => ?_⟩;rcases Nat.lt_or_ge i k with h7 | h7
    ·exact hz i h7
    ·have:i=k:=by omega
     subst this
     rw [hpv]
     unfold ql
     rw [if_neg (fun h=>h.2 (hah h.1)),if_neg h6]
  refine ay (fun h6 => ?_) (fun h6 => ?_)
  ·refine eP (Bg hS hc ho hm ham) (fun b hb => ?_);refine ay (fun h7 => ?_) (fun h7 => ?_)
   ·refine aC (ai ⟨rfl,.inr ⟨k,a0,?_,by decide,hz⟩⟩)
    show ql rh x.Order (idx aL (k:Int)) (idx x.Picks (k:Int))=5
    rw [hpv]
    unfold ql
    rw [if_pos ⟨h6,fun h=>h7 (hb.2 h)⟩]
   ·exact tail (fun _=>hb.1 (by simpa using h7))
  ·rw [cond_false]
   exact tail (fun h=>absurd h h6)
 ·have:k=aL.length:=by omega
  subst this;exact aC (ai ⟨rfl,.inl ⟨rfl,hz⟩⟩)
theorem EX (hc:az h=some 1) {x:Exec}:dL h x=some (0,1):=by
 unfold dL jQ iT
 rw [hc]
 rfl
end
end Go.Proofs.YtnlkggppokcmfaaT
namespace Go.Proofs.YtnlkggppokcmfaaT
open Go Go.Proofs Go.Proofs.YtnlkggppokcmfaaE
set_option linter.unusedVariables false
set_option linter.unusedSimpArgs false
section
variable {h:History} {l:List Int}
end
end Go.Proofs.YtnlkggppokcmfaaT
namespace Go.Proofs.YtnlkggppokcmfaaT
open Go Go.Proofs Go.Proofs.YtnlkggppokcmfaaE
set_option linter.unusedVariables false
set_option linter.unusedSimpArgs false
abbrev XG (x:Exec):Prop:=((∀ y ∈ (x).Order,(Lit.int .i64 y).wf=true)∧((x).Order).length * 8≤140737488351232)∧((∀ y ∈ (x).Picks,(Lit.int .i64 y).wf=true)∧((x).Picks).length * 8≤140737488351232)
section
variable {h:History} {x:Exec}
structure Ga (h:History) (x:Exec):Prop where
 sp:gM h h.Txns.length=[]
 ord:lI h x.Order
 len:x.Picks.length=(dH h h.Txns.length).length
 sess:Dx h x.Order
 pick:∀ i,i < (dH h h.Txns.length).length→ql h x.Order (idx (dH h h.Txns.length) (i:Int)) (idx x.Picks (i:Int))=0
theorem BP {r:Int} (hw:Why h x r):r=0↔Ga h x:=by
 constructor
 ·intro e;cases hw with
  | bad=>cases e
  | order=>cases e
  | picks=>cases e
  | sess=>cases e
  | pick h1 h2 h3 h4 h5 =>
   rcases h5 with ⟨_,h5⟩ | ⟨_,_,_,n,_⟩
   ·exact ⟨h1,h2,h3,h4,h5⟩
   ·exact absurd e n
 ·intro hf;exact Why.det hw (.pick hf.sp hf.ord hf.len hf.sess (.inl ⟨rfl,hf.pick⟩))
theorem yT {l:List Int} {a:Ask} {p:Int}:ql h l a p=0↔(p = -1∨Ahead h l a p)∧ver h l a p=a.Base:=by
 unfold ql
 by_cases h1:p ≠ -1 ∧ ¬ Ahead h l a p
 ·rw [if_pos h1]
  exact ⟨fun e=>(nomatch e),fun h2=>absurd h2.1 (fun h3=>h3.elim h1.1 h1.2)⟩
 ·rw [if_neg h1]
  have h1':p = -1∨Ahead h l a p:=by
   by_cases hp:p = -1
   ·exact .inl hp
   ·exact .inr (Classical.byContradiction fun h2=>h1 ⟨hp,h2⟩)
  by_cases h2:ver h l a p≠a.Base
  ·rw [if_pos h2]
   exact ⟨fun e=>(nomatch e),fun h3=>absurd h3.2 h2⟩
  ·rw [if_neg h2]
   exact ⟨fun _=>⟨h1',Classical.byContradiction h2⟩,fun _=>rfl⟩
theorem DC (hs:sK h) (hl:x.Order.length < 2 ^ 50) (hpl:x.Picks.length < 2 ^ 50):Tri (dL h x) (fun r=>(r=(0,1)∧az h=some 1)∨(r.2=0∧kT h∧az h=some 0∧Why h x r.1)):=by
 obtain ⟨v,hv,hv',a0,hiff⟩:=Bc hs;rcases a0 with rfl | rfl
 ·exact dG (Dz hs (hiff.1 rfl) hv hl hpl) (fun r hr => .inr ⟨hr.1,hiff.1 rfl,hv,hr.2⟩)
 ·exact Fu (EX hv) (.inl ⟨rfl,hv⟩)
theorem CG {l:List Int} {x:Int} (hl:l.length < 2 ^ 60):cO l x=some (decide (x ∈ l)):=by
 refine Fv.1 ?_;unfold cO;refine gm (k0:=0) l.length (fun k s=>s=(k:Int)∧∀ j:Nat,j < k→idx l (j:Int)≠x) (Nat.zero_le _) ⟨rfl,fun j h=>absurd h (Nat.not_lt_zero _)⟩ ?_;rintro k s hk ⟨rfl,hno⟩;have hw:w64 ((k:Int) + 1)=((k + 1:Nat):Int):=bW (by omega);unfold lu
 dsimp only
 rw [hw]
 refine ay (fun h1 => ?_) (fun h1 => ?_)
 ·have a0:k < l.length:=by omega
  refine au (by omega) ?_;refine ay (fun h2 => ?_) (fun h2 => ?_)
  ·refine aC (ai ⟨fun _ => ?_,fun _=>rfl⟩)
   rw [← h2]
   exact qH a0
  ·refine ai ⟨a0,rfl,fun j hj => ?_⟩;rcases Nat.lt_or_ge j k with h3 | h3
   ·exact hno j h3
   ·have:j=k:=by omega
    subst this;exact h2
 ·have:k=l.length:=by omega
  subst this;refine aC (ai ⟨fun h=>(nomatch h),fun h => ?_⟩);obtain ⟨j,hj,e⟩:=BN h;exact absurd e (hno j hj)
theorem xV {t u v:Int} (hut:u≠t) (hvt:v≠t):∀ {l:List Int},l.Nodup→u ∈ l→v ∈ l→pos l u < pos l v→pos (l.filter fun y=>decide (y≠t)) u < pos (l.filter fun y=>decide (y≠t)) v:=by
 intro l
 induction l with
 | nil=>intro _ h; cases h
 | cons y l ih =>
  intro hn hu hv hlt;obtain ⟨hy,hn'⟩:=List.nodup_cons.1 hn;unfold pos at hlt ⊢
  rw [List.findIdx_cons,List.findIdx_cons] at hlt
  by_cases hyt:y=t
  ·have e1:decide (y=u)=false:=decide_eq_false (fun e=>hut (by rw [← e,hyt]));have e2:decide (y=v)=false:=decide_eq_false (fun e=>hvt (by rw [← e,hyt]))
   rw [e1,e2,cond_false,cond_false] at hlt
   rw [List.filter_cons_of_neg (by simp [hyt])]
   exact ih hn' ((List.mem_cons.1 hu).resolve_left (fun e=>by simp [e] at e1)) ((List.mem_cons.1 hv).resolve_left (fun e=>by simp [e] at e2)) (by unfold pos; omega)
  ·rw [List.filter_cons_of_pos (by simp [hyt]),List.findIdx_cons,List.findIdx_cons]
   by_cases hyu:y=u
   ·rw [decide_eq_true hyu,cond_true] at hlt ⊢
    by_cases hyv:y=v
    ·rw [decide_eq_true hyv,cond_true] at hlt; omega
    ·rw [decide_eq_false hyv,cond_false]; omega
   ·rw [decide_eq_false hyu,cond_false] at hlt ⊢
    by_cases hyv:y=v
    ·rw [decide_eq_true hyv,cond_true] at hlt; omega
    ·rw [decide_eq_false hyv,cond_false] at hlt ⊢
     have:=ih hn' ((List.mem_cons.1 hu).resolve_left (fun e=>hyu e.symm)) ((List.mem_cons.1 hv).resolve_left (fun e=>hyv e.symm)) (by unfold pos; omega);unfold pos at this
     omega
theorem zu {t v:Int} (hvt:v≠t):∀ {l:List Int},v ∈ l→(l.filter fun y=>decide (y≠t)).take (pos (l.filter fun y=>decide (y≠t)) v + 1)=(l.take (pos l v + 1)).filter fun y=>decide (y≠t):=by
 intro l
 induction l with
 | nil=>intro h; cases h
 | cons y l ih =>
  intro hv
  by_cases hyt:y=t
  ·have e2:decide (y=v)=false:=decide_eq_false (fun e=>hvt (by rw [← e,hyt]));have hv':v ∈ l:=(List.mem_cons.1 hv).resolve_left (fun e=>by simp [e] at e2);have ep:pos (y::l) v=pos l v + 1:=by unfold pos; rw [List.findIdx_cons,e2,cond_false]
   rw [ep,List.take_succ_cons,List.filter_cons_of_neg (by simp [hyt]),List.filter_cons_of_neg (by simp [hyt])]
   exact ih hv'
  ·rw [List.filter_cons_of_pos (by simp [hyt])]
   by_cases hyv:y=v
   ·have ep:∀ m,pos (y::m) v=0:=fun m=>by unfold pos; rw [List.findIdx_cons,decide_eq_true hyv,cond_true]
    rw [ep,ep]
    simp [hyt]
   ·have ep:∀ m,pos (y::m) v=pos m v + 1:=fun m=>by unfold pos; rw [List.findIdx_cons,decide_eq_false hyv,cond_false]
    rw [ep,ep,List.take_succ_cons,List.take_succ_cons,List.filter_cons_of_pos (by simp [hyt]),ih ((List.mem_cons.1 hv).resolve_left (fun e=>hyv e.symm))]
theorem uI {t key:Int} (ht:jK h t key=[]):∀ l:List Int,wrs h (l.filter fun y=>decide (y≠t)) key=wrs h l key
 | []=>rfl
 | y::l=>by
  by_cases hyt:y=t
  ·rw [List.filter_cons_of_neg (by simp [hyt])]
   unfold wrs
   rw [List.flatMap_cons,hyt,ht]
   exact uI ht l
  ·rw [List.filter_cons_of_pos (by simp [hyt])]
   unfold wrs
   rw [List.flatMap_cons,List.flatMap_cons]
   exact congrArg _ (uI ht l)
theorem Ab {a b:List Int} (hb:0 < b.length):(a++b).drop ((a++b).length - 1)=b.drop (b.length - 1):=by
 rw [List.length_append,List.drop_append,List.drop_eq_nil_of_le (by omega),List.nil_append]
 congr 1
 omega
theorem Ac {l:List Int} {a:Ask} {t p:Int} (hpt:p≠t) (hp:p = -1∨Ahead h l a p) (hn:l.Nodup) (hw:kd h a=1∨jK h t a.Key=[]):ver h (l.filter fun y=>decide (y≠t)) a p=ver h l a p:=by
 unfold ver sO
 by_cases h0:0≤p
 ·rw [if_pos h0,if_pos h0]
  have hpa:=hp.resolve_left (by omega)
  rw [zu hpt hpa.1]
  rcases hw with hw | hw
  ·
   unfold fin
   rw [if_pos hw,if_pos hw]
   have hpl:=zq.2 hpa.1;have e1:l.take (pos l p + 1)=l.take (pos l p)++[p]:=by rw [jw hpl,xx hpa.1]
   rw [e1,List.filter_append]
   have e2:[p].filter (fun y=>decide (y≠t))=[p]:=by simp [hpt]
   rw [e2]
   have e3:∀ m:List Int,wrs h (m++[p]) a.Key=wrs h m a.Key++jK h p a.Key:=fun m=>by unfold wrs; rw [List.flatMap_append]; simp
   rw [e3,e3,Ab hpa.2.2,Ab hpa.2.2]
  ·rw [uI hw]
 ·rw [if_neg h0,if_neg h0]
theorem without (hS:kT h) (hf:Ga h x) {t:Int} (ht:0≤t∧t < (h.Txns.length:Int)) (hst:(idx h.Txns t).Status=3) (hnp:t ∉ x.Picks) (hreg:∀ o ∈ (idx h.Txns t).Ops,o.Kind≠2∧o.Kind≠3∧o.Kind≠4):Ga h ⟨x.Order.filter fun y=>decide (y≠t),x.Picks⟩:=by
 have mem:∀ u,u ∈ x.Order.filter (fun y=>decide (y≠t))↔u ∈ x.Order∧u≠t:=fun u=>by rw [List.mem_filter]; simp
 have ne:∀ u:Nat,u < h.Txns.length→(idx h.Txns (u:Int)).Status=1→(u:Int)≠t:=fun u _ hd e=>by rw [e] at hd; omega
 refine ⟨hf.sp,⟨hf.ord.nd.filter _,fun u hu=>hf.ord.rg u ((mem u).1 hu).1,fun u hu hd=>(mem _).2 ⟨hf.ord.dn u hu hd,ne u hu hd⟩⟩,hf.len,fun i k hki hi hpr hil hkl => ?_,fun i hi => ?_⟩
 ·obtain ⟨q1,q2⟩:=(mem _).1 hil;obtain ⟨q3,q4⟩:=(mem _).1 hkl;exact xV q4 q2 hf.ord.nd q3 q1 (hf.sess i k hki hi hpr q1 q3)
 ·obtain ⟨h1,h2⟩:=yT.1 (hf.pick i hi);have ha:idx (dH h h.Txns.length) (i:Int) ∈ dH h h.Txns.length:=zW hi;have hlp:=hf.len;have hpt:idx x.Picks (i:Int)≠t:=fun e=>hnp (by rw [← e]; exact qH (by omega));refine yT.2 ⟨h1.imp id (fun h3 => ?_),?_⟩
  ·obtain ⟨q1,q2,q3⟩:=h3;obtain ⟨u,eu,hu,hd⟩:=Aa ha;have:=hf.ord.dn u hu hd;refine ⟨(mem _).2 ⟨q1,hpt⟩,?_,q3⟩
   rw [eu] at q2 ⊢
   exact xV hpt (ne u hu hd) hf.ord.nd q1 this q2
  ·dsimp only
   rw [Ac hpt h1 hf.ord.nd ?_,h2]
   by_cases hw:jK h t (idx (dH h h.Txns.length) (i:Int)).Key=[]
   ·exact .inr hw
   ·left
    obtain ⟨v,hv⟩:=List.exists_mem_of_ne_nil _ hw;obtain ⟨o,ho,q1,q2,_⟩:=Cy.1 hv;obtain ⟨n,rfl⟩:∃ n:Nat,t=(n:Int):=⟨t.toNat,by omega⟩
    obtain ⟨pl,hpl,hop⟩:=GA ho;obtain ⟨t',p',hk⟩:=Dt hS ha
    rw [FT hk,← zT hS (show n < h.Txns.length by omega) hpl hk.tl hk.pl (by rw [hop,q1]; exact hk.e3),hop]
    obtain ⟨k1,_⟩:=zn hS (show n < h.Txns.length by omega) hpl
    rw [hop] at k1
    obtain ⟨r1,r2,r3⟩:=hreg o ho;have:o.Kind=1:=by omega
    rw [this]
    rfl
theorem xg (h:History) (x:Exec) (out:Int) {K:ByteArray→Prop} (g:HG K h) (gx:XG x) (gt:(Lit.int .i64 out).wf=true):ag h x out=some true:=by
 have hs:=g.small;have g1:=gx.1.2;have g2:=gx.2.2;refine kR.1 ?_;unfold ag
 rw [qB]
 refine bE ?_
 rw [Bool.not_true,cond_false]
 refine eP (DC hs (x:=x) (by omega) (by omega)) (fun r hr => ?_);have yes:Tri (bU h x out true) (fun b=>b=true):=by
  unfold bU; rw [cond_true]; exact ai rfl
 have a1:Tri (dA h x out true) (fun b=>b=true):=by
  unfold dA; rw [cond_true]; exact ai rfl
 refine ay (fun _=>yes) (fun h1 => ?_);refine ay (fun _=>yes) (fun h2 => ?_);rcases hr with ⟨rfl,_⟩ | ⟨_,hS,hc,hw⟩
 ·exact absurd (show ((0:Int),(1:Int)).2≠0 by decide) h1
 have hf:=(BP hw).1 (Classical.byContradiction h2);have a7:=hS.len
 by_cases a9:h.Txns.length=0
 ·rw [show ((h.Txns.length:Int) == 0)=true by rw [beq_iff_eq]; omega]
  exact yes
 rw [show ((h.Txns.length:Int) == 0)=false by rw [beq_eq_false_iff_ne]; omega]
 unfold bU
 rw [cond_false]
 have hwr:IntKind.wrap .u64 ((h.Txns.length:Int))=(h.Txns.length:Int):=wrap_u64 (by omega);have hu:0≤IntKind.wrap .u64 out:=by simp only [IntKind.wrap,IntKind.signed,IntKind.bits]; exact Int.emod_nonneg _ (by decide)
 have hm:=Int.emod_nonneg (IntKind.wrap .u64 out) (b:=(h.Txns.length:Int)) (by omega);have a8:=Int.emod_lt_of_pos (IntKind.wrap .u64 out) (b:=(h.Txns.length:Int)) (by omega);obtain ⟨t,et⟩:∃ t:Nat,IntKind.wrap .u64 out % (h.Txns.length:Int)=(t:Int):=⟨(IntKind.wrap .u64 out % (h.Txns.length:Int)).toNat,by omega⟩
 have e:w64 ((IntKind.wrap .u64 out).tmod (IntKind.wrap .u64 ((h.Txns.length:Int))))=(t:Int):=by
  rw [hwr,Int.tmod_eq_emod_of_nonneg hu,et,qI (by omega) (by omega)]
 rw [e,hwr]
 have htl:t < h.Txns.length:=by omega
 refine au (by omega) (au (by omega) ?_);refine ay (fun _=>a1) (fun h3 => ?_);have hst:(idx h.Txns (t:Int)).Status=3:=Classical.byContradiction h3;refine fM (CG (by omega)) ?_
 by_cases hin:(t:Int) ∈ x.Picks
 ·rw [decide_eq_true hin]; exact a1
 rw [decide_eq_false hin]
 unfold dA
 rw [cond_false]
 have a6:=(hS.txn t htl).ops.1;refine gm (k0:=0) (idx h.Txns (t:Int)).Ops.length (fun k s=>s=(k:Int)∧∀ j:Nat,j < k→(idx (idx h.Txns (t:Int)).Ops (j:Int)).Kind≠2∧(idx (idx h.Txns (t:Int)).Ops (j:Int)).Kind≠3∧(idx (idx h.Txns (t:Int)).Ops (j:Int)).Kind≠4) (Nat.zero_le _) ⟨rfl,fun j hj=>absurd hj (Nat.not_lt_zero _)⟩ ?_;rintro k s hk ⟨rfl,hno⟩;have a4:w64 ((k:Int) + 1)=((k + 1:Nat):Int):=bW (by omega);unfold gL dP
 dsimp only
 rw [e,a4]
 refine au (by omega) ?_;refine ay (fun h4 => ?_) (fun h4 => ?_)
 ·have a5:k < (idx h.Txns (t:Int)).Ops.length:=by omega
  refine au (by omega) ?_;refine ay (fun _=>aC (ai rfl)) (fun h5 => ?_);refine ay (fun _=>aC (ai rfl)) (fun h6 => ?_);refine ay (fun _=>aC (ai rfl)) (fun h7 => ?_);refine ai ⟨a5,rfl,fun j hj => ?_⟩;rcases Nat.lt_or_ge j k with h8 | h8
  ·exact hno j h8
  ·have:j=k:=by omega
   subst this;exact ⟨h5,h6,h7⟩
 ·have:k=(idx h.Txns (t:Int)).Ops.length:=by omega
  subst this;have hreg:∀ o ∈ (idx h.Txns (t:Int)).Ops,o.Kind≠2∧o.Kind≠3∧o.Kind≠4:=fun o ho=>by
   obtain ⟨j,hj,ej⟩:=List.getElem_of_mem ho
   rw [← ej,← dD (n:=j) rfl hj]
   exact hno j hj
  have hf':=without hS hf (t:=(t:Int)) ⟨by omega,by omega⟩ hst hin hreg
  suffices a2:Tri (iter (eX h x out) ([],0)) (fun y:Int ⊕ Bool=>y = .inr true) from dG a2 (by rintro y rfl; rfl)
  refine gm (k0:=0) x.Order.length (fun q s=>s=((x.Order.take q).filter (fun y=>decide (y≠(t:Int))),(q:Int))) (Nat.zero_le _) rfl ?_;rintro q s hq rfl;have a3:w64 ((q:Int) + 1)=((q + 1:Nat):Int):=bW (by omega);have hfl:((x.Order.take q).filter (fun y=>decide (y≠(t:Int)))).length≤q:=Nat.le_trans (List.length_filter_le _ _) (by rw [List.length_take]; omega);unfold eX eU
  dsimp only
  rw [e,a3]
  refine ay (fun h5 => ?_) (fun h5 => ?_)
  ·have a0:q < x.Order.length:=by omega
   refine au (by omega) ?_;refine ay (fun h6 => ?_) (fun h6 => ?_)
   ·refine au (by omega) (ai ⟨a0,?_⟩)
    dsimp only
    rw [jw a0,List.filter_append]
    simp [h6]
   ·refine ai ⟨a0,?_⟩;have h6:idx x.Order (q:Int)=(t:Int):=Classical.byContradiction h6
    dsimp only
    rw [jw a0,List.filter_append]
    simp [h6]
  ·have:q=x.Order.length:=by omega
   subst this
   rw [List.take_length] at hfl ⊢
   refine eP (DC hs (x:=⟨x.Order.filter (fun y=>decide (y≠(t:Int))),x.Picks⟩) (by dsimp only; omega) (by dsimp only; omega)) (fun r' hr' => ?_);rcases hr' with ⟨_,hc'⟩ | ⟨e2,_,_,hw'⟩
   ·rw [hc] at hc'; cases hc'
   have e1:r'.1=0:=(BP hw').2 hf';refine ay (fun _=>aC (aC (ai ?_))) (fun h6=>absurd e1 h6)
   show Sum.inr (r'.2 == 0)=_
   rw [e2]
   rfl
end
end Go.Proofs.YtnlkggppokcmfaaT
