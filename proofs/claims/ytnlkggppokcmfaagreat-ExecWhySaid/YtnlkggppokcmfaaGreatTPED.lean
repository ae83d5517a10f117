import Derived.Test.YtnlkggppokcmfaaGreatTPXF
namespace Go.Proofs.YtnlkggppokcmfaaGreatT
open Go Go.Proofs Go.Proofs.YtnlkggppokcmfaaGreatE
set_option linter.unusedVariables false
set_option linter.unusedSimpArgs false
theorem yP {l:List Int}:∀ {m:List Int},l.Nodup→(∀ x ∈ l,x ∈ m)→l.length≤m.length:=by
 induction l with
 | nil=>intro m _ _; simp
 | cons x l ih =>
  intro m hn hs;obtain ⟨h1,h2⟩:=List.nodup_cons.1 hn;have hx:=hs x (by simp);have:=ih (m:=m.erase x) h2 (fun y hy=>(List.mem_erase_of_ne (fun (e:y=x)=>h1 (e ▸ hy))).2 (hs y (by simp [hy])))
  rw [List.length_erase_of_mem hx] at this
  have:0 < m.length:=List.length_pos_of_mem hx
  simp
  omega
def cnt (base w:List Int):Nat:=(w.filter (fun v=>decide (v ∈ base))).length
def Whole (O:List Int) (W:Int→List Int) (base:List Int):Prop:=(∀ t ∈ O,cnt base (W t)=0∨cnt base (W t)=(W t).length)∧∀ v ∈ base,∃ t ∈ O,v ∈ W t
def Jh (O:List Int) (W:Int→List Int) (base:List Int):List Int:=O.filter (fun t=>decide (0 < cnt base (W t)))
def AX (O:List Int) (W:Int→List Int) (base:List Int) (r:List Int×Bool):Prop:=(r=(Jh O W base,true)∧Whole O W base)∨(r=([],false) ∧ ¬ Whole O W base)
theorem AX.det {O:List Int} {W:Int→List Int} {base:List Int} {r s:List Int×Bool} (h1:AX O W base r) (h2:AX O W base s):r=s:=by
 rcases h1 with ⟨rfl,h1⟩ | ⟨rfl,h1⟩ <;> rcases h2 with ⟨rfl,h2⟩ | ⟨rfl,h2⟩
 ·rfl
 ·exact absurd h1 h2
 ·exact absurd h2 h1
 ·rfl
section
variable {O:List Int} {W:Int→List Int} {base:List Int}
end
end Go.Proofs.YtnlkggppokcmfaaGreatT
namespace Go.Proofs.YtnlkggppokcmfaaGreatT
open Go Go.Proofs Go.Proofs.YtnlkggppokcmfaaGreatE
set_option linter.unusedVariables false
set_option linter.unusedSimpArgs false
section
variable {O:List Int} {W:Int→List Int} {base:List Int}
end
end Go.Proofs.YtnlkggppokcmfaaGreatT
namespace Go.Proofs.YtnlkggppokcmfaaGreatT
open Go Go.Proofs Go.Proofs.YtnlkggppokcmfaaGreatE
set_option linter.unusedVariables false
set_option linter.unusedSimpArgs false
def AY (s:Int) (w:List Int):Int:=w.foldl (fun x v=>w64 (x + v)) s
theorem Ak {s:Int} {w:List Int} {k:Nat} (hk:k < w.length):AY s (w.take (k + 1))=w64 (AY s (w.take k) + idx w (k:Int)):=by
 unfold AY
 rw [List.take_succ_eq_append_getElem hk,List.foldl_append,(dH (n:=k) rfl hk:idx w (k:Int)=w[k])]
 rfl
section
variable {O:List Int} {W:Int→List Int} {want:Int}
def picks (O:List Int) (f:Nat→Prop) [DecidablePred f] (k:Nat):List Int:=((List.range k).filter (fun j=>decide (f j))).map (fun j:Nat=>idx O (j:Int))
end
end Go.Proofs.YtnlkggppokcmfaaGreatT
namespace Go.Proofs.YtnlkggppokcmfaaGreatT
open Go Go.Proofs Go.Proofs.YtnlkggppokcmfaaGreatE
set_option linter.unusedVariables false
set_option linter.unusedSimpArgs false
theorem wbm (x:Int):w64 x=Int.bmod x 18446744073709551616:=by
 unfold w64 IntKind.wrap
 simp only [IntKind.bits,IntKind.signed,Bool.true_and,Int.bmod_def]
 have h1:(2 ^ 64:Int)=18446744073709551616:=by decide
 have h2:=Int.emod_nonneg x (show (18446744073709551616:Int)≠0 by decide);have h3:=Int.emod_lt_of_pos x (show (0:Int) < 18446744073709551616 by decide)
 simp only [h1]
 by_cases h:x % 18446744073709551616 < 9223372036854775808
 ·rw [if_neg (by simp; omega),if_pos (by simp; omega)]
  rfl
 ·rw [if_pos (by simp; omega),if_neg (by simp; omega)]
  rfl
theorem Ju (x y:Int):w64 (w64 x + y)=w64 (x + y):=by rw [wbm,wbm,wbm,Int.bmod_add_bmod]
theorem Al:∀ (w:List Int) (s:Int),AY (w64 s) w=w64 (s + w.sum)
 | [],s=>by simp [AY]
 | v::w,s=>by
  show AY (w64 (w64 s + v)) w=_
  rw [Ju,Al w,List.sum_cons,Int.add_assoc]
theorem Am (w:List Int):AY 0 w=w64 w.sum:=by
 have h:=Al w 0
 rw [Int.zero_add] at h
 exact h
section
variable {O:List Int} {W:Int→List Int} {want:Int}
end
end Go.Proofs.YtnlkggppokcmfaaGreatT
namespace Go.Proofs.YtnlkggppokcmfaaGreatT
open Go Go.Proofs Go.Proofs.YtnlkggppokcmfaaGreatE
set_option linter.unusedVariables false
set_option linter.unusedSimpArgs false
section
variable {O:List Int} {W:Int→List Int}
end
end Go.Proofs.YtnlkggppokcmfaaGreatT
namespace Go.Proofs.YtnlkggppokcmfaaGreatT
open Go Go.Proofs Go.Proofs.YtnlkggppokcmfaaGreatE
set_option linter.unusedVariables false
set_option linter.unusedSimpArgs false
section
variable {O:List Int} {W:Int→List Int}
end
end Go.Proofs.YtnlkggppokcmfaaGreatT
namespace Go.Proofs.YtnlkggppokcmfaaGreatT
open Go Go.Proofs Go.Proofs.YtnlkggppokcmfaaGreatE
set_option linter.unusedVariables false
set_option linter.unusedSimpArgs false
theorem BH {l:List Ask} {j:Nat} (hj:j < l.length):idx l (j:Int) ∈ l:=by rw [dH (n:=j) rfl hj]; exact List.getElem_mem _
section
variable {h:History}
end
end Go.Proofs.YtnlkggppokcmfaaGreatT
namespace Go.Proofs.YtnlkggppokcmfaaGreatT
open Go Go.Proofs Go.Proofs.YtnlkggppokcmfaaGreatE
set_option linter.unusedVariables false
set_option linter.unusedSimpArgs false
end Go.Proofs.YtnlkggppokcmfaaGreatT
namespace Go.Proofs.YtnlkggppokcmfaaGreatT
open Go Go.Proofs Go.Proofs.YtnlkggppokcmfaaGreatE
set_option linter.unusedVariables false
set_option linter.unusedSimpArgs false
theorem Ao {l:List Int} (hl:l.length < 2 ^ 60):bR l l=some true:=by
 refine fD.1 ?_;unfold bR;refine ay (fun h=>absurd rfl h) (fun _ => ?_);refine dI (k0:=0) l.length (fun k s=>s=(k:Int)) (Nat.zero_le _) rfl ?_;rintro k s hk rfl;have hw:w64 ((k:Int) + 1)=((k + 1:Nat):Int):=bn (by omega);unfold jT
 dsimp only
 rw [hw]
 refine ay (fun h1 => ?_) (fun h1 => ?_)
 ·have a0:k < l.length:=by omega
  refine aj (by omega) (aj (by omega) ?_);refine ay (fun h2=>absurd rfl h2) (fun _ => ?_);exact ah ⟨a0,rfl⟩
 ·exact aF (ah rfl)
end Go.Proofs.YtnlkggppokcmfaaGreatT
namespace Go.Proofs.YtnlkggppokcmfaaGreatT
open Go Go.Proofs Go.Proofs.YtnlkggppokcmfaaGreatE
set_option linter.unusedVariables false
set_option linter.unusedSimpArgs false
section
variable {h:History}
end
end Go.Proofs.YtnlkggppokcmfaaGreatT
namespace Go.Proofs.YtnlkggppokcmfaaGreatT
open Go Go.Proofs Go.Proofs.YtnlkggppokcmfaaGreatE
set_option linter.unusedVariables false
set_option linter.unusedSimpArgs false
def pos (l:List Int) (t:Int):Nat:=l.findIdx (fun x=>decide (x=t))
theorem yl {l:List Int} {t:Int}:pos l t < l.length↔t ∈ l:=by
 unfold pos
 rw [List.findIdx_lt_length]
 constructor
 ·rintro ⟨x,hx,h⟩;have:x=t:=by simpa using h
  exact this ▸ hx
 ·intro h;exact ⟨t,h,by simp⟩
theorem qX {l:List Int} {t:Int} (h:t ∈ l):idx l (pos l t:Int)=t:=by
 have hl:=yl.2 h
 rw [dH (n:=pos l t) rfl hl]
 have:=List.findIdx_getElem (xs:=l) (p:=fun x=>decide (x=t)) (w:=hl);exact of_decide_eq_true this
theorem zo {l:List Int} {i j:Nat} (hn:l.Nodup) (hi:i < l.length) (hj:j < l.length) (e:idx l (i:Int)=idx l (j:Int)):i=j:=by
 rw [dH (n:=i) rfl hi,dH (n:=j) rfl hj] at e
 have hp:=List.pairwise_iff_getElem.1 hn;rcases Nat.lt_trichotomy i j with h | h | h
 ·exact absurd e (hp i j hi hj h)
 ·exact h
 ·exact absurd e.symm (hp j i hj hi h)
theorem IG {l:List Int} (hn:l.Nodup) {j:Nat} (hj:j < l.length):pos l (idx l (j:Int))=j:=by
 have hm:idx l (j:Int) ∈ l:=qW hj;exact zo hn (yl.2 hm) hj (qX hm)
theorem II {l:List Int} (hn:l.Nodup) {t:Int} {j:Nat} (hj:j < l.length) (e:idx l (j:Int)=t):pos l t=j:=by rw [← e]; exact IG hn hj
theorem zq {l:List Int} {k:Nat} {t:Int}:t ∈ l.take k↔∃ j:Nat,j < k∧j < l.length∧idx l (j:Int)=t:=by
 constructor
 ·intro h;obtain ⟨j,hj,e⟩:=List.getElem_of_mem h
  rw [List.length_take] at hj
  refine ⟨j,by omega,by omega,?_⟩
  rw [dH (n:=j) rfl (by omega),← e,List.getElem_take]
 ·rintro ⟨j,h1,h2,e⟩
  rw [dH (n:=j) rfl h2] at e
  rw [← e]
  exact List.mem_iff_getElem.2 ⟨j,by rw [List.length_take]; omega,by rw [List.getElem_take]⟩
structure jY (h:History) (l:List Int):Prop where
 nd:l.Nodup
 rg:∀ t ∈ l,0≤t∧t < (h.Txns.length:Int)∧(idx h.Txns t).Status≠2
 dn:∀ t:Nat,t < h.Txns.length→(idx h.Txns (t:Int)).Status=1→(t:Int) ∈ l
theorem CU {l:List Int} {k:Nat} (hk:k < l.length) (h:(l.take k).Nodup):(l.take (k + 1)).Nodup↔idx l (k:Int) ∉ l.take k:=by
 rw [iO hk,List.nodup_append]
 simp [h]
 constructor
 ·intro h1 h2; exact h1 _ h2 rfl
 ·intro h1 x hx e; subst e; exact h1 hx
theorem jY.len {h:History} {l:List Int} (ho:jY h l):l.length≤h.Txns.length:=by
 have h1:∀ x ∈ l,x ∈ (List.range h.Txns.length).map (fun j:Nat=>(j:Int)):=fun x hx=>by
  have:=ho.rg x hx;exact List.mem_map.2 ⟨x.toNat,List.mem_range.2 (by omega),by omega⟩
 have:=yP ho.nd h1
 simpa using this
section
variable {h:History} {l:List Int}
abbrev uf (m:List (Int×Int)):List Int:=m.map (·.1)
theorem wH {x v:Int}:∀ {m:List (Int×Int)},uf (gP m x v)=if x ∈ uf m then uf m else uf m++[x]
 | []=>by simp [gP]
 | p::m=>by
  unfold gP
  by_cases e:p.1=x
  ·simp [e]
  ·rw [if_neg e]
   show p.1::uf (gP m x v)=_
   rw [wH]
   have e':¬ x=p.1:=fun h=>e h.symm
   by_cases hx:x ∈ uf m
   ·simp [hx]
   ·simp [hx,e']
theorem DF {x:Int} {m:List (Int×Int)}:kF m x=true↔x ∈ uf m:=by
 unfold kF
 simp [List.any_eq_true]
structure uP (l:List Int) (k:Nat) (m:List (Int×Int)):Prop where
 nd:(uf m).Nodup
 mem:∀ x,x ∈ uf m↔x ∈ l.take k
 at_:∀ j:Nat,j < k→(∀ i:Nat,j < i→i < k→idx l (i:Int)≠idx l (j:Int))→mat m (idx l (j:Int))=(j:Int)
theorem uP.zero:uP l 0 []:=⟨List.nodup_nil,fun x=>by simp,fun j hj=>absurd hj (Nat.not_lt_zero _)⟩
theorem uP.put {k:Nat} {m:List (Int×Int)} (hm:uP l k m) (hk:k < l.length):uP l (k + 1) (gP m (idx l (k:Int)) (k:Int)):=by
 refine ⟨?_,fun x => ?_,fun j hj hno => ?_⟩
 ·rw [wH]
  split
  ·exact hm.nd
  ·rename_i hx
   rw [List.nodup_append]
   exact ⟨hm.nd,by simp,by intro a ha b hb; rw [List.mem_singleton.1 hb]; intro e; exact hx (e ▸ ha)⟩
 ·rw [wH,iO hk,List.mem_append,List.mem_singleton]
  split
  ·rename_i hx
   rw [hm.mem]
   constructor
   ·exact .inl
   ·rintro (h | rfl)
    ·exact h
    ·exact (hm.mem _).1 hx
  ·rw [List.mem_append,List.mem_singleton,hm.mem]
 ·rw [oV]
  split
  ·rename_i e
   rcases Nat.lt_or_ge j k with h1 | h1
   ·exact absurd e.symm (hno k h1 (by omega))
   ·have:j=k:=by omega
    rw [this]
  ·rename_i e
   rcases Nat.lt_or_ge j k with h1 | h1
   ·exact hm.at_ j h1 (fun i h2 h3=>hno i h2 (by omega))
   ·have:j=k:=by omega
    subst this;exact absurd rfl e
theorem uP.len {m:List (Int×Int)} (hm:uP l l.length m):m.length=l.length↔l.Nodup:=by
 have hmem:∀ x,x ∈ uf m↔x ∈ l:=fun x=>by rw [hm.mem,List.take_length]
 have hl:(uf m).length=m.length:=List.length_map _
 constructor
 ·intro he
  apply Classical.byContradiction
  intro hn;have:∃ i j:Nat,i < j∧j < l.length∧idx l (i:Int)=idx l (j:Int):=by
   apply Classical.byContradiction
   intro hno;refine hn (List.pairwise_iff_getElem.2 fun i j hi hj hij e=>hno ⟨i,j,hij,hj,?_⟩)
   rw [dH (n:=i) rfl hi,dH (n:=j) rfl hj,e]
  obtain ⟨i,j,hij,hj,e⟩:=this;have hsub:∀ x ∈ uf m,x ∈ l.eraseIdx j:=fun x hx=>by
   have hx:=(hmem x).1 hx;obtain ⟨q,hq,rfl⟩:=GZ hx
   rw [List.mem_eraseIdx_iff_getElem]
   by_cases hqj:q=j
   ·subst hqj;exact ⟨i,by omega,by omega,by rw [← dH (n:=i) rfl (by omega:i < l.length)]; exact e⟩
   ·exact ⟨q,by omega,by omega,(dH (n:=q) rfl hq).symm⟩
  have:=yP hm.nd hsub
  rw [List.length_eraseIdx,if_pos hj] at this
  omega
 ·intro hn;have h1:=yP hm.nd (fun x hx=>(hmem x).1 hx);have h2:=yP hn (fun x hx=>(hmem x).2 hx)
  omega
structure uQ (l:List Int) (m:List (Int×Int)):Prop where
 has:∀ x,kF m x=true↔x ∈ l
 at_:∀ x ∈ l,mat m x=(pos l x:Int)
theorem uP.ord {m:List (Int×Int)} (hm:uP l l.length m) (hn:l.Nodup):uQ l m:=by
 refine ⟨fun x=>by rw [DF,hm.mem,List.take_length],fun x hx => ?_⟩
 have hl:=yl.2 hx;have:=hm.at_ (pos l x) hl (fun i h1 h2 e=>by have:=zo hn h2 hl e; omega)
 rwa [qX hx] at this
theorem uQ.hasB {m:List (Int×Int)} (hm:uQ l m) (x:Int):kF m x=decide (x ∈ l):=by
 by_cases hx:x ∈ l
 ·rw [(hm.has x).2 hx,decide_eq_true hx]
 ·rw [decide_eq_false hx]
  cases e:kF m x with
  | false=>rfl
  | true=>exact absurd ((hm.has x).1 e) hx
theorem Er (a2:h.Txns.length≤32) (hl:l.length < 2 ^ 60):Tri (dP h l) (fun r=>r.1.h=h∧r.1.order=l∧(r.2=true↔jY h l)∧(r.2=true→uQ l r.1.at_)):=by
 unfold dP;refine dI (k0:=0) l.length (fun k s=>s.2=(k:Int)∧uP l k s.1∧∀ t ∈ l.take k,0≤t∧t < (h.Txns.length:Int)∧(idx h.Txns t).Status≠2) (Nat.zero_le _) ⟨rfl,uP.zero,fun t ht=>by simp at ht⟩ ?_
 rintro k ⟨m,x⟩ hk ⟨rfl,hm,hrg⟩;have hw:w64 ((k:Int) + 1)=((k + 1:Nat):Int):=bn (by omega);unfold uB oZ
 dsimp only at hm ⊢
 rw [hw]
 have bad:∀ t ∈ l,¬ (0≤t∧t < (h.Txns.length:Int)∧(idx h.Txns t).Status≠2) → ¬ jY h l:=fun t ht hn ho=>hn (ho.rg t ht);have no:∀ {m:List (Int×Int)},¬ jY h l→(⟨h,l,m⟩:bO).h=h∧(⟨h,l,m⟩:bO).order=l∧((false:Bool)=true↔jY h l)∧((false:Bool)=true→uQ l (⟨h,l,m⟩:bO).at_):=fun hn=>⟨rfl,rfl,⟨fun h=>(nomatch h),fun h=>absurd h hn⟩,fun h=>(nomatch h)⟩;refine ay (fun h1 => ?_) (fun h1 => ?_)
 ·have a0:k < l.length:=by omega
  have hmem:idx l (k:Int) ∈ l:=qW a0;refine aj (by omega) ?_;refine ay (fun h2 => ?_) (fun h2 => ?_)
  ·exact ay (fun _=>aF (ah (no (bad _ hmem (fun h3=>by omega))))) (fun h3=>absurd trivial h3)
  ·refine ay (fun h3 => ?_) (fun h3 => ?_)
   ·exact ay (fun _=>aF (ah (no (bad _ hmem (fun h3=>by omega))))) (fun h3=>absurd trivial h3)
   ·refine aj (by omega) ?_;refine ay (fun h4=>aF (ah (no (bad _ hmem (fun h5=>h5.2.2 h4))))) (fun h4 => ?_);refine ah ⟨a0,rfl,hm.put a0,fun t ht => ?_⟩
    rw [iO a0,List.mem_append,List.mem_singleton] at ht
    rcases ht with ht | rfl
    ·exact hrg t ht
    ·exact ⟨by omega,by omega,h4⟩
 ·have:k=l.length:=by omega
  subst this
  rw [List.take_length] at hrg
  refine ay (fun h2 => ?_) (fun h2 => ?_)
  ·exact aF (ah (no (fun ho=>h2 (by have:=hm.len.2 ho.nd; omega))))
  ·have hnd:l.Nodup:=hm.len.1 (by omega);have hom:=hm.ord hnd;have hb:=hom.hasB
   suffices hs:Tri (iter (qL h l m) 0) (fun y:(List (Int×Int)×Int) ⊕ (bO×Bool)=>∃ b,y = .inr (⟨h,l,m⟩,b)∧(b=true↔jY h l)) from
    dQ hs (by rintro y ⟨b,rfl,hb⟩; exact ⟨rfl,rfl,hb,fun _=>hom⟩)
   refine dI (k0:=0) h.Txns.length (fun j s=>s=(j:Int)∧∀ t:Nat,t < j→(idx h.Txns (t:Int)).Status=1→(t:Int) ∈ l) (Nat.zero_le _) ⟨rfl,fun t ht=>absurd ht (Nat.not_lt_zero _)⟩ ?_;rintro j s hj ⟨rfl,hdn⟩;have hw:w64 ((j:Int) + 1)=((j + 1:Nat):Int):=bn (by omega);unfold qL qK
   dsimp only
   rw [hw,hb]
   refine ay (fun h3 => ?_) (fun h3 => ?_)
   ·have a1:j < h.Txns.length:=by omega
    have next:((idx h.Txns (j:Int)).Status=1→(j:Int) ∈ l)→Upm h.Txns.length j (fun j s=>s=(j:Int)∧∀ t:Nat,t < j→(idx h.Txns (t:Int)).Status=1→(t:Int) ∈ l) (fun y:(List (Int×Int)×Int) ⊕ (bO×Bool)=>∃ b,y = .inr (⟨h,l,m⟩,b)∧(b=true↔jY h l)) (.inl ((j + 1:Nat):Int)):=fun h4=>⟨a1,rfl,fun t ht hst=>by
     rcases Nat.lt_or_ge t j with h5 | h5
     ·exact hdn t h5 hst
     ·have:t=j:=by omega
      subst this;exact h4 hst⟩
    refine aj (by omega) ?_;refine ay (fun h4 => ?_) (fun h4 => ?_)
    ·refine ay (fun h5 => ?_) (fun h5=>ah (next (fun h6=>absurd h6 h5)));refine aF (aF (ah ⟨false,rfl,fun h=>(nomatch h),fun ho=>absurd (ho.dn j a1 h5) h4⟩))
    ·refine ay (fun h5=>absurd h5 (by simp)) (fun h5=>ah (next (fun _=>Classical.byContradiction h4)))
   ·have:j=h.Txns.length:=by omega
    subst this;exact aF (aF (ah ⟨true,rfl,fun _=>⟨hnd,hrg,hdn⟩,fun _=>rfl⟩))
structure AZ (h:History) (l:List Int) (at_:List Int):Prop where
 len:at_.length=h.Txns.length
 at_:∀ t:Nat,t < h.Txns.length→idx at_ (t:Int)=if (t:Int) ∈ l then (pos l (t:Int):Int) + 1 else 0
theorem BI (a3:h.Txns.length≤32) (hl:l.length < 2 ^ 60):Tri (aQ h l) (fun r=>(r.2=true↔jY h l)∧(r.2=true→AZ h l r.1)∧(r.2=false→r.1=[])):=by
 unfold aQ;refine aj (by omega) ?_;refine dI (k0:=0) l.length (fun k s=>s.2=(k:Int)∧s.1.length=h.Txns.length∧(l.take k).Nodup∧(∀ t ∈ l.take k,0≤t∧t < (h.Txns.length:Int)∧(idx h.Txns t).Status≠2) ∧
  ∀ t:Nat,t < h.Txns.length→(∀ j:Nat,j < k→idx l (j:Int)=(t:Int)→idx s.1 (t:Int)=(j:Int) + 1)∧((t:Int) ∉ l.take k→idx s.1 (t:Int)=0)) (Nat.zero_le _)
  ⟨rfl,by simp,by simp,fun t ht=>by simp at ht,fun t ht=>⟨fun j hj=>absurd hj (Nat.not_lt_zero _),fun _=>by rw [dH (n:=t) rfl (by simpa using ht)]; simp⟩⟩ ?_
 rintro k ⟨a,x⟩ hk ⟨rfl,hal,hnd,hrg,hat⟩;have hw:w64 ((k:Int) + 1)=((k + 1:Nat):Int):=bn (by omega);unfold kT fu
 dsimp only at hal hat ⊢
 rw [hw]
 have no:¬ jY h l→((([]:List Int),false).2=true↔jY h l)∧((([]:List Int),false).2=true→AZ h l (([]:List Int),false).1)∧((([]:List Int),false).2=false→(([]:List Int),false).1=[]):=fun hn=>⟨⟨fun h=>(nomatch h),fun h=>absurd h hn⟩,fun h=>(nomatch h),fun _=>rfl⟩;refine ay (fun h1 => ?_) (fun h1 => ?_)
 ·have a0:k < l.length:=by omega
  have hmem:idx l (k:Int) ∈ l:=qW a0;refine aj (by omega) ?_;refine ay (fun h2=>ay (fun _=>aF (ah (no (fun ho=>by have:=ho.rg _ hmem; omega)))) (fun h3=>absurd trivial h3)) (fun h2 => ?_);refine ay (fun h3=>ay (fun _=>aF (ah (no (fun ho=>by have:=ho.rg _ hmem; omega)))) (fun h3=>absurd trivial h3)) (fun h3 => ?_);obtain ⟨t,ht⟩:∃ t:Nat,idx l (k:Int)=(t:Int):=⟨(idx l (k:Int)).toNat,by omega⟩
  rw [ht] at h2 h3 hmem ⊢
  have htl:t < h.Txns.length:=by omega
  obtain ⟨q1,q2⟩:=hat t htl;refine aj (by omega) ?_;refine ay (fun h4=>ay (fun _=>aF (ah (no (fun ho => ?_)))) (fun h3=>absurd trivial h3)) (fun h4 => ?_)
  ·
   have hin:(t:Int) ∈ l.take k:=Classical.byContradiction fun h5=>h4 (q2 h5);obtain ⟨j,a2,a1,e⟩:=zq.1 hin;have:=zo ho.nd a1 a0 (e.trans ht.symm)
   omega
  ·have hni:(t:Int) ∉ l.take k:=fun h5=>by
    obtain ⟨j,a2,a1,e⟩:=zq.1 h5;have h6:=q1 j a2 e;exact h4 (by omega)
   refine aj (by omega) ?_;refine ay (fun h5=>aF (ah (no (fun ho=>(ho.rg _ hmem).2.2 h5)))) (fun h5 => ?_);refine aj (by omega) (ah ⟨a0,rfl,by rw [List.length_set]; exact hal,(CU a0 hnd).2 (by rw [ht]; exact hni),fun u hu => ?_,fun u hu => ?_⟩)
   ·rw [iO a0,List.mem_append,List.mem_singleton,ht] at hu
    rcases hu with hu | rfl
    ·exact hrg u hu
    ·exact ⟨by omega,by omega,h5⟩
   ·dsimp only
    rw [Int.toNat_natCast,mU (by omega)]
    obtain ⟨p1,p2⟩:=hat u hu;refine ⟨fun j hj e => ?_,fun hn => ?_⟩
    ·by_cases hut:u=t
     ·subst hut
      rw [if_pos rfl]
      rcases Nat.lt_or_ge j k with h6 | h6
      ·exact absurd (zq.2 ⟨j,h6,by omega,e⟩) hni
      ·have:j=k:=by omega
       subst this
       omega
     ·rw [if_neg hut]
      rcases Nat.lt_or_ge j k with h6 | h6
      ·exact p1 j h6 e
      ·have:j=k:=by omega
       subst this
       rw [ht] at e
       omega
    ·rw [iO a0,List.mem_append,List.mem_singleton,ht] at hn
     have hut:¬ u=t:=fun e=>hn (.inr (by rw [e]))
     rw [if_neg hut]
     exact p2 (fun h6=>hn (.inl h6))
 ·have:k=l.length:=by omega
  subst this
  rw [List.take_length] at hnd hrg
  have hP:AZ h l a:=by
   refine ⟨hal,fun t ht => ?_⟩;obtain ⟨q1,q2⟩:=hat t ht
   rw [List.take_length] at q2
   split
   ·rename_i hin
    exact q1 _ (yl.2 hin) (qX hin)
   ·rename_i hin
    exact q2 hin
  suffices hs:Tri (iter (jd h a) 0) (fun y:(List Int×Int) ⊕ (List Int×Bool)=>(y = .inr (a,true)∧jY h l)∨(y = .inr ([],false) ∧ ¬ jY h l)) from
   dQ hs (by
    rintro y (⟨rfl,ho⟩ | ⟨rfl,ho⟩)
    ·exact ⟨⟨fun _=>ho,fun _=>rfl⟩,fun _=>hP,fun h=>(nomatch h)⟩
    ·exact no ho)
  refine dI (k0:=0) h.Txns.length (fun j s=>s=(j:Int)∧∀ t:Nat,t < j→(idx h.Txns (t:Int)).Status=1→(t:Int) ∈ l) (Nat.zero_le _) ⟨rfl,fun t ht=>absurd ht (Nat.not_lt_zero _)⟩ ?_;rintro j s hj ⟨rfl,hdn⟩;have hw:w64 ((j:Int) + 1)=((j + 1:Nat):Int):=bn (by omega);unfold jd jc
  dsimp only
  rw [hw]
  refine ay (fun h3 => ?_) (fun h3 => ?_)
  ·have a1:j < h.Txns.length:=by omega
   have hpj:=hP.at_ j a1;have next:((idx h.Txns (j:Int)).Status=1→(j:Int) ∈ l)→Upm h.Txns.length j (fun j s=>s=(j:Int)∧∀ t:Nat,t < j→(idx h.Txns (t:Int)).Status=1→(t:Int) ∈ l) (fun y:(List Int×Int) ⊕ (List Int×Bool)=>(y = .inr (a,true)∧jY h l)∨(y = .inr ([],false) ∧ ¬ jY h l)) (.inl ((j + 1:Nat):Int)):=fun h4=>⟨a1,rfl,fun t ht hst=>by
    rcases Nat.lt_or_ge t j with h5 | h5
    ·exact hdn t h5 hst
    ·have:t=j:=by omega
     subst this;exact h4 hst⟩
   refine aj (by omega) ?_;refine ay (fun h4 => ?_) (fun h4 => ?_)
   ·refine aj (by omega) ?_;refine ay (fun h5 => ?_) (fun h5=>ah (next (fun _ => ?_)))
    ·refine aF (aF (ah (.inr ⟨rfl,fun ho => ?_⟩)))
     rw [if_pos (ho.dn j a1 h4)] at hpj
     omega
    ·apply Classical.byContradiction
     intro h6
     rw [if_neg h6] at hpj
     exact h5 hpj
   ·exact ay (fun h5=>absurd h5 (by simp)) (fun h5=>ah (next (fun h6=>absurd h6 h4)))
  ·have:j=h.Txns.length:=by omega
   subst this;exact aF (aF (ah (.inl ⟨rfl,hnd,hrg,hdn⟩)))
end
end Go.Proofs.YtnlkggppokcmfaaGreatT
namespace Go.Proofs.YtnlkggppokcmfaaGreatT
open Go Go.Proofs Go.Proofs.YtnlkggppokcmfaaGreatE
set_option linter.unusedVariables false
set_option linter.unusedSimpArgs false
abbrev srt (l:List Int):List Int:=l.mergeSort fun x y=>decide (x≤y)
theorem CV (l:List Int):(srt l).Pairwise (· ≤ ·) :=
 (List.pairwise_mergeSort (le:=fun x y:Int=>decide (x≤y)) (fun a b c h1 h2=>by simp at *; omega) (fun a b=>by simp; omega) l).imp (fun h=>by simpa using h)
theorem Fh {s l:List Int} (hp:s.Perm l) (hs:s.Pairwise (· ≤ ·)):s=srt l :=
 List.Perm.eq_of_pairwise (le:=(· ≤ ·)) (fun a b _ _ h1 h2=>Int.le_antisymm h1 h2) hs (CV l) (hp.trans (List.mergeSort_perm l _).symm)
def But (s:List Int) (k:Nat):Prop:=(∀ i j:Nat,i < j→j < s.length→i≠k→j≠k→idx s (i:Int)≤idx s (j:Int))∧∀ j:Nat,k < j→j < s.length→idx s (k:Int)≤idx s (j:Int)
theorem Fj {s:List Int}:s.Pairwise (· ≤ ·)↔∀ i j:Nat,i < j→j < s.length→idx s (i:Int)≤idx s (j:Int):=by
 rw [List.pairwise_iff_getElem]
 constructor
 ·intro h i j hij hj
  rw [dH (n:=i) rfl (by omega),dH (n:=j) rfl hj]
  exact h i j (by omega) hj hij
 ·intro h i j hi hj hij;have:=h i j hij hj
  rwa [dH (n:=i) rfl (by omega),dH (n:=j) rfl hj] at this
theorem But.done {s:List Int} {k:Nat} (hb:But s k) (h:k=0∨idx s ((k - 1:Nat):Int)≤idx s (k:Int)):s.Pairwise (· ≤ ·):=by
 rw [Fj]
 intro i j hij hj
 by_cases hi:i=k
 ·subst hi; exact hb.2 j hij hj
 ·by_cases hjk:j=k
  ·subst hjk;rcases h with h | h
   ·omega
   ·by_cases a0:i=j - 1
    ·subst a0; exact h
    ·exact Int.le_trans (hb.1 i (j - 1) (by omega) (by omega) hi (by omega)) h
  ·exact hb.1 i j hij hj hi hjk
theorem But.swap {s:List Int} {k:Nat} (hb:But s k) (hk:0 < k) (hl:k < s.length) (h:idx s (k:Int) < idx s ((k - 1:Nat):Int)):But ((s.set k (idx s ((k - 1:Nat):Int))).set (k - 1) (idx s (k:Int))) (k - 1):=by
 have at_:∀ q:Nat,idx ((s.set k (idx s ((k - 1:Nat):Int))).set (k - 1) (idx s (k:Int))) (q:Int)=if q=k - 1 then idx s (k:Int) else if q=k then idx s ((k - 1:Nat):Int) else idx s (q:Int):=fun q=>by
  rw [mU (by rw [List.length_set]; omega),mU hl]
 constructor
 ·intro i j hij hj hi a0
  simp only [List.length_set] at hj
  rw [at_,at_,if_neg hi,if_neg a0]
  by_cases hik:i=k
  ·rw [if_pos hik,if_neg (by omega)]
   exact hb.1 (k - 1) j (by omega) hj (by omega) (by omega)
  ·rw [if_neg hik]
   by_cases hjk:j=k
   ·rw [if_pos hjk]
    exact hb.1 i (k - 1) (by omega) (by omega) hik (by omega)
   ·rw [if_neg hjk]
    exact hb.1 i j hij hj hik hjk
 ·intro j a1 hj
  simp only [List.length_set] at hj
  rw [at_,at_,if_pos rfl,if_neg (by omega)]
  by_cases hjk:j=k
  ·rw [if_pos hjk]; omega
  ·rw [if_neg hjk]; exact hb.2 j (by omega) hj
theorem BJ {l:List Int} (hl:l.length < 2 ^ 40):aV l=some (srt l):=by
 refine fD.1 ?_;unfold aV;refine dI (k0:=0) l.length (fun k s=>s.2=(k:Int)∧s.1.Perm (l.take k)∧s.1.Pairwise (· ≤ ·)) (Nat.zero_le _) ⟨rfl,by simp,List.Pairwise.nil⟩ ?_
 rintro k ⟨s,x⟩ hk ⟨rfl,hp,hs⟩;have hw:w64 ((k:Int) + 1)=((k + 1:Nat):Int):=bn (by omega)
 dsimp only at hp hs
 have hsl:s.length=k:=by have:=hp.length_eq; rw [List.length_take] at this; omega
 unfold kW
 dsimp only
 refine ay (fun h1 => ?_) (fun h1 => ?_)
 ·have a0:k < l.length:=by omega
  refine aj (by omega) (aj (by omega) ?_);have e1:w64 (((s++[idx l (k:Int)]).length:Int) - 1)=(k:Int):=by
   rw [List.length_append,List.length_singleton,hsl,oK (by omega) (by omega)]; omega
  rw [e1]
  have a1:But (s++[idx l (k:Int)]) k:=by
   refine ⟨fun i j hij hj hi hjk => ?_,fun j a3 hj => ?_⟩
   ·rw [List.length_append,List.length_singleton] at hj
    rw [iL (by omega),iL (by omega)]
    exact Fj.1 hs i j hij (by omega)
   ·rw [List.length_append,List.length_singleton] at hj
    omega
  refine dI (k0:=0) k (fun q t=>∃ p:Nat,p + q=k∧t.2=(p:Int)∧t.1.Perm (l.take (k + 1))∧But t.1 p) (Nat.zero_le _) ⟨k,rfl,rfl,by rw [iO a0]; exact hp.append_right _,a1⟩ ?_
  rintro q ⟨t,y⟩ hq ⟨p,hpq,rfl,htp,hbt⟩
  dsimp only at htp hbt
  have htl:t.length=k + 1:=by have:=htp.length_eq; rw [List.length_take] at this; omega
  unfold kV je kU
  dsimp only
  have stop:(p=0∨idx t ((p - 1:Nat):Int)≤idx t (p:Int))→Upm l.length k (fun k s=>s.2=(k:Int)∧s.1.Perm (l.take k)∧s.1.Pairwise (· ≤ ·)) (fun r=>r=srt l) (.inl (t,w64 ((k:Int) + 1))):=fun h2=>⟨a0,hw,htp,hbt.done h2⟩;refine ay (fun h2 => ?_) (fun h2 => ?_)
  ·have a2:0 < p:=by omega
   have e2:w64 ((p:Int) - 1)=((p - 1:Nat):Int):=by rw [oK (by omega) (by omega)]; omega
   rw [e2]
   refine aj (by omega) (aj (by omega) ?_);refine ay (fun h3 => ?_) (fun h3 => ?_)
   ·refine aj (by omega) (aj (by omega) (ah ⟨by omega,p - 1,by omega,rfl,?_,?_⟩))
    ·dsimp only
     rw [Int.toNat_natCast,Int.toNat_natCast,dH (n:=p - 1) rfl (by omega),dH (n:=p) rfl (by omega)]
     exact (List.set_set_perm (by omega) (by omega)).trans htp
    ·dsimp only
     rw [Int.toNat_natCast,Int.toNat_natCast]
     exact hbt.swap a2 (by omega) h3
   ·exact aF (ah (stop (.inr (by omega))))
  ·exact ay (fun h=>absurd h (by simp)) (fun _=>aF (ah (stop (.inl (by omega)))))
 ·have:k=l.length:=by omega
  subst this
  rw [List.take_length] at hp
  exact aF (ah (Fh hp hs))
def fin (ty:Int) (w:List Int):List Int:=if ty=1 then w.drop (w.length - 1) else if ty=3 then srt w else if ty=4 then [w64 w.sum] else w
theorem Ha {ty:Int} {w:List Int}:(fin ty w).length≤w.length + 1:=by
 unfold fin
 split
 ·rw [List.length_drop]; omega
 ·split
  ·rw [List.length_mergeSort]; omega
  ·split
   ·simp
   ·omega
theorem BK {α:Type} (l:List α) {n:Nat} (hn:n≤l.length):di l (n:Int) (l.length:Int)=l.drop n:=by
 unfold di
 rw [Int.toNat_natCast,Int.toNat_natCast,List.take_length]
theorem BL {st:bO} {key ty:Int} {w:List Int} (hT:dX st.h key=some ty) (hw:w.length < 2 ^ 40):gG st key w=some (fin ty w):=by
 refine fD.1 ?_;unfold gG;refine dA hT ?_;unfold fin;refine ay (fun h1 => ?_) (fun h1 => ?_)
 ·rw [if_pos h1]
  have e:yL 0 (w64 ((w.length:Int) - 1))=((w.length - 1:Nat):Int):=by
   rw [oK (by omega) (by omega)]
   unfold yL
   split <;> omega
  rw [e]
  refine aj (by omega) (ah ?_);exact BK w (by omega)
 ·rw [if_neg h1]
  refine ay (fun h2 => ?_) (fun h2 => ?_)
  ·rw [if_pos h2]
   unfold nL iU
   rw [jZ _ (by omega)]
   exact bJ (ah rfl)
  ·rw [if_neg h2]
   refine ay (fun h3 => ?_) (fun h3 => ?_)
   ·rw [if_pos h3]
    refine dI (k0:=0) w.length (fun k s=>s.2=(k:Int)∧s.1=AY 0 (w.take k)) (Nat.zero_le _) ⟨rfl,rfl⟩ ?_;rintro k ⟨x,i⟩ hk ⟨rfl,hx⟩
    dsimp only at hx
    have hw:w64 ((k:Int) + 1)=((k + 1:Nat):Int):=bn (by omega);unfold kP
    dsimp only
    rw [hw]
    refine ay (fun h4 => ?_) (fun h4 => ?_)
    ·have a0:k < w.length:=by omega
     exact aj (by omega) (ah ⟨a0,rfl,by dsimp only; rw [Ak a0,hx]⟩)
    ·have:k=w.length:=by omega
     subst this;refine aF (ah ?_)
     rw [hx,List.take_length,Am]
     rfl
   ·rw [if_neg h3]
    exact ah rfl
theorem DI {ty:Int} {w:List Int} (hw:w.length < 2 ^ 40):fw ty w=some (fin ty w):=by
 refine fD.1 ?_;unfold fw dL;unfold fin;refine ay (fun h1 => ?_) (fun h1 => ?_)
 ·rw [if_pos h1]
  refine ay (fun h2 => ?_) (fun h2 => ?_)
  ·have e:w64 ((w.length:Int) - 1)=((w.length - 1:Nat):Int):=by
    rw [oK (by omega) (by omega)]; omega
   rw [e]
   refine aj (by omega) (ah ?_);exact BK w (by omega)
  ·have:w=[]:=List.length_eq_zero_iff.1 (by omega);subst this;exact ah rfl
 ·rw [if_neg h1]
  refine ay (fun h2 => ?_) (fun h2 => ?_)
  ·rw [if_pos h2]
   exact dA (BJ hw) (ah rfl)
  ·rw [if_neg h2]
   refine ay (fun h3 => ?_) (fun h3 => ?_)
   ·rw [if_pos h3]
    refine dI (k0:=0) w.length (fun k s=>s.2=(k:Int)∧s.1=AY 0 (w.take k)) (Nat.zero_le _) ⟨rfl,rfl⟩ ?_;rintro k ⟨x,i⟩ hk ⟨rfl,hx⟩
    dsimp only at hx
    have hw:w64 ((k:Int) + 1)=((k + 1:Nat):Int):=bn (by omega);unfold kX dL
    dsimp only
    rw [hw]
    refine ay (fun h4 => ?_) (fun h4 => ?_)
    ·have a0:k < w.length:=by omega
     exact aj (by omega) (ah ⟨a0,rfl,by dsimp only; rw [Ak a0,hx]⟩)
    ·have:k=w.length:=by omega
     subst this;refine aF (ah ?_)
     rw [hx,List.take_length,Am]
     rfl
   ·rw [if_neg h3]
    exact ah rfl
def wrs (h:History) (l:List Int) (key:Int):List Int:=l.flatMap (fun o=>nX h o key)
def pQ (h:History) (l:List Int) (key t:Int):List Int:=if 0≤t then wrs h (l.take (pos l t + 1)) key else []
section
variable {h:History} {l:List Int}
theorem zt {key:Int} {k:Nat} (hk:k < l.length):wrs h (l.take (k + 1)) key=wrs h (l.take k) key++nX h (idx l (k:Int)) key:=by
 unfold wrs
 rw [iO hk,List.flatMap_append]
 simp
theorem Ir (hS:mf h) {o key:Int} (ho:0≤o∧o < (h.Txns.length:Int)):(nX h o key).length≤16:=by
 obtain ⟨n,rfl⟩:∃ n:Nat,o=(n:Int):=⟨o.toNat,by omega⟩
 exact Nat.le_trans BF (hS.txn n (by omega)).ops.1
theorem vk (hS:mf h) (ho:jY h l) {key:Int}:∀ k,k≤l.length→(wrs h (l.take k) key).length≤16 * k
 | 0,_=>by simp [wrs]
 | k + 1,hk=>by
  have h1:=vk hS ho (key:=key) k (by omega);have h2:=ho.rg _ (qW (show k < l.length by omega));have h3:=Ir hS (key:=key) ⟨h2.1,h2.2.1⟩
  rw [zt (by omega),List.length_append]
  omega
theorem BN (hS:mf h) (ho:jY h l) {key t:Int}:(pQ h l key t).length≤512:=by
 unfold pQ
 split
 ·have h1:=ho.len;have h2:=hS.len;rcases Nat.lt_or_ge (pos l t) l.length with h3 | h3
  ·have:=vk hS ho (key:=key) (pos l t + 1) (by omega)
   omega
  ·have:=vk hS ho (key:=key) l.length (Nat.le_refl _)
   rw [List.take_of_length_le (by omega)]
   rw [List.take_length] at this
   omega
 ·simp
theorem Ba (hS:mf h) (ho:jY h l) {m:List (Int×Int)} (hm:uQ l m) {key ty t:Int} (hT:dX h key=some ty) (ht:t < 0∨t ∈ l) :
  aB ⟨h,l,m⟩ key t=some (fin ty (pQ h l key t)):=by
 have hll:=ho.len;have a3:=hS.len;have ha:=BN hS ho (key:=key) (t:=t);refine fD.1 ?_;unfold aB;refine ay (fun h1 => ?_) (fun h1 => ?_)
 ·have htm:t ∈ l:=by rcases ht with h | h; omega; exact h
  have hp:=yl.2 htm;have e:w64 (mat m t + 1)=((pos l t + 1:Nat):Int):=by rw [hm.at_ t htm]; exact bn (by omega)
  dsimp only
  rw [e]
  refine aj (by omega) ?_;have haa:pQ h l key t=wrs h (l.take (pos l t + 1)) key:=if_pos (by omega)
  rw [haa] at ha ⊢
  refine dI (k0:=0) (pos l t + 1) (fun k s=>s=(wrs h (l.take k) key,(k:Int))) (Nat.zero_le _) rfl ?_;rintro k s hk rfl;have hw:w64 ((k:Int) + 1)=((k + 1:Nat):Int):=bn (by omega);have hkl:=vk hS ho (key:=key) k (by omega);have hsub:di l (0:Int) ((pos l t + 1:Nat):Int)=l.take (pos l t + 1):=oJ (by omega);unfold kR
  dsimp only
  rw [e,hsub,List.length_take,Nat.min_eq_left (by omega)]
  refine ay (fun h2 => ?_) (fun h2 => ?_)
  ·have a1:k < pos l t + 1:=by omega
   rw [qy a1]
   have hr:=ho.rg _ (qW (show k < l.length by omega));refine aj (by omega) (aj ⟨hr.1,hr.2.1⟩ ?_);have a5:(idx h.Txns (idx l (k:Int))).Ops.length≤16:=by
    obtain ⟨n,hn⟩:∃ n:Nat,idx l (k:Int)=(n:Int):=⟨(idx l (k:Int)).toNat,by omega⟩
    rw [hn] at hr ⊢
    exact (hS.txn n (by omega)).ops.1
   refine dI (k0:=0) (idx h.Txns (idx l (k:Int))).Ops.length (fun p s=>s=(wrs h (l.take k) key++pX (idx h.Txns (idx l (k:Int))).Ops key p,(p:Int))) (Nat.zero_le _) (by rw [El,List.append_nil]; rfl) ?_;rintro p s a4 rfl;have a2:w64 ((p:Int) + 1)=((p + 1:Nat):Int):=bn (by omega);have hol:=qp (ops:=(idx h.Txns (idx l (k:Int))).Ops) (key:=key) (p:=p);unfold kQ iW iV
   dsimp only
   rw [e,hsub,qy a1,a2]
   refine ay (fun h3 => ?_) (fun h3 => ?_)
   ·have a0:p < (idx h.Txns (idx l (k:Int))).Ops.length:=by omega
    have hos:=sF (key:=key) a0;refine aj (by omega) ?_;refine ay (fun h4 => ?_) (fun h4 => ?_)
    ·refine ay (fun h5 => ?_) (fun h5 => ?_)
     ·refine aj (by rw [List.length_append]; omega) (ah ⟨a0,?_⟩)
      rw [if_pos ⟨h4,h5⟩] at hos
      rw [hos,List.append_assoc]
     ·refine ah ⟨a0,?_⟩
      rw [if_neg (fun h=>h5 h.2)] at hos
      rw [hos]
    ·refine ay (fun h5=>absurd h5 (by simp)) (fun h5=>ah ⟨a0,?_⟩)
     rw [if_neg (fun h=>h4 h.1)] at hos
     rw [hos]
   ·have:p=(idx h.Txns (idx l (k:Int))).Ops.length:=by omega
    subst this;refine aF (ah ⟨a1,?_⟩)
    dsimp only
    rw [hw,zt (by omega)]
    rfl
  ·have:k=pos l t + 1:=by omega
   subst this;exact aF (fD.2 (BL hT (by omega)))
 ·have haa:pQ h l key t=[]:=if_neg (by omega)
  rw [haa]
  exact fD.2 (BL hT (by simp))
theorem BO (hS:mf h) (ho:jY h l) {key ty t:Int} (ht:t < 0∨t ∈ l):aJ h l ty key t=some (fin ty (pQ h l key t)):=by
 have hll:=ho.len;have a2:=hS.len;refine fD.1 ?_;unfold aJ;refine dI (k0:=0) (l.length + 1) (fun k s=>s=(wrs h (l.take k) key,(k:Int))∧k≤l.length∧(0≤t→k≤pos l t)∧(t < 0→k=0)) (Nat.zero_le _) ⟨rfl,Nat.zero_le _,fun _=>Nat.zero_le _,fun _=>rfl⟩ ?_;rintro k s hk ⟨rfl,hkl,hkp,a1⟩;have hw:w64 ((k:Int) + 1)=((k + 1:Nat):Int):=bn (by omega);have a3:=vk hS ho (key:=key) k hkl;unfold kY jf
 dsimp only
 rw [hw]
 by_cases htn:t < 0
 ·have:k=0:=a1 htn;subst this;have haa:pQ h l key t=[]:=if_neg (by omega);have hj:Tri (out (σ:=List Int×Int) (fw ty (wrs h (l.take 0) key))) (Upm (l.length + 1) 0 (fun k s=>s=(wrs h (l.take k) key,(k:Int))∧k≤l.length∧(0≤t→k≤pos l t)∧(t < 0→k=0)) (fun r=>r=fin ty (pQ h l key t))):=by
   rw [haa]
   exact aF (fD.2 (DI (by simp [wrs])))
  refine ay (fun h1 => ?_) (fun h1=>ay (fun h2=>absurd h2 (by simp)) (fun _=>hj));exact ay (fun h2=>by omega) (fun _=>hj)
 ·have htm:t ∈ l:=by rcases ht with h | h; exact absurd h htn; exact h
  have hp:=yl.2 htm;have hkp:=hkp (by omega);have a0:k < l.length:=by omega
  have hr:=ho.rg _ (qW a0);have a4:=Ir hS (key:=key) ⟨hr.1,hr.2.1⟩;refine ay (fun h1 => ?_) (fun h1=>by omega);refine ay (fun h2 => ?_) (fun h2=>by omega);have hW:aR h (idx l (k:Int)) key=some (nX h (idx l (k:Int)) key):=by
   obtain ⟨n,hn⟩:∃ n:Nat,idx l (k:Int)=(n:Int):=⟨(idx l (k:Int)).toNat,by omega⟩
   rw [hn] at hr ⊢
   exact zn ⟨by omega,by omega⟩ (hS.txn n (by omega)).ops.1
  refine aj (by omega) (dA hW (aj (by omega) ?_))
  rw [← zt a0]
  refine ay (fun h3 => ?_) (fun h3 => ?_)
  ·have e:pos l t=k:=II ho.nd a0 h3;have haa:pQ h l key t=wrs h (l.take (k + 1)) key:=by unfold pQ; rw [if_pos (by omega),e]
   rw [haa]
   have:=vk hS ho (key:=key) (k + 1) (by omega);exact aF (fD.2 (DI (by omega)))
  ·refine ah ⟨by omega,rfl,by omega,fun _ => ?_,fun h=>absurd h htn⟩
   rcases Nat.lt_or_ge k (pos l t) with h4 | h4
   ·omega
   ·have:k=pos l t:=by omega
    rw [this,qX htm] at h3
    exact absurd rfl h3
end
end Go.Proofs.YtnlkggppokcmfaaGreatT
namespace Go.Proofs.YtnlkggppokcmfaaGreatT
open Go Go.Proofs Go.Proofs.YtnlkggppokcmfaaGreatE
set_option linter.unusedVariables false
set_option linter.unusedSimpArgs false
theorem Fp {m:List (Int×Int)} {x:Int} (h:kF m x=false):mat m x=0 :=
 (sJ (fun k hk e=>by
  have:=DF.2 (e ▸ hk)
  rw [h] at this
  cases this)).1
theorem BP {h:History} {a:Ask} (ha:a ∈ dJ h h.Txns.length):∃ t:Nat,a.Txn=(t:Int)∧t < h.Txns.length∧(idx h.Txns (t:Int)).Status=1:=by
 unfold dJ at ha;obtain ⟨t,ht,ha⟩:=List.mem_flatMap.1 ha;have ht:=List.mem_range.1 ht;unfold pO at ha
 split at ha
 case isFalse=>cases ha
 case isTrue hst =>
 unfold pM at ha;obtain ⟨p,hp,ha⟩:=List.mem_flatMap.1 ha;refine ⟨t,?_,ht,hst⟩;unfold xu at ha
 dsimp only at ha
 split at ha
 ·cases ha
 ·split at ha
  ·rw [List.mem_singleton] at ha
   rw [ha]
  ·split at ha
   ·rw [List.mem_singleton] at ha
    rw [ha]
   ·cases ha
def Bb (h:History) (l:List Int):Prop:=∀ i k:Nat,k < i→i < h.Txns.length→(idx h.Txns (i:Int)).Proc=(idx h.Txns (k:Int)).Proc→(i:Int) ∈ l→(k:Int) ∈ l→pos l (k:Int) < pos l (i:Int)
def Ahead (h:History) (l:List Int) (a:Ask) (p:Int):Prop:=p ∈ l∧pos l p < pos l a.Txn∧0 < (nX h p a.Key).length
def kd (h:History) (a:Ask):Int:=typ (opAt h a.Txn a.Place).Kind
def ver (h:History) (l:List Int) (a:Ask) (p:Int):List Int:=fin (kd h a) (pQ h l a.Key p)
open Classical in
noncomputable def nY (h:History) (l:List Int) (a:Ask) (p:Int):Int:=if p ≠ -1 ∧ ¬ Ahead h l a p then 5 else if ver h l a p≠a.Base then 6 else 0
def First (n:Nat) (v:Nat→Int) (r:Int):Prop:=(r=0∧∀ i,i < n→v i=0)∨(∃ i,i < n∧v i=r∧r≠0∧∀ j,j < i→v j=0)
theorem First.det {n:Nat} {v:Nat→Int} {r s:Int} (h1:First n v r) (h2:First n v s):r=s:=by
 rcases h1 with ⟨rfl,h1⟩ | ⟨i,hi,e1,n1,b1⟩ <;> rcases h2 with ⟨rfl,h2⟩ | ⟨j,hj,e2,n2,b2⟩
 ·rfl
 ·exact absurd (e2.symm.trans (h1 j hj)) n2
 ·exact absurd (e1.symm.trans (h2 i hi)) n1
 ·rcases Nat.lt_trichotomy i j with h | h | h
  ·exact absurd (e1.symm.trans (b2 i h)) n1
  ·subst h; exact e1.symm.trans e2
  ·exact absurd (e2.symm.trans (b1 j h)) n2
theorem First.congr {n:Nat} {v u:Nat→Int} {r:Int} (h:First n v r) (e:∀ i,i < n→v i=u i):First n u r:=by
 rcases h with ⟨h1,h2⟩ | ⟨i,hi,e1,n1,b1⟩
 ·exact .inl ⟨h1,fun i hi=>(e i hi).symm.trans (h2 i hi)⟩
 ·exact .inr ⟨i,hi,(e i hi).symm.trans e1,n1,fun j hj=>(e j (by omega)).symm.trans (b1 j hj)⟩
inductive Why (h:History) (x:Exec):Int→Prop
 | bad:gL h h.Txns.length≠[]→Why h x 1
 | order:gL h h.Txns.length=[] → ¬ jY h x.Order→Why h x 2
 | picks:gL h h.Txns.length=[]→jY h x.Order→x.Picks.length≠(dJ h h.Txns.length).length→Why h x 3
 | sess:gL h h.Txns.length=[]→jY h x.Order→x.Picks.length=(dJ h h.Txns.length).length → ¬ Bb h x.Order→Why h x 4
 | pick {r:Int}:gL h h.Txns.length=[]→jY h x.Order→x.Picks.length=(dJ h h.Txns.length).length→Bb h x.Order →
   First (dJ h h.Txns.length).length (fun i=>nY h x.Order (idx (dJ h h.Txns.length) (i:Int)) (idx x.Picks (i:Int))) r→Why h x r
theorem Why.det {h:History} {x:Exec} {r s:Int} (h1:Why h x r) (h2:Why h x s):r=s:=by
 cases h1 <;> cases h2 <;> first | rfl | contradiction | exact First.det ‹_› ‹_›
section
variable {h:History} {l:List Int} {m:List (Int×Int)}
theorem CW (hS:mf h) (hc:aO h=some 0) (ho:jY h l) (hm:uQ l m) {a:Ask} (ha:a ∈ dJ h h.Txns.length) {p:Int}:Tri (dU ⟨h,l,m⟩ a p) (fun r=>r=true↔Ahead h l a p):=by
 obtain ⟨t,et,ht,hst⟩:=BP ha;have htl:=ho.dn t ht hst;unfold dU jP
 dsimp only
 rw [hm.hasB]
 refine ay (fun h1 => ?_) (fun h1 => ?_)
 ·rw [cond_true]
  exact ah ⟨fun h=>(nomatch h),fun h2=>absurd h2.1 h1⟩
 ·have hp:p ∈ l:=Classical.byContradiction h1
  rw [hm.at_ p hp,et,hm.at_ _ htl]
  refine ay (fun h2=>ah ⟨fun h=>(nomatch h),fun h3 => ?_⟩) (fun h2 => ?_)
  ·have:=h3.2.1
   rw [et] at this
   omega
  ·refine dA (CR hS hc) (ah ?_);have hr:=ho.rg p hp
   rw [if_pos ⟨hr.1,hr.2.1⟩]
   dsimp only
   rw [decide_eq_true_iff]
   exact ⟨fun h3=>⟨hp,by rw [et]; omega,h3⟩,fun h3=>h3.2.2⟩
theorem Es (ho:jY h l) (a1:h.Txns.length≤32) (hm:uQ l m):Tri (aY ⟨h,l,m⟩) (fun r=>r=true↔Bb h l):=by
 unfold aY;refine dI (k0:=0) h.Txns.length (fun k s=>s.2=(k:Int)∧(∀ t:Nat,t < k→(t:Int) ∈ l→kF s.1 (idx h.Txns (t:Int)).Proc=true∧(pos l (t:Int):Int)≤mat s.1 (idx h.Txns (t:Int)).Proc) ∧
  (∀ q,kF s.1 q=true→∃ t:Nat,t < k∧(t:Int) ∈ l∧(idx h.Txns (t:Int)).Proc=q∧mat s.1 q=(pos l (t:Int):Int)) ∧
  ∀ i j:Nat,j < i→i < k→(idx h.Txns (i:Int)).Proc=(idx h.Txns (j:Int)).Proc→(i:Int) ∈ l→(j:Int) ∈ l→pos l (j:Int) < pos l (i:Int)) (Nat.zero_le _)
  ⟨rfl,fun t ht=>absurd ht (Nat.not_lt_zero _),fun q hq=>(by rw [BU] at hq; cases hq),fun i j h1 h2=>absurd h2 (Nat.not_lt_zero _)⟩ ?_
 rintro k ⟨s,x⟩ hk ⟨rfl,i1,i2,i3⟩;have hw:w64 ((k:Int) + 1)=((k + 1:Nat):Int):=bn (by omega)
 dsimp only at i1 i2 i3
 unfold kw iK iJ
 dsimp only
 rw [hw,hm.hasB]
 refine ay (fun h1 => ?_) (fun h1 => ?_)
 ·have a0:k < h.Txns.length:=by omega
  refine aj (by omega) ?_;refine ay (fun h2 => ?_) (fun h2 => ?_)
  ·refine ah ⟨a0,rfl,fun t ht htl => ?_,fun q hq => ?_,fun i j hij hi hp hil hjl => ?_⟩
   ·have:t≠k:=fun e=>h2 (e ▸ htl);exact i1 t (by omega) htl
   ·obtain ⟨t,q1,q2⟩:=i2 q hq;exact ⟨t,by omega,q2⟩
   ·have:i≠k:=fun e=>h2 (e ▸ hil);exact i3 i j hij (by omega) hp hil hjl
  ·have hkl:(k:Int) ∈ l:=Classical.byContradiction h2
   rw [hm.at_ _ hkl]
   have go:(∀ t:Nat,t < k→(t:Int) ∈ l→(idx h.Txns (k:Int)).Proc=(idx h.Txns (t:Int)).Proc→pos l (t:Int) < pos l (k:Int)) →
     Upm h.Txns.length k (fun k s=>s.2=(k:Int)∧(∀ t:Nat,t < k→(t:Int) ∈ l→kF s.1 (idx h.Txns (t:Int)).Proc=true∧(pos l (t:Int):Int)≤mat s.1 (idx h.Txns (t:Int)).Proc) ∧
      (∀ q,kF s.1 q=true→∃ t:Nat,t < k∧(t:Int) ∈ l∧(idx h.Txns (t:Int)).Proc=q∧mat s.1 q=(pos l (t:Int):Int)) ∧
      ∀ i j:Nat,j < i→i < k→(idx h.Txns (i:Int)).Proc=(idx h.Txns (j:Int)).Proc→(i:Int) ∈ l→(j:Int) ∈ l→pos l (j:Int) < pos l (i:Int)) (fun r=>r=true↔Bb h l)
      (.inl (gP s (idx h.Txns (k:Int)).Proc (yL (pos l (k:Int):Int) (mat s (idx h.Txns (k:Int)).Proc)),((k + 1:Nat):Int))):=fun hno=>by
    have hmax:yL (pos l (k:Int):Int) (mat s (idx h.Txns (k:Int)).Proc)=(pos l (k:Int):Int):=by
     unfold yL
     split
     ·rename_i hlt
      by_cases hh:kF s (idx h.Txns (k:Int)).Proc=true
      ·obtain ⟨t,q1,q2,q3,q4⟩:=i2 _ hh;have:=hno t q1 q2 q3.symm
       omega
      ·have e0:mat s (idx h.Txns (k:Int)).Proc=0:=Fp (by simpa using hh)
       omega
     ·rfl
    rw [hmax]
    refine ⟨a0,rfl,fun t ht htl => ?_,fun q hq => ?_,fun i j hij hi hp hil hjl => ?_⟩
    ·dsimp only
     rw [uS,oV]
     by_cases hp:(idx h.Txns (t:Int)).Proc=(idx h.Txns (k:Int)).Proc
     ·rw [if_pos hp]
      refine ⟨.inl hp,?_⟩
      by_cases htk:t=k
      ·rw [htk]; omega
      ·have:=hno t (by omega) htl hp.symm
       omega
     ·rw [if_neg hp]
      have htk:t≠k:=fun e=>hp (by rw [e]);obtain ⟨q1,q2⟩:=i1 t (by omega) htl;exact ⟨.inr q1,q2⟩
    ·dsimp only at hq ⊢
     rw [uS] at hq
     rw [oV]
     by_cases hp:q=(idx h.Txns (k:Int)).Proc
     ·rw [if_pos hp]
      exact ⟨k,by omega,hkl,hp.symm,rfl⟩
     ·rw [if_neg hp]
      rcases hq with hq | hq
      ·exact absurd hq hp
      ·obtain ⟨t,q1,q2⟩:=i2 q hq;exact ⟨t,by omega,q2⟩
    ·rcases Nat.lt_or_ge i k with h5 | h5
     ·exact i3 i j hij h5 hp hil hjl
     ·have:i=k:=by omega
      subst this;exact hno j hij hjl hp
   refine ay (fun h3 => ?_) (fun h3 => ?_)
   ·obtain ⟨t,q1,q2,q3,q4⟩:=i2 _ h3;refine ay (fun h4 => ?_) (fun h4=>ah (go (fun u hu hul hpu => ?_)))
    ·refine aF (ah ⟨fun h=>(nomatch h),fun hs => ?_⟩);have:=hs k t q1 a0 q3.symm hkl q2
     omega
    ·have h5:=(i1 u hu hul).2
     rw [← hpu] at h5
     have h6:pos l (u:Int)≠pos l (k:Int):=fun e=>by
      have h7:=qX hul
      rw [e,qX hkl] at h7
      omega
     omega
   ·refine ay (fun h4=>absurd h4 (by simp)) (fun h4=>ah (go (fun u hu hul hpu => ?_)));have h5:=(i1 u hu hul).1
    rw [← hpu] at h5
    exact absurd h5 h3
 ·have:k=h.Txns.length:=by omega
  subst this;exact aF (ah ⟨fun _=>i3,fun _=>rfl⟩)
theorem Iu {a:Ask} {t p:Nat} (hk:Iq h a t p):kd h a=typ (opAt h (t:Int) (p:Int)).Kind:=by
 unfold kd
 rw [hk.e1,hk.e2]
theorem Fq (hS:mf h) (hc:aO h=some 0) {a:Ask} (ha:a ∈ dJ h h.Txns.length):dX h a.Key=some (kd h a):=by
 obtain ⟨t,p,hk⟩:=Fg hS ha
 rw [Iu hk]
 exact Ep hS hc hk.tl hk.pl hk.e3.symm
theorem DJ (hS:mf h) (ho:jY h l) {a:Ask} {p:Int}:(ver h l a p).length≤513:=by
 have h1:=Ha (ty:=kd h a) (w:=pQ h l a.Key p);have h2:=BN hS ho (key:=a.Key) (t:=p);unfold ver
 omega
theorem Fs (hs:pJ h) (hS:mf h) (hc:aO h=some 0) {x:Exec} (hl:x.Order.length < 2 ^ 50) (hpl:x.Picks.length < 2 ^ 50):Tri (fA h x) (fun r=>r.2=0∧Why h x r.1):=by
 have a1:=hS.len;obtain ⟨n1,n2,_⟩:=vg hS h.Txns.length (Nat.le_refl _);have hA:oI h=some (dJ h h.Txns.length,0):=by unfold oI; rw [BC hs hS hc]; rfl
 have hB:rR h=some (gL h h.Txns.length,0):=by unfold rR; rw [BC hs hS hc]; rfl
 unfold fA;refine dA hA ?_;refine ay (fun h1=>absurd rfl h1) (fun _ => ?_);refine dA hB ?_;refine ay (fun h1 => ?_) (fun h1 => ?_)
 ·exact ah ⟨rfl,.bad (fun e=>by dsimp only at h1; rw [e] at h1; simp at h1)⟩
 have hsp:gL h h.Txns.length=[]:=List.length_eq_zero_iff.1 (by dsimp only at h1; omega);refine fQ (Er a1 (by omega)) (fun r hr => ?_);obtain ⟨⟨rh,ro,rm⟩,rb⟩:=r;obtain ⟨e1,e2,e3,e4⟩:=hr
 dsimp only at e1 e2 e3 e4
 subst e1 e2;refine ay (fun h2 => ?_) (fun h2 => ?_)
 ·exact ah ⟨rfl,.order hsp (fun ho=>h2 (e3.2 ho))⟩
 have ho:=e3.1 (by simpa using h2);have hm:=e4 (by simpa using h2)
 dsimp only
 refine ay (fun h3 => ?_) (fun h3 => ?_)
 ·exact ah ⟨rfl,.picks hsp ho (fun e=>h3 (by rw [e]))⟩
 have hpe:x.Picks.length=(dJ rh rh.Txns.length).length:=by
  have:¬ ¬ ((x.Picks.length:Int)=((dJ rh rh.Txns.length).length:Int)):=h3
  omega
 refine fQ (Es ho a1 hm) (fun b hb => ?_);refine ay (fun h4 => ?_) (fun h4 => ?_)
 ·exact ah ⟨rfl,.sess hsp ho hpe (fun hq=>h4 (hb.2 hq))⟩
 have hq:=hb.1 (by simpa using h4);generalize hAs:dJ rh rh.Txns.length=aL at hpe n1 hA
 suffices hloop:Tri (iter (qN x (aL,0) (⟨rh,x.Order,rm⟩,rb)) 0) (fun r=>r.2=0∧First aL.length (fun i=>nY rh x.Order (idx aL (i:Int)) (idx x.Picks (i:Int))) r.1) from
  dQ hloop (fun r hr=>⟨hr.1,.pick hsp ho (by rw [hAs]; exact hpe) hq (by rw [hAs]; exact hr.2)⟩)
 refine dI (k0:=0) aL.length (fun k s=>s=(k:Int)∧∀ i,i < k→nY rh x.Order (idx aL (i:Int)) (idx x.Picks (i:Int))=0) (Nat.zero_le _) ⟨rfl,fun i hi=>absurd hi (Nat.not_lt_zero _)⟩ ?_;rintro k s hk ⟨rfl,hz⟩;have hw:w64 ((k:Int) + 1)=((k + 1:Nat):Int):=bn (by omega);unfold qN qM
 dsimp only
 rw [hw]
 refine ay (fun h5 => ?_) (fun h5 => ?_)
 ·have a0:k < aL.length:=by omega
  have ham:idx aL (k:Int) ∈ dJ rh rh.Txns.length:=by rw [hAs]; exact BH a0
  refine aj (by omega) (aj (by omega) ?_);generalize hpv:idx x.Picks (k:Int)=p;have tail:(p ≠ -1→Ahead rh x.Order (idx aL (k:Int)) p)→Tri (must (0≤(k:Int)∧(k:Int) < (x.Picks.length:Int)) ((aB ⟨rh,x.Order,rm⟩ ((idx aL (k:Int)).Key) p).bind fun y=>(dm y ((idx aL (k:Int)).Base)).bind fun z=>bif !z then out (some (6,0)) else (some (.inl ((k + 1:Nat):Int)))))
    (Upm aL.length k (fun k s=>s=(k:Int)∧∀ i,i < k→nY rh x.Order (idx aL (i:Int)) (idx x.Picks (i:Int))=0) (fun r:Int×Int=>r.2=0∧First aL.length (fun i=>nY rh x.Order (idx aL (i:Int)) (idx x.Picks (i:Int))) r.1)):=fun hah=>by
   have hv:aB ⟨rh,x.Order,rm⟩ ((idx aL (k:Int)).Key) p=some (ver rh x.Order (idx aL (k:Int)) p) :=
    Ba hS ho hm (Fq hS hc ham) (by
     by_cases hp:p = -1
     ·left; omega
     ·exact .inr (hah hp).1)
   have hvl:=DJ hS ho (a:=idx aL (k:Int)) (p:=p);refine aj (by omega) (dA hv (dA (zh (by omega)) ?_));refine ay (fun h6 => ?_) (fun h6 => ?_)
   ·refine aF (ah ⟨rfl,.inr ⟨k,a0,?_,by decide,hz⟩⟩)
    show nY rh x.Order (idx aL (k:Int)) (idx x.Picks (k:Int))=6
    rw [hpv]
    unfold nY
    rw [if_neg (fun h=>h.2 (hah h.1)),if_pos h6]
   ·refine ah ⟨a0,rfl,fun i hi => ?_⟩;rcases Nat.lt_or_ge i k with h7 | h7
    ·exact hz i h7
    ·have:i=k:=by omega
     subst this
     rw [hpv]
     unfold nY
     rw [if_neg (fun h=>h.2 (hah h.1)),if_neg h6]
  refine ay (fun h6 => ?_) (fun h6 => ?_)
  ·refine fQ (CW hS hc ho hm ham) (fun b hb => ?_);refine ay (fun h7 => ?_) (fun h7 => ?_)
   ·refine aF (ah ⟨rfl,.inr ⟨k,a0,?_,by decide,hz⟩⟩)
    show nY rh x.Order (idx aL (k:Int)) (idx x.Picks (k:Int))=5
    rw [hpv]
    unfold nY
    rw [if_pos ⟨h6,fun h=>h7 (hb.2 h)⟩]
   ·exact tail (fun _=>hb.1 (by simpa using h7))
  ·rw [cond_false]
   exact tail (fun h=>absurd h h6)
 ·have:k=aL.length:=by omega
  subst this;exact aF (ah ⟨rfl,.inl ⟨rfl,hz⟩⟩)
theorem Hd (hc:aO h=some 1) {x:Exec}:fA h x=some (0,1):=by
 unfold fA oI jU
 rw [hc]
 rfl
end
end Go.Proofs.YtnlkggppokcmfaaGreatT
namespace Go.Proofs.YtnlkggppokcmfaaGreatT
open Go Go.Proofs Go.Proofs.YtnlkggppokcmfaaGreatE
set_option linter.unusedVariables false
set_option linter.unusedSimpArgs false
abbrev XG (x:Exec):Prop:=((∀ y ∈ (x).Order,(Lit.int .i64 y).wf=true)∧((x).Order).length * 8≤140737488351232)∧((∀ y ∈ (x).Picks,(Lit.int .i64 y).wf=true)∧((x).Picks).length * 8≤140737488351232)
section
variable {h:History} {l at_:List Int}
theorem BQ (hS:mf h) (ho:jY h l) (hp:AZ h l at_) {a:Ask} (ha:a ∈ dJ h h.Txns.length) {p:Int}:bF h l at_ a p=some (nY h l a p):=by
 have a0:=hS.len;obtain ⟨t,pl,hk⟩:=Fg hS ha;obtain ⟨t',et,ht,hst⟩:=BP ha;have:t'=t:=by have:=hk.e1.symm.trans et; omega
 subst this;have htl:=ho.dn t' ht hst;have hlen:=hp.len;obtain ⟨k1,k8⟩:=AV hS hk.tl hk.pl;refine fD.1 ?_;unfold bF;have bad:(p ≠ -1 ∧ ¬ Ahead h l a p)→Tri (bX h l a p true) (fun b=>b=nY h l a p):=fun hb=>by
  unfold bX
  rw [cond_true]
  refine ah ?_;unfold nY
  rw [if_pos hb]
 have good:(p = -1∨Ahead h l a p)→Tri (bX h l a p false) (fun b=>b=nY h l a p):=fun hg=>by
  unfold bX
  rw [cond_false,hk.e1,hk.e2]
  refine aj (by omega) (aj (by have:=hk.pl; omega) ?_);have hO:fB (idx (idx h.Txns (t':Int)).Ops (pl:Int)).Kind=some (kd h a):=by rw [Iu hk]; exact xm k1 k8
  have hv:aJ h l (kd h a) a.Key p=some (ver h l a p):=BO hS ho (by
   rcases hg with h1 | h1
   ·left; omega
   ·exact .inr h1.1)
  have hvl:=DJ hS ho (a:=a) (p:=p);have hn:¬ (p ≠ -1 ∧ ¬ Ahead h l a p):=fun h1=>hg.elim h1.1 h1.2;refine dA hO (dA hv (dA (Af (by omega)) ?_));unfold nY
  rw [if_neg hn]
  refine ay (fun h1 => ?_) (fun h1 => ?_)
  ·rw [if_pos h1]; exact ah rfl
  ·rw [if_neg h1]; exact ah rfl
 refine ay (fun h1 => ?_) (fun h1=>good (.inl (Classical.byContradiction h1)));refine ay (fun h2=>bad ⟨h1,fun h3=>by have:=ho.rg _ h3.1; omega⟩) (fun h2 => ?_);refine ay (fun h3=>bad ⟨h1,fun h4=>by have:=ho.rg _ h4.1; omega⟩) (fun h3 => ?_);obtain ⟨q,rfl⟩:∃ q:Nat,p=(q:Int):=⟨p.toNat,by omega⟩
 have hq:q < h.Txns.length:=by omega
 have hatq:=hp.at_ q hq;have hatt:=hp.at_ t' ht
 rw [if_pos htl] at hatt
 refine aj (by omega) ?_;refine ay (fun h4=>bad ⟨h1,fun h5=>by rw [if_pos h5.1] at hatq; omega⟩) (fun h4 => ?_);have hql:(q:Int) ∈ l:=Classical.byContradiction fun h5=>h4 (by rw [if_neg h5] at hatq; exact hatq)
 rw [if_pos hql] at hatq
 refine dA (zn ⟨by omega,by omega⟩ (hS.txn q hq).ops.1) ?_
 refine ay (fun h5=>bad ⟨h1,fun h6=>by have:=h6.2.2; omega⟩) (fun h5 => ?_)
 rw [hk.e1]
 refine aj (by omega) ?_
 rw [hatq,hatt]
 by_cases h6:pos l (q:Int) < pos l (t':Int)
 ·rw [decide_eq_false (by omega)]
  exact good (.inr ⟨hql,by rw [hk.e1]; exact h6,by omega⟩)
 ·rw [decide_eq_true (by omega)]
  exact bad ⟨h1,fun h7=>h6 (by have:=h7.2.1; rwa [hk.e1] at this)⟩
theorem Et (hs:pJ h) (hS:mf h) {x:Exec} (hl:x.Order.length < 2 ^ 50) (hpl:x.Picks.length < 2 ^ 50):Tri (aT h x) (fun r=>Why h x r):=by
 have a4:=hS.len;obtain ⟨n1,n2,_⟩:=vg hS h.Txns.length (Nat.le_refl _);unfold aT;refine dA (BD hs hS) ?_
 dsimp only
 refine ay (fun h1 => ?_) (fun h1 => ?_)
 ·exact ah (.bad (fun e=>by rw [e] at h1; simp at h1))
 have hsp:gL h h.Txns.length=[]:=List.length_eq_zero_iff.1 (by omega);refine fQ (BI a4 (by omega)) (fun r hr => ?_);obtain ⟨at_,b⟩:=r;obtain ⟨e1,e2,_⟩:=hr
 dsimp only at e1 e2 ⊢
 refine ay (fun h2=>ah (.order hsp (fun ho=>h2 (e1.2 ho)))) (fun h2 => ?_);have hb:b=true:=by simpa using h2
 have ho:=e1.1 hb;have hp:=e2 hb;have hlen:=hp.len;subst hb;refine ay (fun h3=>ah (.picks hsp ho (fun e=>h3 (by rw [e])))) (fun h3 => ?_);have hpe:x.Picks.length=(dJ h h.Txns.length).length:=by
  have:¬ ¬ ((x.Picks.length:Int)=((dJ h h.Txns.length).length:Int)):=h3
  omega
 generalize hsl:gL h h.Txns.length=sl
 suffices hloop:Tri (iter (jS h x (dJ h h.Txns.length,sl) (at_,true)) 0) (fun r=>(¬ Bb h x.Order∧r=4)∨(Bb h x.Order∧First (dJ h h.Txns.length).length (fun i=>nY h x.Order (idx (dJ h h.Txns.length) (i:Int)) (idx x.Picks (i:Int))) r)) from
  dQ hloop (by
   rintro r (⟨q1,rfl⟩ | ⟨q1,q2⟩)
   ·exact .sess hsp ho hpe q1
   ·exact .pick hsp ho hpe q1 q2)
 generalize hAs:dJ h h.Txns.length=aL at hpe n1;refine dI (k0:=0) h.Txns.length (fun k s=>s=(k:Int)∧∀ i j:Nat,j < i→i < k→(idx h.Txns (i:Int)).Proc=(idx h.Txns (j:Int)).Proc→(i:Int) ∈ x.Order→(j:Int) ∈ x.Order→pos x.Order (j:Int) < pos x.Order (i:Int)) (Nat.zero_le _) ⟨rfl,fun i j h1 h2=>absurd h2 (Nat.not_lt_zero _)⟩ ?_;rintro k s hk ⟨rfl,hno⟩;have hw:w64 ((k:Int) + 1)=((k + 1:Nat):Int):=bn (by omega);unfold jS
 dsimp only
 refine ay (fun h5 => ?_) (fun h5 => ?_)
 ·have a0:k < h.Txns.length:=by omega
  have hatk:=hp.at_ k a0;refine dI (k0:=0) k (fun j s=>s=(j:Int)∧∀ q:Nat,q < j→(idx h.Txns (k:Int)).Proc=(idx h.Txns (q:Int)).Proc→(k:Int) ∈ x.Order→(q:Int) ∈ x.Order→pos x.Order (q:Int) < pos x.Order (k:Int)) (Nat.zero_le _) ⟨rfl,fun q hq=>absurd hq (Nat.not_lt_zero _)⟩ ?_;rintro j s hj ⟨rfl,hnj⟩;have a6:w64 ((j:Int) + 1)=((j + 1:Nat):Int):=bn (by omega);unfold mH iG
  dsimp only
  rw [a6]
  refine ay (fun h6 => ?_) (fun h6 => ?_)
  ·have a2:j < k:=by omega
   have hatj:=hp.at_ j (by omega);have nx:((idx h.Txns (k:Int)).Proc=(idx h.Txns (j:Int)).Proc→(k:Int) ∈ x.Order→(j:Int) ∈ x.Order→pos x.Order (j:Int) < pos x.Order (k:Int)) →
     Upm k j (fun j s=>s=(j:Int)∧∀ q:Nat,q < j→(idx h.Txns (k:Int)).Proc=(idx h.Txns (q:Int)).Proc→(k:Int) ∈ x.Order→(q:Int) ∈ x.Order→pos x.Order (q:Int) < pos x.Order (k:Int))
      (Upm h.Txns.length k (fun k s=>s=(k:Int)∧∀ i j:Nat,j < i→i < k→(idx h.Txns (i:Int)).Proc=(idx h.Txns (j:Int)).Proc→(i:Int) ∈ x.Order→(j:Int) ∈ x.Order→pos x.Order (j:Int) < pos x.Order (i:Int)) (fun r:Int=>(¬ Bb h x.Order∧r=4)∨(Bb h x.Order∧First aL.length (fun i=>nY h x.Order (idx aL (i:Int)) (idx x.Picks (i:Int))) r)))
      (.inl ((j + 1:Nat):Int)):=fun h7=>⟨a2,rfl,fun q hq=>by
    rcases Nat.lt_or_ge q j with h8 | h8
    ·exact hnj q h8
    ·have:q=j:=by omega
     subst this;exact h7⟩
   refine aj (by omega) (aj (by omega) ?_);refine ay (fun h7 => ?_) (fun h7 => ?_)
   ·refine aj (by omega) ?_;refine ay (fun h8 => ?_) (fun h8 => ?_)
    ·have hkl:(k:Int) ∈ x.Order:=Classical.byContradiction fun h9=>h8 (by rw [if_neg h9] at hatk; exact hatk)
     rw [if_pos hkl] at hatk
     refine aj (by omega) ?_;refine ay (fun h9 => ?_) (fun h9=>ah (nx (fun _ _ hjl => ?_)))
     ·refine aF (aF (ah (.inl ⟨fun hq => ?_,rfl⟩)));have hjl:(j:Int) ∈ x.Order:=Classical.byContradiction fun a1=>by rw [if_neg a1] at hatj; omega
      rw [if_pos hjl] at hatj
      have:=hq k j a2 a0 h7 hkl hjl
      omega
     ·rw [if_pos hjl] at hatj
      have a1:pos x.Order (j:Int)≠pos x.Order (k:Int):=fun e=>by
       have a3:=qX hjl
       rw [e,qX hkl] at a3
       omega
      omega
    ·refine ay (fun h9=>absurd h9 (by simp)) (fun _=>ah (nx (fun _ hkl => ?_)))
     rw [if_pos hkl] at hatk
     exact absurd hatk (fun h9=>h8 (by omega))
   ·exact ay (fun h9=>absurd h9 (by simp)) (fun _=>ah (nx (fun h8=>absurd h8 h7)))
  ·have:j=k:=by omega
   subst this;refine aF (ah ⟨a0,hw,fun i q hqi hi hpr hil hql => ?_⟩);rcases Nat.lt_or_ge i j with h8 | h8
   ·exact hno i q hqi h8 hpr hil hql
   ·have:i=j:=by omega
    subst this;exact hnj q hqi hpr hil hql
 ·have:k=h.Txns.length:=by omega
  subst this;have hq:Bb h x.Order:=hno
  suffices a5:Tri (iter (jR h x (aL,sl) (at_,true)) 0) (fun r=>∃ v,r = .inr v∧First aL.length (fun i=>nY h x.Order (idx aL (i:Int)) (idx x.Picks (i:Int))) v) from
   dQ a5 (by rintro r ⟨v,rfl,hv⟩; exact .inr ⟨hq,hv⟩)
  refine dI (k0:=0) aL.length (fun k s=>s=(k:Int)∧∀ i,i < k→nY h x.Order (idx aL (i:Int)) (idx x.Picks (i:Int))=0) (Nat.zero_le _) ⟨rfl,fun i hi=>absurd hi (Nat.not_lt_zero _)⟩ ?_;rintro k s hk ⟨rfl,hz⟩;have hw:w64 ((k:Int) + 1)=((k + 1:Nat):Int):=bn (by omega);unfold jR
  dsimp only
  rw [hw]
  refine ay (fun h6 => ?_) (fun h6 => ?_)
  ·have a0:k < aL.length:=by omega
   have ham:idx aL (k:Int) ∈ dJ h h.Txns.length:=by rw [hAs]; exact BH a0
   refine aj (by omega) (aj (by omega) (dA (BQ hS ho hp ham) ?_));refine ay (fun h7 => ?_) (fun h7 => ?_)
   ·exact aF (aF (ah ⟨_,rfl,.inr ⟨k,a0,rfl,h7,hz⟩⟩))
   ·refine ah ⟨a0,rfl,fun i hi => ?_⟩;rcases Nat.lt_or_ge i k with h8 | h8
    ·exact hz i h8
    ·have:i=k:=by omega
     subst this;exact Classical.byContradiction h7
  ·have:k=aL.length:=by omega
   subst this;exact aF (aF (ah ⟨0,rfl,.inl ⟨rfl,hz⟩⟩))
theorem Fu (hs:pJ h) {x:Exec} (hl:x.Order.length < 2 ^ 50) (hpl:x.Picks.length < 2 ^ 50):∃ r,fA h x=some r∧jm h x=some r:=by
 obtain ⟨v,hv,hv',a0,hiff⟩:=CP hs;rcases a0 with rfl | rfl
 ·have hS:=hiff.1 rfl;obtain ⟨⟨r,e⟩,h1,h2,h3⟩:=Fs hs hS hv hl hpl;obtain ⟨r',h4,h5⟩:=Et hs hS hl hpl
  dsimp only at h2 h3
  subst h2;have:=Why.det h3 h5;subst this;refine ⟨_,h1,?_⟩;unfold jm
  rw [hv']
  show (aT h x).bind _=_
  rw [h4]
  rfl
 ·refine ⟨_,Hd hv,?_⟩;unfold jm
  rw [hv']
  rfl
theorem BR (h:History) (x:Exec) {K:ByteArray→Prop} (g:HG K h) (gx:XG x):dW h x=some true:=by
 have hs:=g.small;have g1:=gx.1.2;have g2:=gx.2.2;obtain ⟨r,h1,h2⟩:=Fu hs (x:=x) (by omega) (by omega);refine fD.1 ?_;unfold dW
 rw [sP]
 refine bJ ?_
 rw [Bool.not_true,cond_false]
 refine dA (En hs) ?_;refine aj (by omega) (aj (by omega) ?_);unfold ky;refine dA (a:=r) (show fA h x=some r from h1) (dA h2 ?_);refine ay (fun _ => ?_) (fun h=>absurd rfl h);refine ay (fun _ => ?_) (fun h=>absurd rfl h);refine dA (Eo hs) ?_;refine ay (fun _ => ?_) (fun h=>absurd (by simp) h);refine dA (a:=true) (show bR x.Order x.Order=some true from Ao (by omega)) ?_;refine ay (fun _ => ?_) (fun h=>absurd (by simp) h);exact dA (a:=true) (show bR x.Picks x.Picks=some true from Ao (by omega)) (ah rfl)
end
end Go.Proofs.YtnlkggppokcmfaaGreatT
