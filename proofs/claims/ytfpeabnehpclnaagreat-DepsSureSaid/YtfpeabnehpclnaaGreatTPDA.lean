import Derived.Test.YtfpeabnehpclnaaGreatTPXP
namespace Go.Proofs.YtfpeabnehpclnaaGreatT
open Go Go.Proofs Go.Proofs.YtfpeabnehpclnaaGreatE
set_option linter.unusedVariables false
set_option linter.unusedSimpArgs false
def pos (l:List Int) (t:Int):Nat:=l.findIdx (fun x=>decide (x=t))
theorem Aw {l:List Int} {t:Int}:pos l t < l.length↔t ∈ l:=by
 unfold pos
 rw [List.findIdx_lt_length]
 constructor
 ·rintro ⟨x,hx,h⟩;have:x=t:=by simpa using h
  exact this ▸ hx
 ·intro h;exact ⟨t,h,by simp⟩
theorem tT {l:List Int} {t:Int} (h:t ∈ l):idx l (pos l t:Int)=t:=by
 have hl:=Aw.2 h
 rw [eB (n:=pos l t) rfl hl]
 have:=List.findIdx_getElem (xs:=l) (p:=fun x=>decide (x=t)) (w:=hl);exact of_decide_eq_true this
theorem Dy {l:List Int} {i j:Nat} (hn:l.Nodup) (hi:i < l.length) (hj:j < l.length) (e:idx l (i:Int)=idx l (j:Int)):i=j:=by
 rw [eB (n:=i) rfl hi,eB (n:=j) rfl hj] at e
 have hp:=List.pairwise_iff_getElem.1 hn;rcases Nat.lt_trichotomy i j with h | h | h
 ·exact absurd e (hp i j hi hj h)
 ·exact h
 ·exact absurd e.symm (hp j i hj hi h)
theorem Ny {l:List Int} (hn:l.Nodup) {j:Nat} (hj:j < l.length):pos l (idx l (j:Int))=j:=by
 have hm:idx l (j:Int) ∈ l:=tQ hj;exact Dy hn (Aw.2 hm) hj (tT hm)
theorem Nz {l:List Int} (hn:l.Nodup) {t:Int} {j:Nat} (hj:j < l.length) (e:idx l (j:Int)=t):pos l t=j:=by rw [← e]; exact Ny hn hj
theorem Dz {l:List Int} {k:Nat} {t:Int}:t ∈ l.take k↔∃ j:Nat,j < k∧j < l.length∧idx l (j:Int)=t:=by
 constructor
 ·intro h;obtain ⟨j,hj,e⟩:=List.getElem_of_mem h
  rw [List.length_take] at hj
  refine ⟨j,by omega,by omega,?_⟩
  rw [eB (n:=j) rfl (by omega),← e,List.getElem_take]
 ·rintro ⟨j,h1,h2,e⟩
  rw [eB (n:=j) rfl h2] at e
  rw [← e]
  exact List.mem_iff_getElem.2 ⟨j,by rw [List.length_take]; omega,by rw [List.getElem_take]⟩
structure lw (h:History) (l:List Int):Prop where
 nd:l.Nodup
 rg:∀ t ∈ l,0≤t∧t < (h.Txns.length:Int)∧(idx h.Txns t).Status≠2
 dn:∀ t:Nat,t < h.Txns.length→(idx h.Txns (t:Int)).Status=1→(t:Int) ∈ l
theorem HY {l:List Int} {k:Nat} (hk:k < l.length) (h:(l.take k).Nodup):(l.take (k + 1)).Nodup↔idx l (k:Int) ∉ l.take k:=by
 rw [lW hk,List.nodup_append]
 simp [h]
 constructor
 ·intro h1 h2; exact h1 _ h2 rfl
 ·intro h1 x hx e; subst e; exact h1 hx
theorem lw.len {h:History} {l:List Int} (ho:lw h l):l.length≤h.Txns.length:=by
 have h1:∀ x ∈ l,x ∈ (List.range h.Txns.length).map (fun j:Nat=>(j:Int)):=fun x hx=>by
  have:=ho.rg x hx;exact List.mem_map.2 ⟨x.toNat,List.mem_range.2 (by omega),by omega⟩
 have:=CQ ho.nd h1
 simpa using this
section
variable {h:History} {l:List Int}
abbrev xO (m:List (Int×Int)):List Int:=m.map (·.1)
theorem Ay {x v:Int}:∀ {m:List (Int×Int)},xO (iA m x v)=if x ∈ xO m then xO m else xO m++[x]
 | []=>by simp [iA]
 | p::m=>by
  unfold iA
  by_cases e:p.1=x
  ·simp [e]
  ·rw [if_neg e]
   show p.1::xO (iA m x v)=_
   rw [Ay]
   have e':¬ x=p.1:=fun h=>e h.symm
   by_cases hx:x ∈ xO m
   ·simp [hx]
   ·simp [hx,e']
theorem IW {x:Int} {m:List (Int×Int)}:ma m x=true↔x ∈ xO m:=by
 unfold ma
 simp [List.any_eq_true]
structure yT (l:List Int) (k:Nat) (m:List (Int×Int)):Prop where
 nd:(xO m).Nodup
 mem:∀ x,x ∈ xO m↔x ∈ l.take k
 at_:∀ j:Nat,j < k→(∀ i:Nat,j < i→i < k→idx l (i:Int)≠idx l (j:Int))→mat m (idx l (j:Int))=(j:Int)
theorem yT.zero:yT l 0 []:=⟨List.nodup_nil,fun x=>by simp,fun j hj=>absurd hj (Nat.not_lt_zero _)⟩
theorem yT.put {k:Nat} {m:List (Int×Int)} (hm:yT l k m) (hk:k < l.length):yT l (k + 1) (iA m (idx l (k:Int)) (k:Int)):=by
 refine ⟨?_,fun x => ?_,fun j hj hno => ?_⟩
 ·rw [Ay]
  split
  ·exact hm.nd
  ·rename_i hx
   rw [List.nodup_append]
   exact ⟨hm.nd,by simp,by intro a ha b hb; rw [List.mem_singleton.1 hb]; intro e; exact hx (e ▸ ha)⟩
 ·rw [Ay,lW hk,List.mem_append,List.mem_singleton]
  split
  ·rename_i hx
   rw [hm.mem]
   constructor
   ·exact .inl
   ·rintro (h | rfl)
    ·exact h
    ·exact (hm.mem _).1 hx
  ·rw [List.mem_append,List.mem_singleton,hm.mem]
 ·rw [rV]
  split
  ·rename_i e
   rcases Nat.lt_or_ge j k with h1 | h1
   ·exact absurd e.symm (hno k h1 (by omega))
   ·have:j=k:=by omega
    rw [this]
  ·rename_i e
   rcases Nat.lt_or_ge j k with h1 | h1
   ·exact hm.at_ j h1 (fun i h2 h3=>hno i h2 (by omega))
   ·have:j=k:=by omega
    subst this;exact absurd rfl e
theorem yT.len {m:List (Int×Int)} (hm:yT l l.length m):m.length=l.length↔l.Nodup:=by
 have hmem:∀ x,x ∈ xO m↔x ∈ l:=fun x=>by rw [hm.mem,List.take_length]
 have hl:(xO m).length=m.length:=List.length_map _
 constructor
 ·intro he
  apply Classical.byContradiction
  intro hn;have:∃ i j:Nat,i < j∧j < l.length∧idx l (i:Int)=idx l (j:Int):=by
   apply Classical.byContradiction
   intro hno;refine hn (List.pairwise_iff_getElem.2 fun i j hi hj hij e=>hno ⟨i,j,hij,hj,?_⟩)
   rw [eB (n:=i) rfl hi,eB (n:=j) rfl hj,e]
  obtain ⟨i,j,hij,hj,e⟩:=this;have hsub:∀ x ∈ xO m,x ∈ l.eraseIdx j:=fun x hx=>by
   have hx:=(hmem x).1 hx;obtain ⟨q,hq,rfl⟩:=IV hx
   rw [List.mem_eraseIdx_iff_getElem]
   by_cases hqj:q=j
   ·subst hqj;exact ⟨i,by omega,by omega,by rw [← eB (n:=i) rfl (by omega:i < l.length)]; exact e⟩
   ·exact ⟨q,by omega,by omega,(eB (n:=q) rfl hq).symm⟩
  have:=CQ hm.nd hsub
  rw [List.length_eraseIdx,if_pos hj] at this
  omega
 ·intro hn;have h1:=CQ hm.nd (fun x hx=>(hmem x).1 hx);have h2:=CQ hn (fun x hx=>(hmem x).2 hx)
  omega
structure yU (l:List Int) (m:List (Int×Int)):Prop where
 has:∀ x,ma m x=true↔x ∈ l
 at_:∀ x ∈ l,mat m x=(pos l x:Int)
theorem yT.ord {m:List (Int×Int)} (hm:yT l l.length m) (hn:l.Nodup):yU l m:=by
 refine ⟨fun x=>by rw [IW,hm.mem,List.take_length],fun x hx => ?_⟩
 have hl:=Aw.2 hx;have:=hm.at_ (pos l x) hl (fun i h1 h2 e=>by have:=Dy hn h2 hl e; omega)
 rwa [tT hx] at this
theorem yU.hasB {m:List (Int×Int)} (hm:yU l m) (x:Int):ma m x=decide (x ∈ l):=by
 by_cases hx:x ∈ l
 ·rw [(hm.has x).2 hx,decide_eq_true hx]
 ·rw [decide_eq_false hx]
  cases e:ma m x with
  | false=>rfl
  | true=>exact absurd ((hm.has x).1 e) hx
theorem JB (a2:h.Txns.length≤32) (hl:l.length < 2 ^ 60):Tri (fB h l) (fun r=>r.1.h=h∧r.1.order=l∧(r.2=true↔lw h l)∧(r.2=true→yU l r.1.at_)):=by
 unfold fB;refine eZ (k0:=0) l.length (fun k s=>s.2=(k:Int)∧yT l k s.1∧∀ t ∈ l.take k,0≤t∧t < (h.Txns.length:Int)∧(idx h.Txns t).Status≠2) (Nat.zero_le _) ⟨rfl,yT.zero,fun t ht=>by simp at ht⟩ ?_
 rintro k ⟨m,x⟩ hk ⟨rfl,hm,hrg⟩;have hw:w64 ((k:Int) + 1)=((k + 1:Nat):Int):=bN (by omega);unfold yw rX
 dsimp only at hm ⊢
 rw [hw]
 have bad:∀ t ∈ l,¬ (0≤t∧t < (h.Txns.length:Int)∧(idx h.Txns t).Status≠2) → ¬ lw h l:=fun t ht hn ho=>hn (ho.rg t ht);have no:∀ {m:List (Int×Int)},¬ lw h l→(⟨h,l,m⟩:cK).h=h∧(⟨h,l,m⟩:cK).order=l∧((false:Bool)=true↔lw h l)∧((false:Bool)=true→yU l (⟨h,l,m⟩:cK).at_):=fun hn=>⟨rfl,rfl,⟨fun h=>(nomatch h),fun h=>absurd h hn⟩,fun h=>(nomatch h)⟩;refine aA (fun h1 => ?_) (fun h1 => ?_)
 ·have a0:k < l.length:=by omega
  have hmem:idx l (k:Int) ∈ l:=tQ a0;refine ax (by omega) ?_;refine aA (fun h2 => ?_) (fun h2 => ?_)
  ·exact aA (fun _=>aK (aj (no (bad _ hmem (fun h3=>by omega))))) (fun h3=>absurd trivial h3)
  ·refine aA (fun h3 => ?_) (fun h3 => ?_)
   ·exact aA (fun _=>aK (aj (no (bad _ hmem (fun h3=>by omega))))) (fun h3=>absurd trivial h3)
   ·refine ax (by omega) ?_;refine aA (fun h4=>aK (aj (no (bad _ hmem (fun h5=>h5.2.2 h4))))) (fun h4 => ?_);refine aj ⟨a0,rfl,hm.put a0,fun t ht => ?_⟩
    rw [lW a0,List.mem_append,List.mem_singleton] at ht
    rcases ht with ht | rfl
    ·exact hrg t ht
    ·exact ⟨by omega,by omega,h4⟩
 ·have:k=l.length:=by omega
  subst this
  rw [List.take_length] at hrg
  refine aA (fun h2 => ?_) (fun h2 => ?_)
  ·exact aK (aj (no (fun ho=>h2 (by have:=hm.len.2 ho.nd; omega))))
  ·have hnd:l.Nodup:=hm.len.1 (by omega);have hom:=hm.ord hnd;have hb:=hom.hasB
   suffices hs:Tri (iter (vo h l m) 0) (fun y:(List (Int×Int)×Int) ⊕ (cK×Bool)=>∃ b,y = .inr (⟨h,l,m⟩,b)∧(b=true↔lw h l)) from
    fq hs (by rintro y ⟨b,rfl,hb⟩; exact ⟨rfl,rfl,hb,fun _=>hom⟩)
   refine eZ (k0:=0) h.Txns.length (fun j s=>s=(j:Int)∧∀ t:Nat,t < j→(idx h.Txns (t:Int)).Status=1→(t:Int) ∈ l) (Nat.zero_le _) ⟨rfl,fun t ht=>absurd ht (Nat.not_lt_zero _)⟩ ?_;rintro j s hj ⟨rfl,hdn⟩;have hw:w64 ((j:Int) + 1)=((j + 1:Nat):Int):=bN (by omega);unfold vo vk
   dsimp only
   rw [hw,hb]
   refine aA (fun h3 => ?_) (fun h3 => ?_)
   ·have a1:j < h.Txns.length:=by omega
    have next:((idx h.Txns (j:Int)).Status=1→(j:Int) ∈ l)→Upm h.Txns.length j (fun j s=>s=(j:Int)∧∀ t:Nat,t < j→(idx h.Txns (t:Int)).Status=1→(t:Int) ∈ l) (fun y:(List (Int×Int)×Int) ⊕ (cK×Bool)=>∃ b,y = .inr (⟨h,l,m⟩,b)∧(b=true↔lw h l)) (.inl ((j + 1:Nat):Int)):=fun h4=>⟨a1,rfl,fun t ht hst=>by
     rcases Nat.lt_or_ge t j with h5 | h5
     ·exact hdn t h5 hst
     ·have:t=j:=by omega
      subst this;exact h4 hst⟩
    refine ax (by omega) ?_;refine aA (fun h4 => ?_) (fun h4 => ?_)
    ·refine aA (fun h5 => ?_) (fun h5=>aj (next (fun h6=>absurd h6 h5)));refine aK (aK (aj ⟨false,rfl,fun h=>(nomatch h),fun ho=>absurd (ho.dn j a1 h5) h4⟩))
    ·refine aA (fun h5=>absurd h5 (by simp)) (fun h5=>aj (next (fun _=>Classical.byContradiction h4)))
   ·have:j=h.Txns.length:=by omega
    subst this;exact aK (aK (aj ⟨true,rfl,fun _=>⟨hnd,hrg,hdn⟩,fun _=>rfl⟩))
structure Fj (h:History) (l:List Int) (at_:List Int):Prop where
 len:at_.length=h.Txns.length
 at_:∀ t:Nat,t < h.Txns.length→idx at_ (t:Int)=if (t:Int) ∈ l then (pos l (t:Int):Int) + 1 else 0
theorem Cn (a3:h.Txns.length≤32) (hl:l.length < 2 ^ 60):Tri (aV h l) (fun r=>(r.2=true↔lw h l)∧(r.2=true→Fj h l r.1)∧(r.2=false→r.1=[])):=by
 unfold aV;refine ax (by omega) ?_;refine eZ (k0:=0) l.length (fun k s=>s.2=(k:Int)∧s.1.length=h.Txns.length∧(l.take k).Nodup∧(∀ t ∈ l.take k,0≤t∧t < (h.Txns.length:Int)∧(idx h.Txns t).Status≠2) ∧
  ∀ t:Nat,t < h.Txns.length→(∀ j:Nat,j < k→idx l (j:Int)=(t:Int)→idx s.1 (t:Int)=(j:Int) + 1)∧((t:Int) ∉ l.take k→idx s.1 (t:Int)=0)) (Nat.zero_le _)
  ⟨rfl,by simp,by simp,fun t ht=>by simp at ht,fun t ht=>⟨fun j hj=>absurd hj (Nat.not_lt_zero _),fun _=>by rw [eB (n:=t) rfl (by simpa using ht)]; simp⟩⟩ ?_
 rintro k ⟨a,x⟩ hk ⟨rfl,hal,hnd,hrg,hat⟩;have hw:w64 ((k:Int) + 1)=((k + 1:Nat):Int):=bN (by omega);unfold nz gu
 dsimp only at hal hat ⊢
 rw [hw]
 have no:¬ lw h l→((([]:List Int),false).2=true↔lw h l)∧((([]:List Int),false).2=true→Fj h l (([]:List Int),false).1)∧((([]:List Int),false).2=false→(([]:List Int),false).1=[]):=fun hn=>⟨⟨fun h=>(nomatch h),fun h=>absurd h hn⟩,fun h=>(nomatch h),fun _=>rfl⟩;refine aA (fun h1 => ?_) (fun h1 => ?_)
 ·have a0:k < l.length:=by omega
  have hmem:idx l (k:Int) ∈ l:=tQ a0;refine ax (by omega) ?_;refine aA (fun h2=>aA (fun _=>aK (aj (no (fun ho=>by have:=ho.rg _ hmem; omega)))) (fun h3=>absurd trivial h3)) (fun h2 => ?_);refine aA (fun h3=>aA (fun _=>aK (aj (no (fun ho=>by have:=ho.rg _ hmem; omega)))) (fun h3=>absurd trivial h3)) (fun h3 => ?_);obtain ⟨t,ht⟩:∃ t:Nat,idx l (k:Int)=(t:Int):=⟨(idx l (k:Int)).toNat,by omega⟩
  rw [ht] at h2 h3 hmem ⊢
  have htl:t < h.Txns.length:=by omega
  obtain ⟨q1,q2⟩:=hat t htl;refine ax (by omega) ?_;refine aA (fun h4=>aA (fun _=>aK (aj (no (fun ho => ?_)))) (fun h3=>absurd trivial h3)) (fun h4 => ?_)
  ·
   have hin:(t:Int) ∈ l.take k:=Classical.byContradiction fun h5=>h4 (q2 h5);obtain ⟨j,a2,a1,e⟩:=Dz.1 hin;have:=Dy ho.nd a1 a0 (e.trans ht.symm)
   omega
  ·have hni:(t:Int) ∉ l.take k:=fun h5=>by
    obtain ⟨j,a2,a1,e⟩:=Dz.1 h5;have h6:=q1 j a2 e;exact h4 (by omega)
   refine ax (by omega) ?_;refine aA (fun h5=>aK (aj (no (fun ho=>(ho.rg _ hmem).2.2 h5)))) (fun h5 => ?_);refine ax (by omega) (aj ⟨a0,rfl,by rw [List.length_set]; exact hal,(HY a0 hnd).2 (by rw [ht]; exact hni),fun u hu => ?_,fun u hu => ?_⟩)
   ·rw [lW a0,List.mem_append,List.mem_singleton,ht] at hu
    rcases hu with hu | rfl
    ·exact hrg u hu
    ·exact ⟨by omega,by omega,h5⟩
   ·dsimp only
    rw [Int.toNat_natCast,oU (by omega)]
    obtain ⟨p1,p2⟩:=hat u hu;refine ⟨fun j hj e => ?_,fun hn => ?_⟩
    ·by_cases hut:u=t
     ·subst hut
      rw [if_pos rfl]
      rcases Nat.lt_or_ge j k with h6 | h6
      ·exact absurd (Dz.2 ⟨j,h6,by omega,e⟩) hni
      ·have:j=k:=by omega
       subst this
       omega
     ·rw [if_neg hut]
      rcases Nat.lt_or_ge j k with h6 | h6
      ·exact p1 j h6 e
      ·have:j=k:=by omega
       subst this
       rw [ht] at e
       omega
    ·rw [lW a0,List.mem_append,List.mem_singleton,ht] at hn
     have hut:¬ u=t:=fun e=>hn (.inr (by rw [e]))
     rw [if_neg hut]
     exact p2 (fun h6=>hn (.inl h6))
 ·have:k=l.length:=by omega
  subst this
  rw [List.take_length] at hnd hrg
  have hP:Fj h l a:=by
   refine ⟨hal,fun t ht => ?_⟩;obtain ⟨q1,q2⟩:=hat t ht
   rw [List.take_length] at q2
   split
   ·rename_i hin
    exact q1 _ (Aw.2 hin) (tT hin)
   ·rename_i hin
    exact q2 hin
  suffices hs:Tri (iter (kr h a) 0) (fun y:(List Int×Int) ⊕ (List Int×Bool)=>(y = .inr (a,true)∧lw h l)∨(y = .inr ([],false) ∧ ¬ lw h l)) from
   fq hs (by
    rintro y (⟨rfl,ho⟩ | ⟨rfl,ho⟩)
    ·exact ⟨⟨fun _=>ho,fun _=>rfl⟩,fun _=>hP,fun h=>(nomatch h)⟩
    ·exact no ho)
  refine eZ (k0:=0) h.Txns.length (fun j s=>s=(j:Int)∧∀ t:Nat,t < j→(idx h.Txns (t:Int)).Status=1→(t:Int) ∈ l) (Nat.zero_le _) ⟨rfl,fun t ht=>absurd ht (Nat.not_lt_zero _)⟩ ?_;rintro j s hj ⟨rfl,hdn⟩;have hw:w64 ((j:Int) + 1)=((j + 1:Nat):Int):=bN (by omega);unfold kr ko
  dsimp only
  rw [hw]
  refine aA (fun h3 => ?_) (fun h3 => ?_)
  ·have a1:j < h.Txns.length:=by omega
   have hpj:=hP.at_ j a1;have next:((idx h.Txns (j:Int)).Status=1→(j:Int) ∈ l)→Upm h.Txns.length j (fun j s=>s=(j:Int)∧∀ t:Nat,t < j→(idx h.Txns (t:Int)).Status=1→(t:Int) ∈ l) (fun y:(List Int×Int) ⊕ (List Int×Bool)=>(y = .inr (a,true)∧lw h l)∨(y = .inr ([],false) ∧ ¬ lw h l)) (.inl ((j + 1:Nat):Int)):=fun h4=>⟨a1,rfl,fun t ht hst=>by
    rcases Nat.lt_or_ge t j with h5 | h5
    ·exact hdn t h5 hst
    ·have:t=j:=by omega
     subst this;exact h4 hst⟩
   refine ax (by omega) ?_;refine aA (fun h4 => ?_) (fun h4 => ?_)
   ·refine ax (by omega) ?_;refine aA (fun h5 => ?_) (fun h5=>aj (next (fun _ => ?_)))
    ·refine aK (aK (aj (.inr ⟨rfl,fun ho => ?_⟩)))
     rw [if_pos (ho.dn j a1 h4)] at hpj
     omega
    ·apply Classical.byContradiction
     intro h6
     rw [if_neg h6] at hpj
     exact h5 hpj
   ·exact aA (fun h5=>absurd h5 (by simp)) (fun h5=>aj (next (fun h6=>absurd h6 h4)))
  ·have:j=h.Txns.length:=by omega
   subst this;exact aK (aK (aj (.inl ⟨rfl,hnd,hrg,hdn⟩)))
end
end Go.Proofs.YtfpeabnehpclnaaGreatT
namespace Go.Proofs.YtfpeabnehpclnaaGreatT
open Go Go.Proofs Go.Proofs.YtfpeabnehpclnaaGreatE
set_option linter.unusedVariables false
set_option linter.unusedSimpArgs false
abbrev srt (l:List Int):List Int:=l.mergeSort fun x y=>decide (x≤y)
theorem HZ (l:List Int):(srt l).Pairwise (· ≤ ·) :=
 (List.pairwise_mergeSort (le:=fun x y:Int=>decide (x≤y)) (fun a b c h1 h2=>by simp at *; omega) (fun a b=>by simp; omega) l).imp (fun h=>by simpa using h)
theorem La {s l:List Int} (hp:s.Perm l) (hs:s.Pairwise (· ≤ ·)):s=srt l :=
 List.Perm.eq_of_pairwise (le:=(· ≤ ·)) (fun a b _ _ h1 h2=>Int.le_antisymm h1 h2) hs (HZ l) (hp.trans (List.mergeSort_perm l _).symm)
def But (s:List Int) (k:Nat):Prop:=(∀ i j:Nat,i < j→j < s.length→i≠k→j≠k→idx s (i:Int)≤idx s (j:Int))∧∀ j:Nat,k < j→j < s.length→idx s (k:Int)≤idx s (j:Int)
theorem Lb {s:List Int}:s.Pairwise (· ≤ ·)↔∀ i j:Nat,i < j→j < s.length→idx s (i:Int)≤idx s (j:Int):=by
 rw [List.pairwise_iff_getElem]
 constructor
 ·intro h i j hij hj
  rw [eB (n:=i) rfl (by omega),eB (n:=j) rfl hj]
  exact h i j (by omega) hj hij
 ·intro h i j hi hj hij;have:=h i j hij hj
  rwa [eB (n:=i) rfl (by omega),eB (n:=j) rfl hj] at this
theorem But.done {s:List Int} {k:Nat} (hb:But s k) (h:k=0∨idx s ((k - 1:Nat):Int)≤idx s (k:Int)):s.Pairwise (· ≤ ·):=by
 rw [Lb]
 intro i j hij hj
 by_cases hi:i=k
 ·subst hi; exact hb.2 j hij hj
 ·by_cases hjk:j=k
  ·subst hjk;rcases h with h | h
   ·omega
   ·by_cases a0:i=j - 1
    ·subst a0; exact h
    ·exact Int.le_trans (hb.1 i (j - 1) (by omega) (by omega) hi (by omega)) h
  ·exact hb.1 i j hij hj hi hjk
theorem But.swap {s:List Int} {k:Nat} (hb:But s k) (hk:0 < k) (hl:k < s.length) (h:idx s (k:Int) < idx s ((k - 1:Nat):Int)):But ((s.set k (idx s ((k - 1:Nat):Int))).set (k - 1) (idx s (k:Int))) (k - 1):=by
 have at_:∀ q:Nat,idx ((s.set k (idx s ((k - 1:Nat):Int))).set (k - 1) (idx s (k:Int))) (q:Int)=if q=k - 1 then idx s (k:Int) else if q=k then idx s ((k - 1:Nat):Int) else idx s (q:Int):=fun q=>by
  rw [oU (by rw [List.length_set]; omega),oU hl]
 constructor
 ·intro i j hij hj hi a0
  simp only [List.length_set] at hj
  rw [at_,at_,if_neg hi,if_neg a0]
  by_cases hik:i=k
  ·rw [if_pos hik,if_neg (by omega)]
   exact hb.1 (k - 1) j (by omega) hj (by omega) (by omega)
  ·rw [if_neg hik]
   by_cases hjk:j=k
   ·rw [if_pos hjk]
    exact hb.1 i (k - 1) (by omega) (by omega) hik (by omega)
   ·rw [if_neg hjk]
    exact hb.1 i j hij hj hik hjk
 ·intro j a1 hj
  simp only [List.length_set] at hj
  rw [at_,at_,if_pos rfl,if_neg (by omega)]
  by_cases hjk:j=k
  ·rw [if_pos hjk]; omega
  ·rw [if_neg hjk]; exact hb.2 j (by omega) hj
theorem Gi {l:List Int} (hl:l.length < 2 ^ 40):bB l=some (srt l):=by
 refine gI.1 ?_;unfold bB;refine eZ (k0:=0) l.length (fun k s=>s.2=(k:Int)∧s.1.Perm (l.take k)∧s.1.Pairwise (· ≤ ·)) (Nat.zero_le _) ⟨rfl,by simp,List.Pairwise.nil⟩ ?_
 rintro k ⟨s,x⟩ hk ⟨rfl,hp,hs⟩;have hw:w64 ((k:Int) + 1)=((k + 1:Nat):Int):=bN (by omega)
 dsimp only at hp hs
 have hsl:s.length=k:=by have:=hp.length_eq; rw [List.length_take] at this; omega
 unfold nD
 dsimp only
 refine aA (fun h1 => ?_) (fun h1 => ?_)
 ·have a0:k < l.length:=by omega
  refine ax (by omega) (ax (by omega) ?_);have e1:w64 (((s++[idx l (k:Int)]).length:Int) - 1)=(k:Int):=by
   rw [List.length_append,List.length_singleton,hsl,oJ (by omega) (by omega)]; omega
  rw [e1]
  have a1:But (s++[idx l (k:Int)]) k:=by
   refine ⟨fun i j hij hj hi hjk => ?_,fun j a3 hj => ?_⟩
   ·rw [List.length_append,List.length_singleton] at hj
    rw [jH (by omega),jH (by omega)]
    exact Lb.1 hs i j hij (by omega)
   ·rw [List.length_append,List.length_singleton] at hj
    omega
  refine eZ (k0:=0) k (fun q t=>∃ p:Nat,p + q=k∧t.2=(p:Int)∧t.1.Perm (l.take (k + 1))∧But t.1 p) (Nat.zero_le _) ⟨k,rfl,rfl,by rw [lW a0]; exact hp.append_right _,a1⟩ ?_
  rintro q ⟨t,y⟩ hq ⟨p,hpq,rfl,htp,hbt⟩
  dsimp only at htp hbt
  have htl:t.length=k + 1:=by have:=htp.length_eq; rw [List.length_take] at this; omega
  unfold nC ku nA
  dsimp only
  have stop:(p=0∨idx t ((p - 1:Nat):Int)≤idx t (p:Int))→Upm l.length k (fun k s=>s.2=(k:Int)∧s.1.Perm (l.take k)∧s.1.Pairwise (· ≤ ·)) (fun r=>r=srt l) (.inl (t,w64 ((k:Int) + 1))):=fun h2=>⟨a0,hw,htp,hbt.done h2⟩;refine aA (fun h2 => ?_) (fun h2 => ?_)
  ·have a2:0 < p:=by omega
   have e2:w64 ((p:Int) - 1)=((p - 1:Nat):Int):=by rw [oJ (by omega) (by omega)]; omega
   rw [e2]
   refine ax (by omega) (ax (by omega) ?_);refine aA (fun h3 => ?_) (fun h3 => ?_)
   ·refine ax (by omega) (ax (by omega) (aj ⟨by omega,p - 1,by omega,rfl,?_,?_⟩))
    ·dsimp only
     rw [Int.toNat_natCast,Int.toNat_natCast,eB (n:=p - 1) rfl (by omega),eB (n:=p) rfl (by omega)]
     exact (List.set_set_perm (by omega) (by omega)).trans htp
    ·dsimp only
     rw [Int.toNat_natCast,Int.toNat_natCast]
     exact hbt.swap a2 (by omega) h3
   ·exact aK (aj (stop (.inr (by omega))))
  ·exact aA (fun h=>absurd h (by simp)) (fun _=>aK (aj (stop (.inl (by omega)))))
 ·have:k=l.length:=by omega
  subst this
  rw [List.take_length] at hp
  exact aK (aj (La hp hs))
def fin (ty:Int) (w:List Int):List Int:=if ty=1 then w.drop (w.length - 1) else if ty=3 then srt w else if ty=4 then [w64 w.sum] else w
theorem MI {ty:Int} {w:List Int}:(fin ty w).length≤w.length + 1:=by
 unfold fin
 split
 ·rw [List.length_drop]; omega
 ·split
  ·rw [List.length_mergeSort]; omega
  ·split
   ·simp
   ·omega
theorem Gj {α:Type} (l:List α) {n:Nat} (hn:n≤l.length):eD l (n:Int) (l.length:Int)=l.drop n:=by
 unfold eD
 rw [Int.toNat_natCast,Int.toNat_natCast,List.take_length]
theorem Gl {st:cK} {key ty:Int} {w:List Int} (hT:fw st.h key=some ty) (hw:w.length < 2 ^ 40):iN st key w=some (fin ty w):=by
 refine gI.1 ?_;unfold iN;refine dM hT ?_;unfold fin;refine aA (fun h1 => ?_) (fun h1 => ?_)
 ·rw [if_pos h1]
  have e:CJ 0 (w64 ((w.length:Int) - 1))=((w.length - 1:Nat):Int):=by
   rw [oJ (by omega) (by omega)]
   unfold CJ
   split <;> omega
  rw [e]
  refine ax (by omega) (aj ?_);exact Gj w (by omega)
 ·rw [if_neg h1]
  refine aA (fun h2 => ?_) (fun h2 => ?_)
  ·rw [if_pos h2]
   unfold qy jT
   rw [lX _ (by omega)]
   exact cz (aj rfl)
  ·rw [if_neg h2]
   refine aA (fun h3 => ?_) (fun h3 => ?_)
   ·rw [if_pos h3]
    refine eZ (k0:=0) w.length (fun k s=>s.2=(k:Int)∧s.1=Fh 0 (w.take k)) (Nat.zero_le _) ⟨rfl,rfl⟩ ?_;rintro k ⟨x,i⟩ hk ⟨rfl,hx⟩
    dsimp only at hx
    have hw:w64 ((k:Int) + 1)=((k + 1:Nat):Int):=bN (by omega);unfold mZ
    dsimp only
    rw [hw]
    refine aA (fun h4 => ?_) (fun h4 => ?_)
    ·have a0:k < w.length:=by omega
     exact ax (by omega) (aj ⟨a0,rfl,by dsimp only; rw [EF a0,hx]⟩)
    ·have:k=w.length:=by omega
     subst this;refine aK (aj ?_)
     rw [hx,List.take_length,EH]
     rfl
   ·rw [if_neg h3]
    exact aj rfl
theorem IX {ty:Int} {w:List Int} (hw:w.length < 2 ^ 40):gy ty w=some (fin ty w):=by
 refine gI.1 ?_;unfold gy eO;unfold fin;refine aA (fun h1 => ?_) (fun h1 => ?_)
 ·rw [if_pos h1]
  refine aA (fun h2 => ?_) (fun h2 => ?_)
  ·have e:w64 ((w.length:Int) - 1)=((w.length - 1:Nat):Int):=by
    rw [oJ (by omega) (by omega)]; omega
   rw [e]
   refine ax (by omega) (aj ?_);exact Gj w (by omega)
  ·have:w=[]:=List.length_eq_zero_iff.1 (by omega);subst this;exact aj rfl
 ·rw [if_neg h1]
  refine aA (fun h2 => ?_) (fun h2 => ?_)
  ·rw [if_pos h2]
   exact dM (Gi hw) (aj rfl)
  ·rw [if_neg h2]
   refine aA (fun h3 => ?_) (fun h3 => ?_)
   ·rw [if_pos h3]
    refine eZ (k0:=0) w.length (fun k s=>s.2=(k:Int)∧s.1=Fh 0 (w.take k)) (Nat.zero_le _) ⟨rfl,rfl⟩ ?_;rintro k ⟨x,i⟩ hk ⟨rfl,hx⟩
    dsimp only at hx
    have hw:w64 ((k:Int) + 1)=((k + 1:Nat):Int):=bN (by omega);unfold nE eO
    dsimp only
    rw [hw]
    refine aA (fun h4 => ?_) (fun h4 => ?_)
    ·have a0:k < w.length:=by omega
     exact ax (by omega) (aj ⟨a0,rfl,by dsimp only; rw [EF a0,hx]⟩)
    ·have:k=w.length:=by omega
     subst this;refine aK (aj ?_)
     rw [hx,List.take_length,EH]
     rfl
   ·rw [if_neg h3]
    exact aj rfl
def wrs (h:History) (l:List Int) (key:Int):List Int:=l.flatMap (fun o=>qM h o key)
def sN (h:History) (l:List Int) (key t:Int):List Int:=if 0≤t then wrs h (l.take (pos l t + 1)) key else []
section
variable {h:History} {l:List Int}
theorem DC {key:Int} {k:Nat} (hk:k < l.length):wrs h (l.take (k + 1)) key=wrs h (l.take k) key++qM h (idx l (k:Int)) key:=by
 unfold wrs
 rw [lW hk,List.flatMap_append]
 simp
theorem Ns (hS:oh h) {o key:Int} (ho:0≤o∧o < (h.Txns.length:Int)):(qM h o key).length≤16:=by
 obtain ⟨n,rfl⟩:∃ n:Nat,o=(n:Int):=⟨o.toNat,by omega⟩
 exact Nat.le_trans Gf (hS.txn n (by omega)).ops.1
theorem zn (hS:oh h) (ho:lw h l) {key:Int}:∀ k,k≤l.length→(wrs h (l.take k) key).length≤16 * k
 | 0,_=>by simp [wrs]
 | k + 1,hk=>by
  have h1:=zn hS ho (key:=key) k (by omega);have h2:=ho.rg _ (tQ (show k < l.length by omega));have h3:=Ns hS (key:=key) ⟨h2.1,h2.2.1⟩
  rw [DC (by omega),List.length_append]
  omega
theorem Gm (hS:oh h) (ho:lw h l) {key t:Int}:(sN h l key t).length≤512:=by
 unfold sN
 split
 ·have h1:=ho.len;have h2:=hS.len;rcases Nat.lt_or_ge (pos l t) l.length with h3 | h3
  ·have:=zn hS ho (key:=key) (pos l t + 1) (by omega)
   omega
  ·have:=zn hS ho (key:=key) l.length (Nat.le_refl _)
   rw [List.take_of_length_le (by omega)]
   rw [List.take_length] at this
   omega
 ·simp
theorem Fp (hS:oh h) (ho:lw h l) {m:List (Int×Int)} (hm:yU l m) {key ty t:Int} (hT:fw h key=some ty) (ht:t < 0∨t ∈ l) :
  aD ⟨h,l,m⟩ key t=some (fin ty (sN h l key t)):=by
 have hll:=ho.len;have a3:=hS.len;have ha:=Gm hS ho (key:=key) (t:=t);refine gI.1 ?_;unfold aD;refine aA (fun h1 => ?_) (fun h1 => ?_)
 ·have htm:t ∈ l:=by rcases ht with h | h; omega; exact h
  have hp:=Aw.2 htm;have e:w64 (mat m t + 1)=((pos l t + 1:Nat):Int):=by rw [hm.at_ t htm]; exact bN (by omega)
  dsimp only
  rw [e]
  refine ax (by omega) ?_;have haa:sN h l key t=wrs h (l.take (pos l t + 1)) key:=if_pos (by omega)
  rw [haa] at ha ⊢
  refine eZ (k0:=0) (pos l t + 1) (fun k s=>s=(wrs h (l.take k) key,(k:Int))) (Nat.zero_le _) rfl ?_;rintro k s hk rfl;have hw:w64 ((k:Int) + 1)=((k + 1:Nat):Int):=bN (by omega);have hkl:=zn hS ho (key:=key) k (by omega);have hsub:eD l (0:Int) ((pos l t + 1:Nat):Int)=l.take (pos l t + 1):=rM (by omega);unfold ni
  dsimp only
  rw [e,hsub,List.length_take,Nat.min_eq_left (by omega)]
  refine aA (fun h2 => ?_) (fun h2 => ?_)
  ·have a1:k < pos l t + 1:=by omega
   rw [uJ a1]
   have hr:=ho.rg _ (tQ (show k < l.length by omega));refine ax (by omega) (ax ⟨hr.1,hr.2.1⟩ ?_);have a5:(idx h.Txns (idx l (k:Int))).Ops.length≤16:=by
    obtain ⟨n,hn⟩:∃ n:Nat,idx l (k:Int)=(n:Int):=⟨(idx l (k:Int)).toNat,by omega⟩
    rw [hn] at hr ⊢
    exact (hS.txn n (by omega)).ops.1
   refine eZ (k0:=0) (idx h.Txns (idx l (k:Int))).Ops.length (fun p s=>s=(wrs h (l.take k) key++tN (idx h.Txns (idx l (k:Int))).Ops key p,(p:Int))) (Nat.zero_le _) (by rw [Jy,List.append_nil]; rfl) ?_;rintro p s a4 rfl;have a2:w64 ((p:Int) + 1)=((p + 1:Nat):Int):=bN (by omega);have hol:=uI (ops:=(idx h.Txns (idx l (k:Int))).Ops) (key:=key) (p:=p);unfold ng jV jU
   dsimp only
   rw [e,hsub,uJ a1,a2]
   refine aA (fun h3 => ?_) (fun h3 => ?_)
   ·have a0:p < (idx h.Txns (idx l (k:Int))).Ops.length:=by omega
    have hos:=wV (key:=key) a0;refine ax (by omega) ?_;refine aA (fun h4 => ?_) (fun h4 => ?_)
    ·refine aA (fun h5 => ?_) (fun h5 => ?_)
     ·refine ax (by rw [List.length_append]; omega) (aj ⟨a0,?_⟩)
      rw [if_pos ⟨h4,h5⟩] at hos
      rw [hos,List.append_assoc]
     ·refine aj ⟨a0,?_⟩
      rw [if_neg (fun h=>h5 h.2)] at hos
      rw [hos]
    ·refine aA (fun h5=>absurd h5 (by simp)) (fun h5=>aj ⟨a0,?_⟩)
     rw [if_neg (fun h=>h4 h.1)] at hos
     rw [hos]
   ·have:p=(idx h.Txns (idx l (k:Int))).Ops.length:=by omega
    subst this;refine aK (aj ⟨a1,?_⟩)
    dsimp only
    rw [hw,DC (by omega)]
    rfl
  ·have:k=pos l t + 1:=by omega
   subst this;exact aK (gI.2 (Gl hT (by omega)))
 ·have haa:sN h l key t=[]:=if_neg (by omega)
  rw [haa]
  exact gI.2 (Gl hT (by simp))
theorem Gn (hS:oh h) (ho:lw h l) {key ty t:Int} (ht:t < 0∨t ∈ l):aN h l ty key t=some (fin ty (sN h l key t)):=by
 have hll:=ho.len;have a3:=hS.len;refine gI.1 ?_;unfold aN;refine eZ (k0:=0) (l.length + 1) (fun k s=>s=(wrs h (l.take k) key,(k:Int))∧k≤l.length∧(0≤t→k≤pos l t)∧(t < 0→k=0)) (Nat.zero_le _) ⟨rfl,Nat.zero_le _,fun _=>Nat.zero_le _,fun _=>rfl⟩ ?_;rintro k s hk ⟨rfl,hkl,hkp,a1⟩;have hw:w64 ((k:Int) + 1)=((k + 1:Nat):Int):=bN (by omega);have a2:=zn hS ho (key:=key) k hkl;unfold nG kw
 dsimp only
 rw [hw]
 by_cases htn:t < 0
 ·have:k=0:=a1 htn;subst this;have haa:sN h l key t=[]:=if_neg (by omega);have hj:Tri (out (σ:=List Int×Int) (gy ty (wrs h (l.take 0) key))) (Upm (l.length + 1) 0 (fun k s=>s=(wrs h (l.take k) key,(k:Int))∧k≤l.length∧(0≤t→k≤pos l t)∧(t < 0→k=0)) (fun r=>r=fin ty (sN h l key t))):=by
   rw [haa]
   exact aK (gI.2 (IX (by simp [wrs])))
  refine aA (fun h1 => ?_) (fun h1=>aA (fun h2=>absurd h2 (by simp)) (fun _=>hj));exact aA (fun h2=>by omega) (fun _=>hj)
 ·have htm:t ∈ l:=by rcases ht with h | h; exact absurd h htn; exact h
  have hp:=Aw.2 htm;have hkp:=hkp (by omega);have a0:k < l.length:=by omega
  have hr:=ho.rg _ (tQ a0);have a4:=Ns hS (key:=key) ⟨hr.1,hr.2.1⟩;refine aA (fun h1 => ?_) (fun h1=>by omega);refine aA (fun h2 => ?_) (fun h2=>by omega);have hW:aX h (idx l (k:Int)) key=some (qM h (idx l (k:Int)) key):=by
   obtain ⟨n,hn⟩:∃ n:Nat,idx l (k:Int)=(n:Int):=⟨(idx l (k:Int)).toNat,by omega⟩
   rw [hn] at hr ⊢
   exact Dx ⟨by omega,by omega⟩ (hS.txn n (by omega)).ops.1
  refine ax (by omega) (dM hW (ax (by omega) ?_))
  rw [← DC a0]
  refine aA (fun h3 => ?_) (fun h3 => ?_)
  ·have e:pos l t=k:=Nz ho.nd a0 h3;have haa:sN h l key t=wrs h (l.take (k + 1)) key:=by unfold sN; rw [if_pos (by omega),e]
   rw [haa]
   have:=zn hS ho (key:=key) (k + 1) (by omega);exact aK (gI.2 (IX (by omega)))
  ·refine aj ⟨by omega,rfl,by omega,fun _ => ?_,fun h=>absurd h htn⟩
   rcases Nat.lt_or_ge k (pos l t) with h4 | h4
   ·omega
   ·have:k=pos l t:=by omega
    rw [this,tT htm] at h3
    exact absurd rfl h3
end
end Go.Proofs.YtfpeabnehpclnaaGreatT
namespace Go.Proofs.YtfpeabnehpclnaaGreatT
open Go Go.Proofs Go.Proofs.YtfpeabnehpclnaaGreatE
set_option linter.unusedVariables false
set_option linter.unusedSimpArgs false
theorem Lc {m:List (Int×Int)} {x:Int} (h:ma m x=false):mat m x=0 :=
 (wY (fun k hk e=>by
  have:=IW.2 (e ▸ hk)
  rw [h] at this
  cases this)).1
theorem Gp {h:History} {a:Ask} (ha:a ∈ eG h h.Txns.length):∃ t:Nat,a.Txn=(t:Int)∧t < h.Txns.length∧(idx h.Txns (t:Int)).Status=1:=by
 unfold eG at ha;obtain ⟨t,ht,ha⟩:=List.mem_flatMap.1 ha;have ht:=List.mem_range.1 ht;unfold sM at ha
 split at ha
 case isFalse=>cases ha
 case isTrue hst =>
 unfold sK at ha;obtain ⟨p,hp,ha⟩:=List.mem_flatMap.1 ha;refine ⟨t,?_,ht,hst⟩;unfold Bp at ha
 dsimp only at ha
 split at ha
 ·cases ha
 ·split at ha
  ·rw [List.mem_singleton] at ha
   rw [ha]
  ·split at ha
   ·rw [List.mem_singleton] at ha
    rw [ha]
   ·cases ha
def Fq (h:History) (l:List Int):Prop:=∀ i k:Nat,k < i→i < h.Txns.length→(idx h.Txns (i:Int)).Proc=(idx h.Txns (k:Int)).Proc→(i:Int) ∈ l→(k:Int) ∈ l→pos l (k:Int) < pos l (i:Int)
def Ahead (h:History) (l:List Int) (a:Ask) (p:Int):Prop:=p ∈ l∧pos l p < pos l a.Txn∧0 < (qM h p a.Key).length
def kd (h:History) (a:Ask):Int:=typ (opAt h a.Txn a.Place).Kind
def ver (h:History) (l:List Int) (a:Ask) (p:Int):List Int:=fin (kd h a) (sN h l a.Key p)
open Classical in
noncomputable def qN (h:History) (l:List Int) (a:Ask) (p:Int):Int:=if p ≠ -1 ∧ ¬ Ahead h l a p then 5 else if ver h l a p≠a.Base then 6 else 0
def First (n:Nat) (v:Nat→Int) (r:Int):Prop:=(r=0∧∀ i,i < n→v i=0)∨(∃ i,i < n∧v i=r∧r≠0∧∀ j,j < i→v j=0)
theorem First.det {n:Nat} {v:Nat→Int} {r s:Int} (h1:First n v r) (h2:First n v s):r=s:=by
 rcases h1 with ⟨rfl,h1⟩ | ⟨i,hi,e1,n1,b1⟩ <;> rcases h2 with ⟨rfl,h2⟩ | ⟨j,hj,e2,n2,b2⟩
 ·rfl
 ·exact absurd (e2.symm.trans (h1 j hj)) n2
 ·exact absurd (e1.symm.trans (h2 i hi)) n1
 ·rcases Nat.lt_trichotomy i j with h | h | h
  ·exact absurd (e1.symm.trans (b2 i h)) n1
  ·subst h; exact e1.symm.trans e2
  ·exact absurd (e2.symm.trans (b1 j h)) n2
theorem First.congr {n:Nat} {v u:Nat→Int} {r:Int} (h:First n v r) (e:∀ i,i < n→v i=u i):First n u r:=by
 rcases h with ⟨h1,h2⟩ | ⟨i,hi,e1,n1,b1⟩
 ·exact .inl ⟨h1,fun i hi=>(e i hi).symm.trans (h2 i hi)⟩
 ·exact .inr ⟨i,hi,(e i hi).symm.trans e1,n1,fun j hj=>(e j (by omega)).symm.trans (b1 j hj)⟩
inductive Why (h:History) (x:Exec):Int→Prop
 | bad:iU h h.Txns.length≠[]→Why h x 1
 | order:iU h h.Txns.length=[] → ¬ lw h x.Order→Why h x 2
 | picks:iU h h.Txns.length=[]→lw h x.Order→x.Picks.length≠(eG h h.Txns.length).length→Why h x 3
 | sess:iU h h.Txns.length=[]→lw h x.Order→x.Picks.length=(eG h h.Txns.length).length → ¬ Fq h x.Order→Why h x 4
 | pick {r:Int}:iU h h.Txns.length=[]→lw h x.Order→x.Picks.length=(eG h h.Txns.length).length→Fq h x.Order →
   First (eG h h.Txns.length).length (fun i=>qN h x.Order (idx (eG h h.Txns.length) (i:Int)) (idx x.Picks (i:Int))) r→Why h x r
theorem Why.det {h:History} {x:Exec} {r s:Int} (h1:Why h x r) (h2:Why h x s):r=s:=by
 cases h1 <;> cases h2 <;> first | rfl | contradiction | exact First.det ‹_› ‹_›
section
variable {h:History} {l:List Int} {m:List (Int×Int)}
theorem Ia (hS:oh h) (hc:aZ h=some 0) (ho:lw h l) (hm:yU l m) {a:Ask} (ha:a ∈ eG h h.Txns.length) {p:Int}:Tri (fD ⟨h,l,m⟩ a p) (fun r=>r=true↔Ahead h l a p):=by
 obtain ⟨t,et,ht,hst⟩:=Gp ha;have htl:=ho.dn t ht hst;unfold fD lG
 dsimp only
 rw [hm.hasB]
 refine aA (fun h1 => ?_) (fun h1 => ?_)
 ·rw [cond_true]
  exact aj ⟨fun h=>(nomatch h),fun h2=>absurd h2.1 h1⟩
 ·have hp:p ∈ l:=Classical.byContradiction h1
  rw [hm.at_ p hp,et,hm.at_ _ htl]
  refine aA (fun h2=>aj ⟨fun h=>(nomatch h),fun h3 => ?_⟩) (fun h2 => ?_)
  ·have:=h3.2.1
   rw [et] at this
   omega
  ·refine dM (Hz hS hc) (aj ?_);have hr:=ho.rg p hp
   rw [if_pos ⟨hr.1,hr.2.1⟩]
   dsimp only
   rw [decide_eq_true_iff]
   exact ⟨fun h3=>⟨hp,by rw [et]; omega,h3⟩,fun h3=>h3.2.2⟩
theorem JC (ho:lw h l) (a1:h.Txns.length≤32) (hm:yU l m):Tri (bH ⟨h,l,m⟩) (fun r=>r=true↔Fq h l):=by
 unfold bH;refine eZ (k0:=0) h.Txns.length (fun k s=>s.2=(k:Int)∧(∀ t:Nat,t < k→(t:Int) ∈ l→ma s.1 (idx h.Txns (t:Int)).Proc=true∧(pos l (t:Int):Int)≤mat s.1 (idx h.Txns (t:Int)).Proc) ∧
  (∀ q,ma s.1 q=true→∃ t:Nat,t < k∧(t:Int) ∈ l∧(idx h.Txns (t:Int)).Proc=q∧mat s.1 q=(pos l (t:Int):Int)) ∧
  ∀ i j:Nat,j < i→i < k→(idx h.Txns (i:Int)).Proc=(idx h.Txns (j:Int)).Proc→(i:Int) ∈ l→(j:Int) ∈ l→pos l (j:Int) < pos l (i:Int)) (Nat.zero_le _)
  ⟨rfl,fun t ht=>absurd ht (Nat.not_lt_zero _),fun q hq=>(by rw [Gu] at hq; cases hq),fun i j h1 h2=>absurd h2 (Nat.not_lt_zero _)⟩ ?_
 rintro k ⟨s,x⟩ hk ⟨rfl,i1,i2,i3⟩;have hw:w64 ((k:Int) + 1)=((k + 1:Nat):Int):=bN (by omega)
 dsimp only at i1 i2 i3
 unfold mr jF jE
 dsimp only
 rw [hw,hm.hasB]
 refine aA (fun h1 => ?_) (fun h1 => ?_)
 ·have a0:k < h.Txns.length:=by omega
  refine ax (by omega) ?_;refine aA (fun h2 => ?_) (fun h2 => ?_)
  ·refine aj ⟨a0,rfl,fun t ht htl => ?_,fun q hq => ?_,fun i j hij hi hp hil hjl => ?_⟩
   ·have:t≠k:=fun e=>h2 (e ▸ htl);exact i1 t (by omega) htl
   ·obtain ⟨t,q1,q2⟩:=i2 q hq;exact ⟨t,by omega,q2⟩
   ·have:i≠k:=fun e=>h2 (e ▸ hil);exact i3 i j hij (by omega) hp hil hjl
  ·have hkl:(k:Int) ∈ l:=Classical.byContradiction h2
   rw [hm.at_ _ hkl]
   have go:(∀ t:Nat,t < k→(t:Int) ∈ l→(idx h.Txns (k:Int)).Proc=(idx h.Txns (t:Int)).Proc→pos l (t:Int) < pos l (k:Int)) →
     Upm h.Txns.length k (fun k s=>s.2=(k:Int)∧(∀ t:Nat,t < k→(t:Int) ∈ l→ma s.1 (idx h.Txns (t:Int)).Proc=true∧(pos l (t:Int):Int)≤mat s.1 (idx h.Txns (t:Int)).Proc) ∧
      (∀ q,ma s.1 q=true→∃ t:Nat,t < k∧(t:Int) ∈ l∧(idx h.Txns (t:Int)).Proc=q∧mat s.1 q=(pos l (t:Int):Int)) ∧
      ∀ i j:Nat,j < i→i < k→(idx h.Txns (i:Int)).Proc=(idx h.Txns (j:Int)).Proc→(i:Int) ∈ l→(j:Int) ∈ l→pos l (j:Int) < pos l (i:Int)) (fun r=>r=true↔Fq h l)
      (.inl (iA s (idx h.Txns (k:Int)).Proc (CJ (pos l (k:Int):Int) (mat s (idx h.Txns (k:Int)).Proc)),((k + 1:Nat):Int))):=fun hno=>by
    have hmax:CJ (pos l (k:Int):Int) (mat s (idx h.Txns (k:Int)).Proc)=(pos l (k:Int):Int):=by
     unfold CJ
     split
     ·rename_i hlt
      by_cases hh:ma s (idx h.Txns (k:Int)).Proc=true
      ·obtain ⟨t,q1,q2,q3,q4⟩:=i2 _ hh;have:=hno t q1 q2 q3.symm
       omega
      ·have e0:mat s (idx h.Txns (k:Int)).Proc=0:=Lc (by simpa using hh)
       omega
     ·rfl
    rw [hmax]
    refine ⟨a0,rfl,fun t ht htl => ?_,fun q hq => ?_,fun i j hij hi hp hil hjl => ?_⟩
    ·dsimp only
     rw [yX,rV]
     by_cases hp:(idx h.Txns (t:Int)).Proc=(idx h.Txns (k:Int)).Proc
     ·rw [if_pos hp]
      refine ⟨.inl hp,?_⟩
      by_cases htk:t=k
      ·rw [htk]; omega
      ·have:=hno t (by omega) htl hp.symm
       omega
     ·rw [if_neg hp]
      have htk:t≠k:=fun e=>hp (by rw [e]);obtain ⟨q1,q2⟩:=i1 t (by omega) htl;exact ⟨.inr q1,q2⟩
    ·dsimp only at hq ⊢
     rw [yX] at hq
     rw [rV]
     by_cases hp:q=(idx h.Txns (k:Int)).Proc
     ·rw [if_pos hp]
      exact ⟨k,by omega,hkl,hp.symm,rfl⟩
     ·rw [if_neg hp]
      rcases hq with hq | hq
      ·exact absurd hq hp
      ·obtain ⟨t,q1,q2⟩:=i2 q hq;exact ⟨t,by omega,q2⟩
    ·rcases Nat.lt_or_ge i k with h5 | h5
     ·exact i3 i j hij h5 hp hil hjl
     ·have:i=k:=by omega
      subst this;exact hno j hij hjl hp
   refine aA (fun h3 => ?_) (fun h3 => ?_)
   ·obtain ⟨t,q1,q2,q3,q4⟩:=i2 _ h3;refine aA (fun h4 => ?_) (fun h4=>aj (go (fun u hu hul hpu => ?_)))
    ·refine aK (aj ⟨fun h=>(nomatch h),fun hs => ?_⟩);have:=hs k t q1 a0 q3.symm hkl q2
     omega
    ·have h5:=(i1 u hu hul).2
     rw [← hpu] at h5
     have h6:pos l (u:Int)≠pos l (k:Int):=fun e=>by
      have h7:=tT hul
      rw [e,tT hkl] at h7
      omega
     omega
   ·refine aA (fun h4=>absurd h4 (by simp)) (fun h4=>aj (go (fun u hu hul hpu => ?_)));have h5:=(i1 u hu hul).1
    rw [← hpu] at h5
    exact absurd h5 h3
 ·have:k=h.Txns.length:=by omega
  subst this;exact aK (aj ⟨fun _=>i3,fun _=>rfl⟩)
theorem Nt {a:Ask} {t p:Nat} (hk:Nr h a t p):kd h a=typ (opAt h (t:Int) (p:Int)).Kind:=by
 unfold kd
 rw [hk.e1,hk.e2]
theorem Ld (hS:oh h) (hc:aZ h=some 0) {a:Ask} (ha:a ∈ eG h h.Txns.length):fw h a.Key=some (kd h a):=by
 obtain ⟨t,p,hk⟩:=KZ hS ha
 rw [Nt hk]
 exact JA hS hc hk.tl hk.pl hk.e3.symm
theorem IY (hS:oh h) (ho:lw h l) {a:Ask} {p:Int}:(ver h l a p).length≤513:=by
 have h1:=MI (ty:=kd h a) (w:=sN h l a.Key p);have h2:=Gm hS ho (key:=a.Key) (t:=p);unfold ver
 omega
theorem Gq (hs:wC h) (hS:oh h) (hc:aZ h=some 0) {x:Exec} (hl:x.Order.length < 2 ^ 50) (hpl:x.Picks.length < 2 ^ 50):Tri (iO h x) (fun r=>r.2=0∧Why h x r.1):=by
 have a1:=hS.len;obtain ⟨n1,n2,_⟩:=zm hS h.Txns.length (Nat.le_refl _);have hA:nQ h=some (eG h h.Txns.length,0):=by unfold nQ; rw [Gc hs hS hc]; rfl
 have hB:wJ h=some (iU h h.Txns.length,0):=by unfold wJ; rw [Gc hs hS hc]; rfl
 unfold iO;refine dM hA ?_;refine aA (fun h1=>absurd rfl h1) (fun _ => ?_);refine dM hB ?_;refine aA (fun h1 => ?_) (fun h1 => ?_)
 ·exact aj ⟨rfl,.bad (fun e=>by dsimp only at h1; rw [e] at h1; simp at h1)⟩
 have hsp:iU h h.Txns.length=[]:=List.length_eq_zero_iff.1 (by dsimp only at h1; omega);refine ig (JB a1 (by omega)) (fun r hr => ?_);obtain ⟨⟨rh,ro,rm⟩,rb⟩:=r;obtain ⟨e1,e2,e3,e4⟩:=hr
 dsimp only at e1 e2 e3 e4
 subst e1 e2;refine aA (fun h2 => ?_) (fun h2 => ?_)
 ·exact aj ⟨rfl,.order hsp (fun ho=>h2 (e3.2 ho))⟩
 have ho:=e3.1 (by simpa using h2);have hm:=e4 (by simpa using h2)
 dsimp only
 refine aA (fun h3 => ?_) (fun h3 => ?_)
 ·exact aj ⟨rfl,.picks hsp ho (fun e=>h3 (by rw [e]))⟩
 have hpe:x.Picks.length=(eG rh rh.Txns.length).length:=by
  have:¬ ¬ ((x.Picks.length:Int)=((eG rh rh.Txns.length).length:Int)):=h3
  omega
 refine ig (JC ho a1 hm) (fun b hb => ?_);refine aA (fun h4 => ?_) (fun h4 => ?_)
 ·exact aj ⟨rfl,.sess hsp ho hpe (fun hq=>h4 (hb.2 hq))⟩
 have hq:=hb.1 (by simpa using h4);generalize hAs:eG rh rh.Txns.length=aL at hpe n1 hA
 suffices hloop:Tri (iter (vw x (aL,0) (⟨rh,x.Order,rm⟩,rb)) 0) (fun r=>r.2=0∧First aL.length (fun i=>qN rh x.Order (idx aL (i:Int)) (idx x.Picks (i:Int))) r.1) from
  fq hloop (fun r hr=>⟨hr.1,.pick hsp ho (by rw [hAs]; exact hpe) hq (by rw [hAs]; exact hr.2)⟩)
 refine eZ (k0:=0) aL.length (fun k s=>s=(k:Int)∧∀ i,i < k→qN rh x.Order (idx aL (i:Int)) (idx x.Picks (i:Int))=0) (Nat.zero_le _) ⟨rfl,fun i hi=>absurd hi (Nat.not_lt_zero _)⟩ ?_;rintro k s hk ⟨rfl,hz⟩;have hw:w64 ((k:Int) + 1)=((k + 1:Nat):Int):=bN (by omega);unfold vw vv
 dsimp only
 rw [hw]
 refine aA (fun h5 => ?_) (fun h5 => ?_)
 ·have a0:k < aL.length:=by omega
  have ham:idx aL (k:Int) ∈ eG rh rh.Txns.length:=by rw [hAs]; exact Gh a0
  refine ax (by omega) (ax (by omega) ?_);generalize hpv:idx x.Picks (k:Int)=p;have tail:(p ≠ -1→Ahead rh x.Order (idx aL (k:Int)) p)→Tri (must (0≤(k:Int)∧(k:Int) < (x.Picks.length:Int)) ((aD ⟨rh,x.Order,rm⟩ ((idx aL (k:Int)).Key) p).bind fun y=>(dO y ((idx aL (k:Int)).Base)).bind fun z=>bif !z then out (some (6,0)) else (some (.inl ((k + 1:Nat):Int)))))
    (Upm aL.length k (fun k s=>s=(k:Int)∧∀ i,i < k→qN rh x.Order (idx aL (i:Int)) (idx x.Picks (i:Int))=0) (fun r:Int×Int=>r.2=0∧First aL.length (fun i=>qN rh x.Order (idx aL (i:Int)) (idx x.Picks (i:Int))) r.1)):=fun hah=>by
   have hv:aD ⟨rh,x.Order,rm⟩ ((idx aL (k:Int)).Key) p=some (ver rh x.Order (idx aL (k:Int)) p) :=
    Fp hS ho hm (Ld hS hc ham) (by
     by_cases hp:p = -1
     ·left; omega
     ·exact .inr (hah hp).1)
   have hvl:=IY hS ho (a:=idx aL (k:Int)) (p:=p);refine ax (by omega) (dM hv (dM (Dq (by omega)) ?_));refine aA (fun h6 => ?_) (fun h6 => ?_)
   ·refine aK (aj ⟨rfl,.inr ⟨k,a0,?_,by decide,hz⟩⟩)
    show qN rh x.Order (idx aL (k:Int)) (idx x.Picks (k:Int))=6
    rw [hpv]
    unfold qN
    rw [if_neg (fun h=>h.2 (hah h.1)),if_pos h6]
   ·refine aj ⟨a0,rfl,fun i hi => ?_⟩;rcases Nat.lt_or_ge i k with h7 | h7
    ·exact hz i h7
    ·have:i=k:=by omega
     subst this
     rw [hpv]
     unfold qN
     rw [if_neg (fun h=>h.2 (hah h.1)),if_neg h6]
  refine aA (fun h6 => ?_) (fun h6 => ?_)
  ·refine ig (Ia hS hc ho hm ham) (fun b hb => ?_);refine aA (fun h7 => ?_) (fun h7 => ?_)
   ·refine aK (aj ⟨rfl,.inr ⟨k,a0,?_,by decide,hz⟩⟩)
    show qN rh x.Order (idx aL (k:Int)) (idx x.Picks (k:Int))=5
    rw [hpv]
    unfold qN
    rw [if_pos ⟨h6,fun h=>h7 (hb.2 h)⟩]
   ·exact tail (fun _=>hb.1 (by simpa using h7))
  ·rw [cond_false]
   exact tail (fun h=>absurd h h6)
 ·have:k=aL.length:=by omega
  subst this;exact aK (aj ⟨rfl,.inl ⟨rfl,hz⟩⟩)
theorem IZ (hc:aZ h=some 1) {x:Exec}:iO h x=some (0,1):=by
 unfold iO nQ lM
 rw [hc]
 rfl
end
end Go.Proofs.YtfpeabnehpclnaaGreatT
namespace Go.Proofs.YtfpeabnehpclnaaGreatT
open Go Go.Proofs Go.Proofs.YtfpeabnehpclnaaGreatE
set_option linter.unusedVariables false
set_option linter.unusedSimpArgs false
abbrev XG (x:Exec):Prop:=((∀ y ∈ (x).Order,(Lit.int .i64 y).wf=true)∧((x).Order).length * 8≤140737488351232)∧((∀ y ∈ (x).Picks,(Lit.int .i64 y).wf=true)∧((x).Picks).length * 8≤140737488351232)
section
variable {h:History} {l at_:List Int}
theorem Gr (hS:oh h) (ho:lw h l) (hp:Fj h l at_) {a:Ask} (ha:a ∈ eG h h.Txns.length) {p:Int}:bP h l at_ a p=some (qN h l a p):=by
 have a0:=hS.len;obtain ⟨t,pl,hk⟩:=KZ hS ha;obtain ⟨t',et,ht,hst⟩:=Gp ha;have:t'=t:=by have:=hk.e1.symm.trans et; omega
 subst this;have htl:=ho.dn t' ht hst;have hlen:=hp.len;obtain ⟨k1,k8⟩:=Ff hS hk.tl hk.pl;refine gI.1 ?_;unfold bP;have bad:(p ≠ -1 ∧ ¬ Ahead h l a p)→Tri (dw h l a p true) (fun b=>b=qN h l a p):=fun hb=>by
  unfold dw
  rw [cond_true]
  refine aj ?_;unfold qN
  rw [if_pos hb]
 have good:(p = -1∨Ahead h l a p)→Tri (dw h l a p false) (fun b=>b=qN h l a p):=fun hg=>by
  unfold dw
  rw [cond_false,hk.e1,hk.e2]
  refine ax (by omega) (ax (by have:=hk.pl; omega) ?_);have hO:fI (idx (idx h.Txns (t':Int)).Ops (pl:Int)).Kind=some (kd h a):=by rw [Nt hk]; exact Bl k1 k8
  have hv:aN h l (kd h a) a.Key p=some (ver h l a p):=Gn hS ho (by
   rcases hg with h1 | h1
   ·left; omega
   ·exact .inr h1.1)
  have hvl:=IY hS ho (a:=a) (p:=p);have hn:¬ (p ≠ -1 ∧ ¬ Ahead h l a p):=fun h1=>hg.elim h1.1 h1.2;refine dM hO (dM hv (dM (EA (by omega)) ?_));unfold qN
  rw [if_neg hn]
  refine aA (fun h1 => ?_) (fun h1 => ?_)
  ·rw [if_pos h1]; exact aj rfl
  ·rw [if_neg h1]; exact aj rfl
 refine aA (fun h1 => ?_) (fun h1=>good (.inl (Classical.byContradiction h1)));refine aA (fun h2=>bad ⟨h1,fun h3=>by have:=ho.rg _ h3.1; omega⟩) (fun h2 => ?_);refine aA (fun h3=>bad ⟨h1,fun h4=>by have:=ho.rg _ h4.1; omega⟩) (fun h3 => ?_);obtain ⟨q,rfl⟩:∃ q:Nat,p=(q:Int):=⟨p.toNat,by omega⟩
 have hq:q < h.Txns.length:=by omega
 have hatq:=hp.at_ q hq;have hatt:=hp.at_ t' ht
 rw [if_pos htl] at hatt
 refine ax (by omega) ?_;refine aA (fun h4=>bad ⟨h1,fun h5=>by rw [if_pos h5.1] at hatq; omega⟩) (fun h4 => ?_);have hql:(q:Int) ∈ l:=Classical.byContradiction fun h5=>h4 (by rw [if_neg h5] at hatq; exact hatq)
 rw [if_pos hql] at hatq
 refine dM (Dx ⟨by omega,by omega⟩ (hS.txn q hq).ops.1) ?_
 refine aA (fun h5=>bad ⟨h1,fun h6=>by have:=h6.2.2; omega⟩) (fun h5 => ?_)
 rw [hk.e1]
 refine ax (by omega) ?_
 rw [hatq,hatt]
 by_cases h6:pos l (q:Int) < pos l (t':Int)
 ·rw [decide_eq_false (by omega)]
  exact good (.inr ⟨hql,by rw [hk.e1]; exact h6,by omega⟩)
 ·rw [decide_eq_true (by omega)]
  exact bad ⟨h1,fun h7=>h6 (by have:=h7.2.1; rwa [hk.e1] at this)⟩
theorem JD (hs:wC h) (hS:oh h) {x:Exec} (hl:x.Order.length < 2 ^ 50) (hpl:x.Picks.length < 2 ^ 50):Tri (bz h x) (fun r=>Why h x r):=by
 have a3:=hS.len;obtain ⟨n1,n2,_⟩:=zm hS h.Txns.length (Nat.le_refl _);unfold bz;refine dM (Gd hs hS) ?_
 dsimp only
 refine aA (fun h1 => ?_) (fun h1 => ?_)
 ·exact aj (.bad (fun e=>by rw [e] at h1; simp at h1))
 have hsp:iU h h.Txns.length=[]:=List.length_eq_zero_iff.1 (by omega);refine ig (Cn a3 (by omega)) (fun r hr => ?_);obtain ⟨at_,b⟩:=r;obtain ⟨e1,e2,_⟩:=hr
 dsimp only at e1 e2 ⊢
 refine aA (fun h2=>aj (.order hsp (fun ho=>h2 (e1.2 ho)))) (fun h2 => ?_);have hb:b=true:=by simpa using h2
 have ho:=e1.1 hb;have hp:=e2 hb;have hlen:=hp.len;subst hb;refine aA (fun h3=>aj (.picks hsp ho (fun e=>h3 (by rw [e])))) (fun h3 => ?_);have hpe:x.Picks.length=(eG h h.Txns.length).length:=by
  have:¬ ¬ ((x.Picks.length:Int)=((eG h h.Txns.length).length:Int)):=h3
  omega
 generalize hsl:iU h h.Txns.length=sl
 suffices hloop:Tri (iter (lK h x (eG h h.Txns.length,sl) (at_,true)) 0) (fun r=>(¬ Fq h x.Order∧r=4)∨(Fq h x.Order∧First (eG h h.Txns.length).length (fun i=>qN h x.Order (idx (eG h h.Txns.length) (i:Int)) (idx x.Picks (i:Int))) r)) from
  fq hloop (by
   rintro r (⟨q1,rfl⟩ | ⟨q1,q2⟩)
   ·exact .sess hsp ho hpe q1
   ·exact .pick hsp ho hpe q1 q2)
 generalize hAs:eG h h.Txns.length=aL at hpe n1;refine eZ (k0:=0) h.Txns.length (fun k s=>s=(k:Int)∧∀ i j:Nat,j < i→i < k→(idx h.Txns (i:Int)).Proc=(idx h.Txns (j:Int)).Proc→(i:Int) ∈ x.Order→(j:Int) ∈ x.Order→pos x.Order (j:Int) < pos x.Order (i:Int)) (Nat.zero_le _) ⟨rfl,fun i j h1 h2=>absurd h2 (Nat.not_lt_zero _)⟩ ?_;rintro k s hk ⟨rfl,hno⟩;have hw:w64 ((k:Int) + 1)=((k + 1:Nat):Int):=bN (by omega);unfold lK
 dsimp only
 refine aA (fun h5 => ?_) (fun h5 => ?_)
 ·have a0:k < h.Txns.length:=by omega
  have hatk:=hp.at_ k a0;refine eZ (k0:=0) k (fun j s=>s=(j:Int)∧∀ q:Nat,q < j→(idx h.Txns (k:Int)).Proc=(idx h.Txns (q:Int)).Proc→(k:Int) ∈ x.Order→(q:Int) ∈ x.Order→pos x.Order (q:Int) < pos x.Order (k:Int)) (Nat.zero_le _) ⟨rfl,fun q hq=>absurd hq (Nat.not_lt_zero _)⟩ ?_;rintro j s hj ⟨rfl,hnj⟩;have a4:w64 ((j:Int) + 1)=((j + 1:Nat):Int):=bN (by omega);unfold oI jC
  dsimp only
  rw [a4]
  refine aA (fun h6 => ?_) (fun h6 => ?_)
  ·have a1:j < k:=by omega
   have hatj:=hp.at_ j (by omega);have nx:((idx h.Txns (k:Int)).Proc=(idx h.Txns (j:Int)).Proc→(k:Int) ∈ x.Order→(j:Int) ∈ x.Order→pos x.Order (j:Int) < pos x.Order (k:Int)) →
     Upm k j (fun j s=>s=(j:Int)∧∀ q:Nat,q < j→(idx h.Txns (k:Int)).Proc=(idx h.Txns (q:Int)).Proc→(k:Int) ∈ x.Order→(q:Int) ∈ x.Order→pos x.Order (q:Int) < pos x.Order (k:Int))
      (Upm h.Txns.length k (fun k s=>s=(k:Int)∧∀ i j:Nat,j < i→i < k→(idx h.Txns (i:Int)).Proc=(idx h.Txns (j:Int)).Proc→(i:Int) ∈ x.Order→(j:Int) ∈ x.Order→pos x.Order (j:Int) < pos x.Order (i:Int)) (fun r:Int=>(¬ Fq h x.Order∧r=4)∨(Fq h x.Order∧First aL.length (fun i=>qN h x.Order (idx aL (i:Int)) (idx x.Picks (i:Int))) r)))
      (.inl ((j + 1:Nat):Int)):=fun h7=>⟨a1,rfl,fun q hq=>by
    rcases Nat.lt_or_ge q j with h8 | h8
    ·exact hnj q h8
    ·have:q=j:=by omega
     subst this;exact h7⟩
   refine ax (by omega) (ax (by omega) ?_);refine aA (fun h7 => ?_) (fun h7 => ?_)
   ·refine ax (by omega) ?_;refine aA (fun h8 => ?_) (fun h8 => ?_)
    ·have hkl:(k:Int) ∈ x.Order:=Classical.byContradiction fun h9=>h8 (by rw [if_neg h9] at hatk; exact hatk)
     rw [if_pos hkl] at hatk
     refine ax (by omega) ?_;refine aA (fun h9 => ?_) (fun h9=>aj (nx (fun _ _ hjl => ?_)))
     ·refine aK (aK (aj (.inl ⟨fun hq => ?_,rfl⟩)));have hjl:(j:Int) ∈ x.Order:=Classical.byContradiction fun a2=>by rw [if_neg a2] at hatj; omega
      rw [if_pos hjl] at hatj
      have:=hq k j a1 a0 h7 hkl hjl
      omega
     ·rw [if_pos hjl] at hatj
      have a2:pos x.Order (j:Int)≠pos x.Order (k:Int):=fun e=>by
       have a6:=tT hjl
       rw [e,tT hkl] at a6
       omega
      omega
    ·refine aA (fun h9=>absurd h9 (by simp)) (fun _=>aj (nx (fun _ hkl => ?_)))
     rw [if_pos hkl] at hatk
     exact absurd hatk (fun h9=>h8 (by omega))
   ·exact aA (fun h9=>absurd h9 (by simp)) (fun _=>aj (nx (fun h8=>absurd h8 h7)))
  ·have:j=k:=by omega
   subst this;refine aK (aj ⟨a0,hw,fun i q hqi hi hpr hil hql => ?_⟩);rcases Nat.lt_or_ge i j with h8 | h8
   ·exact hno i q hqi h8 hpr hil hql
   ·have:i=j:=by omega
    subst this;exact hnj q hqi hpr hil hql
 ·have:k=h.Txns.length:=by omega
  subst this;have hq:Fq h x.Order:=hno
  suffices a5:Tri (iter (lJ h x (aL,sl) (at_,true)) 0) (fun r=>∃ v,r = .inr v∧First aL.length (fun i=>qN h x.Order (idx aL (i:Int)) (idx x.Picks (i:Int))) v) from
   fq a5 (by rintro r ⟨v,rfl,hv⟩; exact .inr ⟨hq,hv⟩)
  refine eZ (k0:=0) aL.length (fun k s=>s=(k:Int)∧∀ i,i < k→qN h x.Order (idx aL (i:Int)) (idx x.Picks (i:Int))=0) (Nat.zero_le _) ⟨rfl,fun i hi=>absurd hi (Nat.not_lt_zero _)⟩ ?_;rintro k s hk ⟨rfl,hz⟩;have hw:w64 ((k:Int) + 1)=((k + 1:Nat):Int):=bN (by omega);unfold lJ
  dsimp only
  rw [hw]
  refine aA (fun h6 => ?_) (fun h6 => ?_)
  ·have a0:k < aL.length:=by omega
   have ham:idx aL (k:Int) ∈ eG h h.Txns.length:=by rw [hAs]; exact Gh a0
   refine ax (by omega) (ax (by omega) (dM (Gr hS ho hp ham) ?_));refine aA (fun h7 => ?_) (fun h7 => ?_)
   ·exact aK (aK (aj ⟨_,rfl,.inr ⟨k,a0,rfl,h7,hz⟩⟩))
   ·refine aj ⟨a0,rfl,fun i hi => ?_⟩;rcases Nat.lt_or_ge i k with h8 | h8
    ·exact hz i h8
    ·have:i=k:=by omega
     subst this;exact Classical.byContradiction h7
  ·have:k=aL.length:=by omega
   subst this;exact aK (aK (aj ⟨0,rfl,.inl ⟨rfl,hz⟩⟩))
theorem Lf (hs:wC h) {x:Exec} (hl:x.Order.length < 2 ^ 50) (hpl:x.Picks.length < 2 ^ 50):∃ r,iO h x=some r∧kI h x=some r:=by
 obtain ⟨v,hv,hv',a0,hiff⟩:=Dw hs;rcases a0 with rfl | rfl
 ·have hS:=hiff.1 rfl;obtain ⟨⟨r,e⟩,h1,h2,h3⟩:=Gq hs hS hv hl hpl;obtain ⟨r',h4,h5⟩:=JD hs hS hl hpl
  dsimp only at h2 h3
  subst h2;have:=Why.det h3 h5;subst this;refine ⟨_,h1,?_⟩;unfold kI
  rw [hv']
  show (bz h x).bind _=_
  rw [h4]
  rfl
 ·refine ⟨_,IZ hv,?_⟩;unfold kI
  rw [hv']
  rfl
end
end Go.Proofs.YtfpeabnehpclnaaGreatT
namespace Go.Proofs.YtfpeabnehpclnaaGreatT
open Go Go.Proofs Go.Proofs.YtfpeabnehpclnaaGreatE
set_option linter.unusedVariables false
set_option linter.unusedSimpArgs false
theorem EI {l:List Int} {v:Int} (hl:l.length < 2 ^ 60):slices_Index_int l v=some (if v ∈ l then (pos l v:Int) else -1):=by
 refine gI.1 ?_;unfold slices_Index_int;refine eZ (k0:=0) l.length (fun k s=>s=(k:Int)∧∀ j:Nat,j < k→v≠idx l (j:Int)) (Nat.zero_le _) ⟨rfl,fun j h=>absurd h (Nat.not_lt_zero _)⟩ ?_;rintro k s hk ⟨rfl,hno⟩;have hw:w64 ((k:Int) + 1)=((k + 1:Nat):Int):=bN (by omega);unfold oG
 dsimp only
 rw [hw]
 refine aA (fun h1 => ?_) (fun h1 => ?_)
 ·have a0:k < l.length:=by omega
  refine ax (by omega) ?_;refine aA (fun h2 => ?_) (fun h2 => ?_)
  ·refine aK (aj ?_)
   show (k:Int)=_
   have hm:v ∈ l:=by rw [h2]; exact tQ a0
   rw [if_pos hm]
   have h3:=tT hm;have h4:=Aw.2 hm;have h5:¬ pos l v < k:=fun h=>hno _ h h3.symm;have h6:¬ k < pos l v:=fun h=>by
    unfold pos at h;have:=List.not_of_lt_findIdx h
    rw [eB (n:=k) rfl a0] at h2
    simp [h2] at this
   omega
  ·refine aj ⟨a0,rfl,fun j hj => ?_⟩;rcases Nat.lt_or_ge j k with h3 | h3
   ·exact hno j h3
   ·have:j=k:=by omega
    subst this;exact h2
 ·have:k=l.length:=by omega
  subst this;refine aK (aj ?_)
  show (-1:Int)=_
  rw [if_neg]
  intro hm;obtain ⟨j,hj,e⟩:=IV hm;exact hno j hj e.symm
abbrev EdG (e:Edge):Prop:=((Lit.int .i64 (e).From).wf=true)∧((Lit.int .i64 (e).To).wf=true)∧((Lit.int .i64 (e).Kind).wf=true)∧((Lit.int .i64 (e).Key).wf=true)
theorem Fs (h:History) (x:Exec) (e:Edge) {K:ByteArray→Prop} (g:HG K h) (gx:XG x) (ge:EdG e):kV h x e=some true:=by
 have hs:=g.small;have g1:=gx.1.2;have g2:=gx.2.2;obtain ⟨r,h1,h2⟩:=Lf hs (x:=x) (by omega) (by omega);obtain ⟨v,hv,hv',a3,hiff⟩:=Dw hs;refine gI.1 ?_;unfold kV
 rw [xk]
 refine cz ?_
 rw [Bool.not_true,cond_false]
 suffices hk:∃ b,iW h x e=some b∧bR h x e=some b by
  obtain ⟨b,q1,q2⟩:=hk;exact dM q1 (dM q2 (aj (by simp)))
 by_cases hr:r.2≠0∨r.1≠0
 ·refine ⟨false,gI.1 ?_,gI.1 ?_⟩
  ·unfold iW;refine dM h1 ?_;have no:Tri (ow x e true) (fun b=>b=false):=by unfold ow; rw [cond_true]; exact aj rfl
   refine aA (fun _=>no) (fun h3 => ?_)
   rw [show (r.1 != 0)=true by rw [bne_iff_ne]; exact hr.resolve_left h3]
   exact no
  ·unfold bR;refine dM h2 ?_;have no:Tri (dA h x e true) (fun b=>b=false):=by unfold dA; rw [cond_true]; exact aj rfl
   refine aA (fun _=>no) (fun h3 => ?_);exact aA (fun _=>no) (fun h4=>absurd hr (by rintro (h | h); exact h3 h; exact h4 h))
 ·have a0:r.2=0:=Classical.byContradiction fun h=>hr (.inl h);have a1:r.1=0:=Classical.byContradiction fun h=>hr (.inr h);have hfit:oh h∧lw h x.Order:=by
   rcases a3 with rfl | rfl
   ·have hS:=hiff.1 rfl;obtain ⟨r',q1,q2,q3⟩:=Gq hs hS hv (x:=x) (by omega) (by omega)
    rw [h1] at q1
    cases q1
    rw [a1] at q3
    cases q3 with
    | pick _ q4=>exact ⟨hS,q4⟩
   ·rw [IZ hv] at h1
    cases h1;exact absurd a0 (by decide)
  obtain ⟨hS,ho⟩:=hfit;have a2:=hS.len;obtain ⟨⟨at_,pb⟩,hpl,p1,p2,_⟩:=Cn a2 (h:=h) (l:=x.Order) (by omega);have hp:=p2 (p1.2 ho);have hlen:=hp.len
  dsimp only at hp hlen
  have hin:∀ t,t ∈ x.Order→0≤t∧t < (h.Txns.length:Int):=fun t ht=>⟨(ho.rg t ht).1,(ho.rg t ht).2.1⟩;have hat:∀ t:Int,0≤t→t < (h.Txns.length:Int)→idx at_ t=if t ∈ x.Order then (pos x.Order t:Int) + 1 else 0:=fun t h0 h1=>by
   obtain ⟨n,rfl⟩:∃ n:Nat,t=(n:Int):=⟨t.toNat,by omega⟩
   exact hp.at_ n (by omega)
  have code:iW h x e=some (decide (e.From ∈ x.Order∧e.To ∈ x.Order∧pos x.Order e.From < pos x.Order e.To)):=by
   refine Jd.1 ?_;unfold iW;refine dM h1 ?_;refine aA (fun h=>absurd a0 h) (fun _ => ?_)
   rw [show (r.1 != 0)=false by rw [bne_eq_false_iff_eq]; exact a1]
   unfold ow
   rw [cond_false]
   refine dM (EI (by omega)) (dM (EI (by omega)) ?_)
   by_cases m1:e.From ∈ x.Order
   ·rw [if_pos m1]
    refine aA (fun _=>aj ?_) (fun h=>absurd h (by omega))
    by_cases m2:e.To ∈ x.Order
    ·rw [if_pos m2]
     simp [m1,m2]
    ·rw [if_neg m2]
     simp [m2]
   ·rw [if_neg m1]
    refine aA (fun h=>absurd h (by decide)) (fun _=>aj ?_)
    simp [m1]
  refine ⟨_,code,Jd.1 ?_⟩;unfold bR;refine dM h2 ?_;have no:¬ (e.From ∈ x.Order∧e.To ∈ x.Order)→Tri (dA h x e true) (fun b=>b=true↔(e.From ∈ x.Order∧e.To ∈ x.Order∧pos x.Order e.From < pos x.Order e.To)):=fun hn=>by
   unfold dA; rw [cond_true]; exact aj ⟨fun h=>(nomatch h),fun h=>absurd ⟨h.1,h.2.1⟩ hn⟩
  refine aA (fun h=>absurd a0 h) (fun _ => ?_);refine aA (fun h=>absurd a1 h) (fun _ => ?_);refine aA (fun h=>no (fun q=>by have:=hin _ q.1; omega)) (fun f0 => ?_);refine aA (fun h=>no (fun q=>by have:=hin _ q.1; omega)) (fun f1 => ?_);refine aA (fun h=>no (fun q=>by have:=hin _ q.2; omega)) (fun f2 => ?_)
  by_cases f3:e.To ≥ (h.Txns.length:Int)
  ·rw [decide_eq_true f3]; exact no (fun q=>by have:=hin _ q.2; omega)
  rw [decide_eq_false f3]
  unfold dA
  rw [cond_false]
  refine dM hpl ?_;refine ax (by dsimp only; omega) ?_
  dsimp only
  rw [hat e.From (by omega) (by omega)]
  by_cases m1:e.From ∈ x.Order
  ·rw [if_pos m1]
   refine aA (fun _ => ?_) (fun h=>absurd (by omega) h);refine ax (by omega) ?_
   rw [hat e.To (by omega) (by omega)]
   by_cases m2:e.To ∈ x.Order
   ·rw [if_pos m2]
    refine aA (fun _=>aj ?_) (fun h=>absurd (by omega) h)
    simp [m1,m2]
   ·rw [if_neg m2]
    refine aA (fun h=>absurd rfl h) (fun _=>aj ?_)
    simp [m2]
  ·rw [if_neg m1]
   refine aA (fun h=>absurd rfl h) (fun _=>aj ?_)
   simp [m1]
end Go.Proofs.YtfpeabnehpclnaaGreatT
