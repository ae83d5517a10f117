import Derived.Test.YtmfgddafcgflaaaTPXP
import Derived.Test.YtmfgddafcgflaaaTF
namespace Go.Proofs.YtmfgddafcgflaaaT
open Go Go.Proofs Go.Proofs.YtmfgddafcgflaaaE
set_option linter.unusedVariables false
set_option linter.unusedSimpArgs false
def pos (l:List Int) (t:Int):Nat:=l.findIdx (fun x=>decide (x=t))
theorem jb {l:List Int} {t:Int}:pos l t < l.length↔t ∈ l:=by
 unfold pos
 rw [List.findIdx_lt_length]
 constructor
 ·rintro ⟨x,hx,h⟩;have:x=t:=by simpa using h
  exact this ▸ hx
 ·intro h;exact ⟨t,h,by simp⟩
theorem qF {l:List Int} {t:Int} (h:t ∈ l):idx l (pos l t:Int)=t:=by
 have hl:=jb.2 h
 rw [dG (n:=pos l t) rfl hl]
 have:=List.findIdx_getElem (xs:=l) (p:=fun x=>decide (x=t)) (w:=hl);exact of_decide_eq_true this
theorem zG {l:List Int} {i j:Nat} (hn:l.Nodup) (hi:i < l.length) (hj:j < l.length) (e:idx l (i:Int)=idx l (j:Int)):i=j:=by
 rw [dG (n:=i) rfl hi,dG (n:=j) rfl hj] at e
 have hp:=List.pairwise_iff_getElem.1 hn;rcases Nat.lt_trichotomy i j with h | h | h
 ·exact absurd e (hp i j hi hj h)
 ·exact h
 ·exact absurd e.symm (hp j i hj hi h)
theorem GG {l:List Int} (hn:l.Nodup) {j:Nat} (hj:j < l.length):pos l (idx l (j:Int))=j:=by
 have hm:idx l (j:Int) ∈ l:=qE hj;exact zG hn (jb.2 hm) hj (qF hm)
structure kF (h:History) (l:List Int):Prop where
 nd:l.Nodup
 rg:∀ t ∈ l,0≤t∧t < (h.Txns.length:Int)∧(idx h.Txns t).Status≠2
 dn:∀ t:Nat,t < h.Txns.length→(idx h.Txns (t:Int)).Status=1→(t:Int) ∈ l
theorem kF.len {h:History} {l:List Int} (ho:kF h l):l.length≤h.Txns.length:=by
 have h1:∀ x ∈ l,x ∈ (List.range h.Txns.length).map (fun j:Nat=>(j:Int)):=fun x hx=>by
  have:=ho.rg x hx;exact List.mem_map.2 ⟨x.toNat,List.mem_range.2 (by omega),by omega⟩
 have:=wI ho.nd h1
 simpa using this
section
variable {h:History} {l:List Int}
abbrev mg (m:List (Int×Int)):List Int:=m.map (·.1)
theorem og {x v:Int}:∀ {m:List (Int×Int)},mg (eB m x v)=if x ∈ mg m then mg m else mg m++[x]
 | []=>by simp [eB]
 | p::m=>by
  unfold eB
  by_cases e:p.1=x
  ·simp [e]
  ·rw [if_neg e]
   show p.1::mg (eB m x v)=_
   rw [og]
   have e':¬ x=p.1:=fun h=>e h.symm
   by_cases hx:x ∈ mg m
   ·simp [hx]
   ·simp [hx,e']
theorem BO {x:Int} {m:List (Int×Int)}:ji m x=true↔x ∈ mg m:=by
 unfold ji
 simp [List.any_eq_true]
structure rF (l:List Int) (k:Nat) (m:List (Int×Int)):Prop where
 nd:(mg m).Nodup
 mem:∀ x,x ∈ mg m↔x ∈ l.take k
 at_:∀ j:Nat,j < k→(∀ i:Nat,j < i→i < k→idx l (i:Int)≠idx l (j:Int))→mat m (idx l (j:Int))=(j:Int)
theorem rF.zero:rF l 0 []:=⟨List.nodup_nil,fun x=>by simp,fun j hj=>absurd hj (Nat.not_lt_zero _)⟩
theorem rF.put {k:Nat} {m:List (Int×Int)} (hm:rF l k m) (hk:k < l.length):rF l (k + 1) (eB m (idx l (k:Int)) (k:Int)):=by
 refine ⟨?_,fun x => ?_,fun j hj hno => ?_⟩
 ·rw [og]
  split
  ·exact hm.nd
  ·rename_i hx
   rw [List.nodup_append]
   exact ⟨hm.nd,by simp,by intro a ha b hb; rw [List.mem_singleton.1 hb]; intro e; exact hx (e ▸ ha)⟩
 ·rw [og,jY hk,List.mem_append,List.mem_singleton]
  split
  ·rename_i hx
   rw [hm.mem]
   constructor
   ·exact .inl
   ·rintro (h | rfl)
    ·exact h
    ·exact (hm.mem _).1 hx
  ·rw [List.mem_append,List.mem_singleton,hm.mem]
 ·rw [lW]
  split
  ·rename_i e
   rcases Nat.lt_or_ge j k with h1 | h1
   ·exact absurd e.symm (hno k h1 (by omega))
   ·have:j=k:=by omega
    rw [this]
  ·rename_i e
   rcases Nat.lt_or_ge j k with h1 | h1
   ·exact hm.at_ j h1 (fun i h2 h3=>hno i h2 (by omega))
   ·have:j=k:=by omega
    subst this;exact absurd rfl e
theorem rF.len {m:List (Int×Int)} (hm:rF l l.length m):m.length=l.length↔l.Nodup:=by
 have hmem:∀ x,x ∈ mg m↔x ∈ l:=fun x=>by rw [hm.mem,List.take_length]
 have hl:(mg m).length=m.length:=List.length_map _
 constructor
 ·intro he
  apply Classical.byContradiction
  intro hn;have:∃ i j:Nat,i < j∧j < l.length∧idx l (i:Int)=idx l (j:Int):=by
   apply Classical.byContradiction
   intro hno;refine hn (List.pairwise_iff_getElem.2 fun i j hi hj hij e=>hno ⟨i,j,hij,hj,?_⟩)
   rw [dG (n:=i) rfl hi,dG (n:=j) rfl hj,e]
  obtain ⟨i,j,hij,hj,e⟩:=this;have hsub:∀ x ∈ mg m,x ∈ l.eraseIdx j:=fun x hx=>by
   have hx:=(hmem x).1 hx;obtain ⟨q,hq,rfl⟩:=yP hx
   rw [List.mem_eraseIdx_iff_getElem]
   by_cases hqj:q=j
   ·subst hqj;exact ⟨i,by omega,by omega,by rw [← dG (n:=i) rfl (by omega:i < l.length)]; exact e⟩
   ·exact ⟨q,by omega,by omega,(dG (n:=q) rfl hq).symm⟩
  have:=wI hm.nd hsub
  rw [List.length_eraseIdx,if_pos hj] at this
  omega
 ·intro hn;have h1:=wI hm.nd (fun x hx=>(hmem x).1 hx);have h2:=wI hn (fun x hx=>(hmem x).2 hx)
  omega
structure rG (l:List Int) (m:List (Int×Int)):Prop where
 has:∀ x,ji m x=true↔x ∈ l
 at_:∀ x ∈ l,mat m x=(pos l x:Int)
theorem rF.ord {m:List (Int×Int)} (hm:rF l l.length m) (hn:l.Nodup):rG l m:=by
 refine ⟨fun x=>by rw [BO,hm.mem,List.take_length],fun x hx => ?_⟩
 have hl:=jb.2 hx;have:=hm.at_ (pos l x) hl (fun i h1 h2 e=>by have:=zG hn h2 hl e; omega)
 rwa [qF hx] at this
theorem rG.hasB {m:List (Int×Int)} (hm:rG l m) (x:Int):ji m x=decide (x ∈ l):=by
 by_cases hx:x ∈ l
 ·rw [(hm.has x).2 hx,decide_eq_true hx]
 ·rw [decide_eq_false hx]
  cases e:ji m x with
  | false=>rfl
  | true=>exact absurd ((hm.has x).1 e) hx
theorem CL (a3:h.Txns.length≤32) (hl:l.length < 2 ^ 60):Tri (dE h l) (fun r=>r.1.h=h∧r.1.order=l∧(r.2=true↔kF h l)∧(r.2=true→rG l r.1.at_)):=by
 unfold dE;refine dz (k0:=0) l.length (fun k s=>s.2=(k:Int)∧rF l k s.1∧∀ t ∈ l.take k,0≤t∧t < (h.Txns.length:Int)∧(idx h.Txns t).Status≠2) (Nat.zero_le _) ⟨rfl,rF.zero,fun t ht=>by simp at ht⟩ ?_
 rintro k ⟨m,x⟩ hk ⟨rfl,hm,hrg⟩;have hw:w64 ((k:Int) + 1)=((k + 1:Nat):Int):=bu (by omega);unfold qZ mI
 dsimp only at hm ⊢
 rw [hw]
 have bad:∀ t ∈ l,¬ (0≤t∧t < (h.Txns.length:Int)∧(idx h.Txns t).Status≠2) → ¬ kF h l:=fun t ht hn ho=>hn (ho.rg t ht);have no:∀ {m:List (Int×Int)},¬ kF h l→(⟨h,l,m⟩:bD).h=h∧(⟨h,l,m⟩:bD).order=l∧((false:Bool)=true↔kF h l)∧((false:Bool)=true→rG l (⟨h,l,m⟩:bD).at_):=fun hn=>⟨rfl,rfl,⟨fun h=>(nomatch h),fun h=>absurd h hn⟩,fun h=>(nomatch h)⟩;refine ak (fun h1 => ?_) (fun h1 => ?_)
 ·have a1:k < l.length:=by omega
  have hmem:idx l (k:Int) ∈ l:=qE a1;refine ai (by omega) ?_;refine ak (fun h2 => ?_) (fun h2 => ?_)
  ·exact ak (fun _=>aA (af (no (bad _ hmem (fun h3=>by omega))))) (fun h3=>absurd trivial h3)
  ·refine ak (fun h3 => ?_) (fun h3 => ?_)
   ·exact ak (fun _=>aA (af (no (bad _ hmem (fun h3=>by omega))))) (fun h3=>absurd trivial h3)
   ·refine ai (by omega) ?_;refine ak (fun h4=>aA (af (no (bad _ hmem (fun h5=>h5.2.2 h4))))) (fun h4 => ?_);refine af ⟨a1,rfl,hm.put a1,fun t ht => ?_⟩
    rw [jY a1,List.mem_append,List.mem_singleton] at ht
    rcases ht with ht | rfl
    ·exact hrg t ht
    ·exact ⟨by omega,by omega,h4⟩
 ·have:k=l.length:=by omega
  subst this
  rw [List.take_length] at hrg
  refine ak (fun h2 => ?_) (fun h2 => ?_)
  ·exact aA (af (no (fun ho=>h2 (by have:=hm.len.2 ho.nd; omega))))
  ·have hnd:l.Nodup:=hm.len.1 (by omega);have hom:=hm.ord hnd;have hb:=hom.hasB
   suffices hs:Tri (iter (oO h l m) 0) (fun y:(List (Int×Int)×Int) ⊕ (bD×Bool)=>∃ b,y = .inr (⟨h,l,m⟩,b)∧(b=true↔kF h l)) from
    dA hs (by rintro y ⟨b,rfl,hb⟩; exact ⟨rfl,rfl,hb,fun _=>hom⟩)
   refine dz (k0:=0) h.Txns.length (fun j s=>s=(j:Int)∧∀ t:Nat,t < j→(idx h.Txns (t:Int)).Status=1→(t:Int) ∈ l) (Nat.zero_le _) ⟨rfl,fun t ht=>absurd ht (Nat.not_lt_zero _)⟩ ?_;rintro j s hj ⟨rfl,hdn⟩;have hw:w64 ((j:Int) + 1)=((j + 1:Nat):Int):=bu (by omega);unfold oO oN
   dsimp only
   rw [hw,hb]
   refine ak (fun h3 => ?_) (fun h3 => ?_)
   ·have a2:j < h.Txns.length:=by omega
    have next:((idx h.Txns (j:Int)).Status=1→(j:Int) ∈ l)→Upm h.Txns.length j (fun j s=>s=(j:Int)∧∀ t:Nat,t < j→(idx h.Txns (t:Int)).Status=1→(t:Int) ∈ l) (fun y:(List (Int×Int)×Int) ⊕ (bD×Bool)=>∃ b,y = .inr (⟨h,l,m⟩,b)∧(b=true↔kF h l)) (.inl ((j + 1:Nat):Int)):=fun h4=>⟨a2,rfl,fun t ht hst=>by
     rcases Nat.lt_or_ge t j with h5 | h5
     ·exact hdn t h5 hst
     ·have:t=j:=by omega
      subst this;exact h4 hst⟩
    refine ai (by omega) ?_;refine ak (fun h4 => ?_) (fun h4 => ?_)
    ·refine ak (fun h5 => ?_) (fun h5=>af (next (fun h6=>absurd h6 h5)));refine aA (aA (af ⟨false,rfl,fun h=>(nomatch h),fun ho=>absurd (ho.dn j a2 h5) h4⟩))
    ·refine ak (fun h5=>absurd h5 (by simp)) (fun h5=>af (next (fun _=>Classical.byContradiction h4)))
   ·have:j=h.Txns.length:=by omega
    subst this;exact aA (aA (af ⟨true,rfl,fun _=>⟨hnd,hrg,hdn⟩,fun _=>rfl⟩))
end
end Go.Proofs.YtmfgddafcgflaaaT
namespace Go.Proofs.YtmfgddafcgflaaaT
open Go Go.Proofs Go.Proofs.YtmfgddafcgflaaaE
set_option linter.unusedVariables false
set_option linter.unusedSimpArgs false
abbrev srt (l:List Int):List Int:=l.mergeSort fun x y=>decide (x≤y)
def fin (ty:Int) (w:List Int):List Int:=if ty=1 then w.drop (w.length - 1) else if ty=3 then srt w else if ty=4 then [w64 w.sum] else w
theorem Fx {ty:Int} {w:List Int}:(fin ty w).length≤w.length + 1:=by
 unfold fin
 split
 ·rw [List.length_drop]; omega
 ·split
  ·rw [List.length_mergeSort]; omega
  ·split
   ·simp
   ·omega
theorem DD {α:Type} (l:List α) {n:Nat} (hn:n≤l.length):cZ l (n:Int) (l.length:Int)=l.drop n:=by
 unfold cZ
 rw [Int.toNat_natCast,Int.toNat_natCast,List.take_length]
theorem zH {st:bD} {key ty:Int} {w:List Int} (hT:dN st.h key=some ty) (hw:w.length < 2 ^ 40):eQ st key w=some (fin ty w):=by
 refine kz.1 ?_;unfold eQ;refine dO hT ?_;unfold fin;refine ak (fun h1 => ?_) (fun h1 => ?_)
 ·rw [if_pos h1]
  have e:wD 0 (w64 ((w.length:Int) - 1))=((w.length - 1:Nat):Int):=by
   rw [qH (by omega) (by omega)]
   unfold wD
   split <;> omega
  rw [e]
  refine ai (by omega) (af ?_);exact DD w (by omega)
 ·rw [if_neg h1]
  refine ak (fun h2 => ?_) (fun h2 => ?_)
  ·rw [if_pos h2]
   unfold lG gq
   rw [ik _ (by omega)]
   exact bF (af rfl)
  ·rw [if_neg h2]
   refine ak (fun h3 => ?_) (fun h3 => ?_)
   ·rw [if_pos h3]
    refine dz (k0:=0) w.length (fun k s=>s.2=(k:Int)∧s.1=zF 0 (w.take k)) (Nat.zero_le _) ⟨rfl,rfl⟩ ?_;rintro k ⟨x,i⟩ hk ⟨rfl,hx⟩
    dsimp only at hx
    have hw:w64 ((k:Int) + 1)=((k + 1:Nat):Int):=bu (by omega);unfold jr
    dsimp only
    rw [hw]
    refine ak (fun h4 => ?_) (fun h4 => ?_)
    ·have a1:k < w.length:=by omega
     exact ai (by omega) (af ⟨a1,rfl,by dsimp only; rw [CJ a1,hx]⟩)
    ·have:k=w.length:=by omega
     subst this;refine aA (af ?_)
     rw [hx,List.take_length,CK]
     rfl
   ·rw [if_neg h3]
    exact af rfl
def wrs (h:History) (l:List Int) (key:Int):List Int:=l.flatMap (fun o=>jX h o key)
def tL (h:History) (l:List Int) (key t:Int):List Int:=if 0≤t then wrs h (l.take (pos l t + 1)) key else []
section
variable {h:History} {l:List Int}
theorem zI {key:Int} {k:Nat} (hk:k < l.length):wrs h (l.take (k + 1)) key=wrs h (l.take k) key++jX h (idx l (k:Int)) key:=by
 unfold wrs
 rw [jY hk,List.flatMap_append]
 simp
theorem Hq (hS:fq h) {o key:Int} (ho:0≤o∧o < (h.Txns.length:Int)):(jX h o key).length≤16:=by
 obtain ⟨n,rfl⟩:∃ n:Nat,o=(n:Int):=⟨o.toNat,by omega⟩
 exact Nat.le_trans zC (hS.txn n (by omega)).ops.1
theorem wJ (hS:fq h) (ho:kF h l) {key:Int}:∀ k,k≤l.length→(wrs h (l.take k) key).length≤16 * k
 | 0,_=>by simp [wrs]
 | k + 1,hk=>by
  have h1:=wJ hS ho (key:=key) k (by omega);have h2:=ho.rg _ (qE (show k < l.length by omega));have h3:=Hq hS (key:=key) ⟨h2.1,h2.2.1⟩
  rw [zI (by omega),List.length_append]
  omega
theorem zJ (hS:fq h) (ho:kF h l) {key t:Int}:(tL h l key t).length≤512:=by
 unfold tL
 split
 ·have h1:=ho.len;have h2:=hS.len;rcases Nat.lt_or_ge (pos l t) l.length with h3 | h3
  ·have:=wJ hS ho (key:=key) (pos l t + 1) (by omega)
   omega
  ·have:=wJ hS ho (key:=key) l.length (Nat.le_refl _)
   rw [List.take_of_length_le (by omega)]
   rw [List.take_length] at this
   omega
 ·simp
theorem yQ (hS:fq h) (ho:kF h l) {m:List (Int×Int)} (hm:rG l m) {key ty t:Int} (hT:dN h key=some ty) (ht:t < 0∨t ∈ l) :
  ax ⟨h,l,m⟩ key t=some (fin ty (tL h l key t)):=by
 have hll:=ho.len;have a5:=hS.len;have ha:=zJ hS ho (key:=key) (t:=t);refine kz.1 ?_;unfold ax;refine ak (fun h1 => ?_) (fun h1 => ?_)
 ·have htm:t ∈ l:=by rcases ht with h | h; omega; exact h
  have hp:=jb.2 htm;have e:w64 (mat m t + 1)=((pos l t + 1:Nat):Int):=by rw [hm.at_ t htm]; exact bu (by omega)
  dsimp only
  rw [e]
  refine ai (by omega) ?_;have haa:tL h l key t=wrs h (l.take (pos l t + 1)) key:=if_pos (by omega)
  rw [haa] at ha ⊢
  refine dz (k0:=0) (pos l t + 1) (fun k s=>s=(wrs h (l.take k) key,(k:Int))) (Nat.zero_le _) rfl ?_;rintro k s hk rfl;have hw:w64 ((k:Int) + 1)=((k + 1:Nat):Int):=bu (by omega);have hkl:=wJ hS ho (key:=key) k (by omega);have hsub:cZ l (0:Int) ((pos l t + 1:Nat):Int)=l.take (pos l t + 1):=kX (by omega);unfold jw
  dsimp only
  rw [e,hsub,List.length_take,Nat.min_eq_left (by omega)]
  refine ak (fun h2 => ?_) (fun h2 => ?_)
  ·have a2:k < pos l t + 1:=by omega
   rw [om a2]
   have hr:=ho.rg _ (qE (show k < l.length by omega));refine ai (by omega) (ai ⟨hr.1,hr.2.1⟩ ?_);have a6:(idx h.Txns (idx l (k:Int))).Ops.length≤16:=by
    obtain ⟨n,hn⟩:∃ n:Nat,idx l (k:Int)=(n:Int):=⟨(idx l (k:Int)).toNat,by omega⟩
    rw [hn] at hr ⊢
    exact (hS.txn n (by omega)).ops.1
   refine dz (k0:=0) (idx h.Txns (idx l (k:Int))).Ops.length (fun p s=>s=(wrs h (l.take k) key++qD (idx h.Txns (idx l (k:Int))).Ops key p,(p:Int))) (Nat.zero_le _) (by rw [CE,List.append_nil]; rfl) ?_;rintro p s a4 rfl;have a3:w64 ((p:Int) + 1)=((p + 1:Nat):Int):=bu (by omega);have hol:=uw (ops:=(idx h.Txns (idx l (k:Int))).Ops) (key:=key) (p:=p);unfold jv gy gu
   dsimp only
   rw [e,hsub,om a2,a3]
   refine ak (fun h3 => ?_) (fun h3 => ?_)
   ·have a1:p < (idx h.Txns (idx l (k:Int))).Ops.length:=by omega
    have hos:=vz (key:=key) a1;refine ai (by omega) ?_;refine ak (fun h4 => ?_) (fun h4 => ?_)
    ·refine ak (fun h5 => ?_) (fun h5 => ?_)
     ·refine ai (by rw [List.length_append]; omega) (af ⟨a1,?_⟩)
      rw [if_pos ⟨h4,h5⟩] at hos
      rw [hos,List.append_assoc]
     ·refine af ⟨a1,?_⟩
      rw [if_neg (fun h=>h5 h.2)] at hos
      rw [hos]
    ·refine ak (fun h5=>absurd h5 (by simp)) (fun h5=>af ⟨a1,?_⟩)
     rw [if_neg (fun h=>h4 h.1)] at hos
     rw [hos]
   ·have:p=(idx h.Txns (idx l (k:Int))).Ops.length:=by omega
    subst this;refine aA (af ⟨a2,?_⟩)
    dsimp only
    rw [hw,zI (by omega)]
    rfl
  ·have:k=pos l t + 1:=by omega
   subst this;exact aA (kz.2 (zH hT (by omega)))
 ·have haa:tL h l key t=[]:=if_neg (by omega)
  rw [haa]
  exact kz.2 (zH hT (by simp))
end
end Go.Proofs.YtmfgddafcgflaaaT
namespace Go.Proofs.YtmfgddafcgflaaaT
open Go Go.Proofs Go.Proofs.YtmfgddafcgflaaaE
set_option linter.unusedVariables false
set_option linter.unusedSimpArgs false
theorem DF {m:List (Int×Int)} {x:Int} (h:ji m x=false):mat m x=0 :=
 (qg (fun k hk e=>by
  have:=BO.2 (e ▸ hk)
  rw [h] at this
  cases this)).1
theorem xq {h:History} {a:Ask} (ha:a ∈ dh h h.Txns.length):∃ t:Nat,a.Txn=(t:Int)∧t < h.Txns.length∧(idx h.Txns (t:Int)).Status=1:=by
 unfold dh at ha;obtain ⟨t,ht,ha⟩:=List.mem_flatMap.1 ha;have ht:=List.mem_range.1 ht;unfold pJ at ha
 split at ha
 case isFalse=>cases ha
 case isTrue hst =>
 unfold nZ at ha;obtain ⟨p,hp,ha⟩:=List.mem_flatMap.1 ha;refine ⟨t,?_,ht,hst⟩;unfold vO at ha
 dsimp only at ha
 split at ha
 ·cases ha
 ·split at ha
  ·rw [List.mem_singleton] at ha
   rw [ha]
  ·split at ha
   ·rw [List.mem_singleton] at ha
    rw [ha]
   ·cases ha
def DI (h:History) (l:List Int):Prop:=∀ i k:Nat,k < i→i < h.Txns.length→(idx h.Txns (i:Int)).Proc=(idx h.Txns (k:Int)).Proc→(i:Int) ∈ l→(k:Int) ∈ l→pos l (k:Int) < pos l (i:Int)
def Ahead (h:History) (l:List Int) (a:Ask) (p:Int):Prop:=p ∈ l∧pos l p < pos l a.Txn∧0 < (jX h p a.Key).length
def kd (h:History) (a:Ask):Int:=typ (opAt h a.Txn a.Place).Kind
def ver (h:History) (l:List Int) (a:Ask) (p:Int):List Int:=fin (kd h a) (tL h l a.Key p)
open Classical in
noncomputable def qa (h:History) (l:List Int) (a:Ask) (p:Int):Int:=if p ≠ -1 ∧ ¬ Ahead h l a p then 5 else if ver h l a p≠a.Base then 6 else 0
def First (n:Nat) (v:Nat→Int) (r:Int):Prop:=(r=0∧∀ i,i < n→v i=0)∨(∃ i,i < n∧v i=r∧r≠0∧∀ j,j < i→v j=0)
theorem First.det {n:Nat} {v:Nat→Int} {r s:Int} (h1:First n v r) (h2:First n v s):r=s:=by
 rcases h1 with ⟨rfl,h1⟩ | ⟨i,hi,e1,n1,b1⟩ <;> rcases h2 with ⟨rfl,h2⟩ | ⟨j,hj,e2,n2,b2⟩
 ·rfl
 ·exact absurd (e2.symm.trans (h1 j hj)) n2
 ·exact absurd (e1.symm.trans (h2 i hi)) n1
 ·rcases Nat.lt_trichotomy i j with h | h | h
  ·exact absurd (e1.symm.trans (b2 i h)) n1
  ·subst h; exact e1.symm.trans e2
  ·exact absurd (e2.symm.trans (b1 j h)) n2
inductive Why (h:History) (x:Exec):Int→Prop
 | bad:fT h h.Txns.length≠[]→Why h x 1
 | order:fT h h.Txns.length=[] → ¬ kF h x.Order→Why h x 2
 | picks:fT h h.Txns.length=[]→kF h x.Order→x.Picks.length≠(dh h h.Txns.length).length→Why h x 3
 | sess:fT h h.Txns.length=[]→kF h x.Order→x.Picks.length=(dh h h.Txns.length).length → ¬ DI h x.Order→Why h x 4
 | pick {r:Int}:fT h h.Txns.length=[]→kF h x.Order→x.Picks.length=(dh h h.Txns.length).length→DI h x.Order →
   First (dh h h.Txns.length).length (fun i=>qa h x.Order (idx (dh h h.Txns.length) (i:Int)) (idx x.Picks (i:Int))) r→Why h x r
theorem Why.det {h:History} {x:Exec} {r s:Int} (h1:Why h x r) (h2:Why h x s):r=s:=by
 cases h1 <;> cases h2 <;> first | rfl | contradiction | exact First.det ‹_› ‹_›
section
variable {h:History} {l:List Int} {m:List (Int×Int)}
theorem AR (hS:fq h) (hc:aH h=some 0) (ho:kF h l) (hm:rG l m) {a:Ask} (ha:a ∈ dh h h.Txns.length) {p:Int}:Tri (dF ⟨h,l,m⟩ a p) (fun r=>r=true↔Ahead h l a p):=by
 obtain ⟨t,et,ht,hst⟩:=xq ha;have htl:=ho.dn t ht hst;unfold dF iF
 dsimp only
 rw [hm.hasB]
 refine ak (fun h1 => ?_) (fun h1 => ?_)
 ·rw [cond_true]
  exact af ⟨fun h=>(nomatch h),fun h2=>absurd h2.1 h1⟩
 ·have hp:p ∈ l:=Classical.byContradiction h1
  rw [hm.at_ p hp,et,hm.at_ _ htl]
  refine ak (fun h2=>af ⟨fun h=>(nomatch h),fun h3 => ?_⟩) (fun h2 => ?_)
  ·have:=h3.2.1
   rw [et] at this
   omega
  ·refine dO (AQ hS hc) (af ?_);have hr:=ho.rg p hp
   rw [if_pos ⟨hr.1,hr.2.1⟩]
   dsimp only
   rw [decide_eq_true_iff]
   exact ⟨fun h3=>⟨hp,by rw [et]; omega,h3⟩,fun h3=>h3.2.2⟩
theorem CO (ho:kF h l) (a2:h.Txns.length≤32) (hm:rG l m):Tri (aR ⟨h,l,m⟩) (fun r=>r=true↔DI h l):=by
 unfold aR;refine dz (k0:=0) h.Txns.length (fun k s=>s.2=(k:Int)∧(∀ t:Nat,t < k→(t:Int) ∈ l→ji s.1 (idx h.Txns (t:Int)).Proc=true∧(pos l (t:Int):Int)≤mat s.1 (idx h.Txns (t:Int)).Proc) ∧
  (∀ q,ji s.1 q=true→∃ t:Nat,t < k∧(t:Int) ∈ l∧(idx h.Txns (t:Int)).Proc=q∧mat s.1 q=(pos l (t:Int):Int)) ∧
  ∀ i j:Nat,j < i→i < k→(idx h.Txns (i:Int)).Proc=(idx h.Txns (j:Int)).Proc→(i:Int) ∈ l→(j:Int) ∈ l→pos l (j:Int) < pos l (i:Int)) (Nat.zero_le _)
  ⟨rfl,fun t ht=>absurd ht (Nat.not_lt_zero _),fun q hq=>(by rw [zT] at hq; cases hq),fun i j h1 h2=>absurd h2 (Nat.not_lt_zero _)⟩ ?_
 rintro k ⟨s,x⟩ hk ⟨rfl,i1,i2,i3⟩;have hw:w64 ((k:Int) + 1)=((k + 1:Nat):Int):=bu (by omega)
 dsimp only at i1 i2 i3
 unfold iV fI fH
 dsimp only
 rw [hw,hm.hasB]
 refine ak (fun h1 => ?_) (fun h1 => ?_)
 ·have a1:k < h.Txns.length:=by omega
  refine ai (by omega) ?_;refine ak (fun h2 => ?_) (fun h2 => ?_)
  ·refine af ⟨a1,rfl,fun t ht htl => ?_,fun q hq => ?_,fun i j hij hi hp hil hjl => ?_⟩
   ·have:t≠k:=fun e=>h2 (e ▸ htl);exact i1 t (by omega) htl
   ·obtain ⟨t,q1,q2⟩:=i2 q hq;exact ⟨t,by omega,q2⟩
   ·have:i≠k:=fun e=>h2 (e ▸ hil);exact i3 i j hij (by omega) hp hil hjl
  ·have hkl:(k:Int) ∈ l:=Classical.byContradiction h2
   rw [hm.at_ _ hkl]
   have go:(∀ t:Nat,t < k→(t:Int) ∈ l→(idx h.Txns (k:Int)).Proc=(idx h.Txns (t:Int)).Proc→pos l (t:Int) < pos l (k:Int)) →
     Upm h.Txns.length k (fun k s=>s.2=(k:Int)∧(∀ t:Nat,t < k→(t:Int) ∈ l→ji s.1 (idx h.Txns (t:Int)).Proc=true∧(pos l (t:Int):Int)≤mat s.1 (idx h.Txns (t:Int)).Proc) ∧
      (∀ q,ji s.1 q=true→∃ t:Nat,t < k∧(t:Int) ∈ l∧(idx h.Txns (t:Int)).Proc=q∧mat s.1 q=(pos l (t:Int):Int)) ∧
      ∀ i j:Nat,j < i→i < k→(idx h.Txns (i:Int)).Proc=(idx h.Txns (j:Int)).Proc→(i:Int) ∈ l→(j:Int) ∈ l→pos l (j:Int) < pos l (i:Int)) (fun r=>r=true↔DI h l)
      (.inl (eB s (idx h.Txns (k:Int)).Proc (wD (pos l (k:Int):Int) (mat s (idx h.Txns (k:Int)).Proc)),((k + 1:Nat):Int))):=fun hno=>by
    have hmax:wD (pos l (k:Int):Int) (mat s (idx h.Txns (k:Int)).Proc)=(pos l (k:Int):Int):=by
     unfold wD
     split
     ·rename_i hlt
      by_cases hh:ji s (idx h.Txns (k:Int)).Proc=true
      ·obtain ⟨t,q1,q2,q3,q4⟩:=i2 _ hh;have:=hno t q1 q2 q3.symm
       omega
      ·have e0:mat s (idx h.Txns (k:Int)).Proc=0:=DF (by simpa using hh)
       omega
     ·rfl
    rw [hmax]
    refine ⟨a1,rfl,fun t ht htl => ?_,fun q hq => ?_,fun i j hij hi hp hil hjl => ?_⟩
    ·dsimp only
     rw [rR,lW]
     by_cases hp:(idx h.Txns (t:Int)).Proc=(idx h.Txns (k:Int)).Proc
     ·rw [if_pos hp]
      refine ⟨.inl hp,?_⟩
      by_cases htk:t=k
      ·rw [htk]; omega
      ·have:=hno t (by omega) htl hp.symm
       omega
     ·rw [if_neg hp]
      have htk:t≠k:=fun e=>hp (by rw [e]);obtain ⟨q1,q2⟩:=i1 t (by omega) htl;exact ⟨.inr q1,q2⟩
    ·dsimp only at hq ⊢
     rw [rR] at hq
     rw [lW]
     by_cases hp:q=(idx h.Txns (k:Int)).Proc
     ·rw [if_pos hp]
      exact ⟨k,by omega,hkl,hp.symm,rfl⟩
     ·rw [if_neg hp]
      rcases hq with hq | hq
      ·exact absurd hq hp
      ·obtain ⟨t,q1,q2⟩:=i2 q hq;exact ⟨t,by omega,q2⟩
    ·rcases Nat.lt_or_ge i k with h5 | h5
     ·exact i3 i j hij h5 hp hil hjl
     ·have:i=k:=by omega
      subst this;exact hno j hij hjl hp
   refine ak (fun h3 => ?_) (fun h3 => ?_)
   ·obtain ⟨t,q1,q2,q3,q4⟩:=i2 _ h3;refine ak (fun h4 => ?_) (fun h4=>af (go (fun u hu hul hpu => ?_)))
    ·refine aA (af ⟨fun h=>(nomatch h),fun hs => ?_⟩);have:=hs k t q1 a1 q3.symm hkl q2
     omega
    ·have h5:=(i1 u hu hul).2
     rw [← hpu] at h5
     have h6:pos l (u:Int)≠pos l (k:Int):=fun e=>by
      have h7:=qF hul
      rw [e,qF hkl] at h7
      omega
     omega
   ·refine ak (fun h4=>absurd h4 (by simp)) (fun h4=>af (go (fun u hu hul hpu => ?_)));have h5:=(i1 u hu hul).1
    rw [← hpu] at h5
    exact absurd h5 h3
 ·have:k=h.Txns.length:=by omega
  subst this;exact aA (af ⟨fun _=>i3,fun _=>rfl⟩)
theorem Hr {a:Ask} {t p:Nat} (hk:Gp h a t p):kd h a=typ (opAt h (t:Int) (p:Int)).Kind:=by
 unfold kd
 rw [hk.e1,hk.e2]
theorem DJ (hS:fq h) (hc:aH h=some 0) {a:Ask} (ha:a ∈ dh h h.Txns.length):dN h a.Key=some (kd h a):=by
 obtain ⟨t,p,hk⟩:=GD hS ha
 rw [Hr hk]
 exact CG hS hc hk.tl hk.pl hk.e3.symm
theorem Fy (hS:fq h) (ho:kF h l) {a:Ask} {p:Int}:(ver h l a p).length≤513:=by
 have h1:=Fx (ty:=kd h a) (w:=tL h l a.Key p);have h2:=zJ hS ho (key:=a.Key) (t:=p);unfold ver
 omega
theorem DK (hs:nW h) (hS:fq h) (hc:aH h=some 0) {x:Exec} (hl:x.Order.length < 2 ^ 50) (hpl:x.Picks.length < 2 ^ 50):Tri (dS h x) (fun r=>r.2=0∧Why h x r.1):=by
 have a2:=hS.len;obtain ⟨n1,n2,_⟩:=sw hS h.Txns.length (Nat.le_refl _);have hA:iU h=some (dh h h.Txns.length,0):=by unfold iU; rw [xh hs hS hc]; rfl
 have hB:pR h=some (fT h h.Txns.length,0):=by unfold pR; rw [xh hs hS hc]; rfl
 unfold dS;refine dO hA ?_;refine ak (fun h1=>absurd rfl h1) (fun _ => ?_);refine dO hB ?_;refine ak (fun h1 => ?_) (fun h1 => ?_)
 ·exact af ⟨rfl,.bad (fun e=>by dsimp only at h1; rw [e] at h1; simp at h1)⟩
 have hsp:fT h h.Txns.length=[]:=List.length_eq_zero_iff.1 (by dsimp only at h1; omega);refine bJ (CL a2 (by omega)) (fun r hr => ?_);obtain ⟨⟨rh,ro,rm⟩,rb⟩:=r;obtain ⟨e1,e2,e3,e4⟩:=hr
 dsimp only at e1 e2 e3 e4
 subst e1 e2;refine ak (fun h2 => ?_) (fun h2 => ?_)
 ·exact af ⟨rfl,.order hsp (fun ho=>h2 (e3.2 ho))⟩
 have ho:=e3.1 (by simpa using h2);have hm:=e4 (by simpa using h2)
 dsimp only
 refine ak (fun h3 => ?_) (fun h3 => ?_)
 ·exact af ⟨rfl,.picks hsp ho (fun e=>h3 (by rw [e]))⟩
 have hpe:x.Picks.length=(dh rh rh.Txns.length).length:=by
  have:¬ ¬ ((x.Picks.length:Int)=((dh rh rh.Txns.length).length:Int)):=h3
  omega
 refine bJ (CO ho a2 hm) (fun b hb => ?_);refine ak (fun h4 => ?_) (fun h4 => ?_)
 ·exact af ⟨rfl,.sess hsp ho hpe (fun hq=>h4 (hb.2 hq))⟩
 have hq:=hb.1 (by simpa using h4);generalize hAs:dh rh rh.Txns.length=aL at hpe n1 hA
 suffices hloop:Tri (iter (oQ x (aL,0) (⟨rh,x.Order,rm⟩,rb)) 0) (fun r=>r.2=0∧First aL.length (fun i=>qa rh x.Order (idx aL (i:Int)) (idx x.Picks (i:Int))) r.1) from
  dA hloop (fun r hr=>⟨hr.1,.pick hsp ho (by rw [hAs]; exact hpe) hq (by rw [hAs]; exact hr.2)⟩)
 refine dz (k0:=0) aL.length (fun k s=>s=(k:Int)∧∀ i,i < k→qa rh x.Order (idx aL (i:Int)) (idx x.Picks (i:Int))=0) (Nat.zero_le _) ⟨rfl,fun i hi=>absurd hi (Nat.not_lt_zero _)⟩ ?_;rintro k s hk ⟨rfl,hz⟩;have hw:w64 ((k:Int) + 1)=((k + 1:Nat):Int):=bu (by omega);unfold oQ oP
 dsimp only
 rw [hw]
 refine ak (fun h5 => ?_) (fun h5 => ?_)
 ·have a1:k < aL.length:=by omega
  have ham:idx aL (k:Int) ∈ dh rh rh.Txns.length:=by rw [hAs]; exact xn a1
  refine ai (by omega) (ai (by omega) ?_);generalize hpv:idx x.Picks (k:Int)=p;have tail:(p ≠ -1→Ahead rh x.Order (idx aL (k:Int)) p)→Tri (must (0≤(k:Int)∧(k:Int) < (x.Picks.length:Int)) ((ax ⟨rh,x.Order,rm⟩ ((idx aL (k:Int)).Key) p).bind fun y=>(dD y ((idx aL (k:Int)).Base)).bind fun z=>bif !z then out (some (6,0)) else (some (.inl ((k + 1:Nat):Int)))))
    (Upm aL.length k (fun k s=>s=(k:Int)∧∀ i,i < k→qa rh x.Order (idx aL (i:Int)) (idx x.Picks (i:Int))=0) (fun r:Int×Int=>r.2=0∧First aL.length (fun i=>qa rh x.Order (idx aL (i:Int)) (idx x.Picks (i:Int))) r.1)):=fun hah=>by
   have hv:ax ⟨rh,x.Order,rm⟩ ((idx aL (k:Int)).Key) p=some (ver rh x.Order (idx aL (k:Int)) p) :=
    yQ hS ho hm (DJ hS hc ham) (by
     by_cases hp:p = -1
     ·left; omega
     ·exact .inr (hah hp).1)
   have hvl:=Fy hS ho (a:=idx aL (k:Int)) (p:=p);refine ai (by omega) (dO hv (dO (wV (by omega)) ?_));refine ak (fun h6 => ?_) (fun h6 => ?_)
   ·refine aA (af ⟨rfl,.inr ⟨k,a1,?_,by decide,hz⟩⟩)
    show qa rh x.Order (idx aL (k:Int)) (idx x.Picks (k:Int))=6
    rw [hpv]
    unfold qa
    rw [if_neg (fun h=>h.2 (hah h.1)),if_pos h6]
   ·refine af ⟨a1,rfl,fun i hi => ?_⟩;rcases Nat.lt_or_ge i k with h7 | h7
    ·exact hz i h7
    ·have:i=k:=by omega
     subst this
     rw [hpv]
     unfold qa
     rw [if_neg (fun h=>h.2 (hah h.1)),if_neg h6]
  refine ak (fun h6 => ?_) (fun h6 => ?_)
  ·refine bJ (AR hS hc ho hm ham) (fun b hb => ?_);refine ak (fun h7 => ?_) (fun h7 => ?_)
   ·refine aA (af ⟨rfl,.inr ⟨k,a1,?_,by decide,hz⟩⟩)
    show qa rh x.Order (idx aL (k:Int)) (idx x.Picks (k:Int))=5
    rw [hpv]
    unfold qa
    rw [if_pos ⟨h6,fun h=>h7 (hb.2 h)⟩]
   ·exact tail (fun _=>hb.1 (by simpa using h7))
  ·rw [cond_false]
   exact tail (fun h=>absurd h h6)
 ·have:k=aL.length:=by omega
  subst this;exact aA (af ⟨rfl,.inl ⟨rfl,hz⟩⟩)
theorem Fz (hc:aH h=some 1) {x:Exec}:dS h x=some (0,1):=by
 unfold dS iU iO
 rw [hc]
 rfl
end
end Go.Proofs.YtmfgddafcgflaaaT
namespace Go.Proofs.YtmfgddafcgflaaaT
open Go Go.Proofs Go.Proofs.YtmfgddafcgflaaaE
set_option linter.unusedVariables false
set_option linter.unusedSimpArgs false
section
variable {h:History} {l:List Int}
end
end Go.Proofs.YtmfgddafcgflaaaT
namespace Go.Proofs.YtmfgddafcgflaaaT
open Go Go.Proofs Go.Proofs.YtmfgddafcgflaaaE
set_option linter.unusedVariables false
set_option linter.unusedSimpArgs false
abbrev XG (x:Exec):Prop:=((∀ y ∈ (x).Order,(Lit.int .i64 y).wf=true)∧((x).Order).length * 8≤140737488351232)∧((∀ y ∈ (x).Picks,(Lit.int .i64 y).wf=true)∧((x).Picks).length * 8≤140737488351232)
section
variable {h:History} {x:Exec}
structure nH (h:History) (x:Exec):Prop where
 sp:fT h h.Txns.length=[]
 ord:kF h x.Order
 len:x.Picks.length=(dh h h.Txns.length).length
 sess:DI h x.Order
 pick:∀ i,i < (dh h h.Txns.length).length→qa h x.Order (idx (dh h h.Txns.length) (i:Int)) (idx x.Picks (i:Int))=0
theorem wK {r:Int} (hw:Why h x r):r=0↔nH h x:=by
 constructor
 ·intro e;cases hw with
  | bad=>cases e
  | order=>cases e
  | picks=>cases e
  | sess=>cases e
  | pick h1 h2 h3 h4 h5 =>
   rcases h5 with ⟨_,h5⟩ | ⟨_,_,_,n,_⟩
   ·exact ⟨h1,h2,h3,h4,h5⟩
   ·exact absurd e n
 ·intro hf;exact Why.det hw (.pick hf.sp hf.ord hf.len hf.sess (.inl ⟨rfl,hf.pick⟩))
theorem yo {l:List Int} {a:Ask} {p:Int}:qa h l a p=0↔(p = -1∨Ahead h l a p)∧ver h l a p=a.Base:=by
 unfold qa
 by_cases h1:p ≠ -1 ∧ ¬ Ahead h l a p
 ·rw [if_pos h1]
  exact ⟨fun e=>(nomatch e),fun h2=>absurd h2.1 (fun h3=>h3.elim h1.1 h1.2)⟩
 ·rw [if_neg h1]
  have h1':p = -1∨Ahead h l a p:=by
   by_cases hp:p = -1
   ·exact .inl hp
   ·exact .inr (Classical.byContradiction fun h2=>h1 ⟨hp,h2⟩)
  by_cases h2:ver h l a p≠a.Base
  ·rw [if_pos h2]
   exact ⟨fun e=>(nomatch e),fun h3=>absurd h3.2 h2⟩
  ·rw [if_neg h2]
   exact ⟨fun _=>⟨h1',Classical.byContradiction h2⟩,fun _=>rfl⟩
theorem AU (hs:nW h) (hl:x.Order.length < 2 ^ 50) (hpl:x.Picks.length < 2 ^ 50):Tri (dS h x) (fun r=>(r=(0,1)∧aH h=some 1)∨(r.2=0∧fq h∧aH h=some 0∧Why h x r.1)):=by
 obtain ⟨v,hv,hv',a1,hiff⟩:=xc hs;rcases a1 with rfl | rfl
 ·exact dA (DK hs (hiff.1 rfl) hv hl hpl) (fun r hr => .inr ⟨hr.1,hiff.1 rfl,hv,hr.2⟩)
 ·exact BZ (Fz hv) (.inl ⟨rfl,hv⟩)
theorem xu {t u v:Int} (hut:u≠t) (hvt:v≠t):∀ {l:List Int},l.Nodup→u ∈ l→v ∈ l→pos l u < pos l v→pos (l.filter fun y=>decide (y≠t)) u < pos (l.filter fun y=>decide (y≠t)) v:=by
 intro l
 induction l with
 | nil=>intro _ h; cases h
 | cons y l ih =>
  intro hn hu hv hlt;obtain ⟨hy,hn'⟩:=List.nodup_cons.1 hn;unfold pos at hlt ⊢
  rw [List.findIdx_cons,List.findIdx_cons] at hlt
  by_cases hyt:y=t
  ·have e1:decide (y=u)=false:=decide_eq_false (fun e=>hut (by rw [← e,hyt]));have e2:decide (y=v)=false:=decide_eq_false (fun e=>hvt (by rw [← e,hyt]))
   rw [e1,e2,cond_false,cond_false] at hlt
   rw [List.filter_cons_of_neg (by simp [hyt])]
   exact ih hn' ((List.mem_cons.1 hu).resolve_left (fun e=>by simp [e] at e1)) ((List.mem_cons.1 hv).resolve_left (fun e=>by simp [e] at e2)) (by unfold pos; omega)
  ·rw [List.filter_cons_of_pos (by simp [hyt]),List.findIdx_cons,List.findIdx_cons]
   by_cases hyu:y=u
   ·rw [decide_eq_true hyu,cond_true] at hlt ⊢
    by_cases hyv:y=v
    ·rw [decide_eq_true hyv,cond_true] at hlt; omega
    ·rw [decide_eq_false hyv,cond_false]; omega
   ·rw [decide_eq_false hyu,cond_false] at hlt ⊢
    by_cases hyv:y=v
    ·rw [decide_eq_true hyv,cond_true] at hlt; omega
    ·rw [decide_eq_false hyv,cond_false] at hlt ⊢
     have:=ih hn' ((List.mem_cons.1 hu).resolve_left (fun e=>hyu e.symm)) ((List.mem_cons.1 hv).resolve_left (fun e=>hyv e.symm)) (by unfold pos; omega);unfold pos at this
     omega
end
end Go.Proofs.YtmfgddafcgflaaaT
namespace Go.Proofs.YtmfgddafcgflaaaT
open Go Go.Proofs Go.Proofs.YtmfgddafcgflaaaE
set_option linter.unusedVariables false
set_option linter.unusedSimpArgs false
theorem wrap_u32 {n:Nat} (h:n < 2 ^ 32):IntKind.wrap .u32 (n:Int)=(n:Int):=by
 unfold IntKind.wrap
 simp only [IntKind.bits,IntKind.signed,Bool.false_and]
 have:((n:Int) % (2 ^ 32:Int))=n:=Int.emod_eq_of_lt (by omega) (by omega)
 simp only [this]
 simp
theorem zK {a b:Nat} (ha:a < 2 ^ 32) (hb:b < 2 ^ 32):rU .u32 (a:Int) (b:Int)=((a &&& b:Nat):Int):=by
 unfold rU;have h:a &&& b < 2 ^ 32:=Nat.and_lt_two_pow _ hb
 rw [show IntKind.bits .u32=32 from rfl,BitVec.ofInt_natCast,BitVec.ofInt_natCast,BitVec.toNat_and,BitVec.toNat_ofNat,BitVec.toNat_ofNat,Nat.mod_eq_of_lt ha,Nat.mod_eq_of_lt hb]
 exact wrap_u32 h
theorem FB {a b:Nat} (ha:a < 2 ^ 32) (hb:b < 2 ^ 32):bOr .u32 (a:Int) (b:Int)=((a ||| b:Nat):Int):=by
 unfold bOr;have h:a ||| b < 2 ^ 32:=Nat.or_lt_two_pow ha hb
 rw [show IntKind.bits .u32=32 from rfl,BitVec.ofInt_natCast,BitVec.ofInt_natCast,BitVec.toNat_or,BitVec.toNat_ofNat,BitVec.toNat_ofNat,Nat.mod_eq_of_lt ha,Nat.mod_eq_of_lt hb]
 exact wrap_u32 h
def yR (a b:Nat):Nat:=a &&& (2 ^ 32 - 1 - b)
theorem zL {a b i:Nat} (ha:a < 2 ^ 32) (hb:b < 2 ^ 32):(yR a b).testBit i=(a.testBit i && !b.testBit i):=by
 unfold yR
 rw [Nat.testBit_and]
 have e:2 ^ 32 - 1 - b=2 ^ 32 - (b + 1):=by omega
 rw [e,Nat.testBit_two_pow_sub_succ hb]
 by_cases hi:i < 32
 ·simp [hi]
 ·have:a.testBit i=false:=Nat.testBit_lt_two_pow (Nat.lt_of_lt_of_le ha (Nat.pow_le_pow_right (by decide) (by omega)))
  simp [this]
theorem zM {a b:Nat} (ha:a < 2 ^ 32) (hb:b < 2 ^ 32):oZ .u32 (a:Int) (b:Int)=((yR a b:Nat):Int):=by
 unfold oZ
 rw [show IntKind.bits .u32=32 from rfl,BitVec.ofInt_natCast,BitVec.ofInt_natCast,BitVec.toNat_and,BitVec.toNat_not,BitVec.toNat_ofNat,BitVec.toNat_ofNat,Nat.mod_eq_of_lt ha,Nat.mod_eq_of_lt hb]
 exact wrap_u32 (Nat.lt_of_le_of_lt Nat.and_le_left ha)
theorem DL {n:Nat} (h:n < 32):mQ .u32 1 (n:Int)=((2 ^ n:Nat):Int):=by
 unfold mQ
 rw [show IntKind.bits .u32=32 from rfl,Int.toNat_natCast,Nat.min_eq_left (by omega)]
 have:(1:Int) * 2 ^ n=((2 ^ n:Nat):Int):=by rw [Int.one_mul]; exact (Int.natCast_pow 2 n).symm
 rw [this]
 exact wrap_u32 (Nat.pow_lt_pow_right (by decide) h)
theorem xw {a n:Nat} (h:n < 32):oq .u32 (a:Int) (n:Int)=((a >>> n:Nat):Int):=by
 unfold oq
 rw [show IntKind.bits .u32=32 from rfl,Int.toNat_natCast,Nat.min_eq_left (by omega),Nat.shiftRight_eq_div_pow]
 have:(2:Int) ^ n=((2 ^ n:Nat):Int):=(Int.natCast_pow 2 n).symm
 rw [this,Int.fdiv_eq_ediv_of_nonneg _ (Int.natCast_nonneg _)]
 exact (Int.natCast_ediv a (2 ^ n)).symm
def Wh (x:Int) (p:Nat→Prop):Prop:=∃ a:Nat,x=a∧a < 2 ^ 32∧∀ j,a.testBit j=true↔p j
theorem Wh.zero:Wh 0 (fun _=>False):=⟨0,rfl,by decide,by simp⟩
theorem Wh.congr {x:Int} {p q:Nat→Prop} (h:Wh x p) (e:∀ j,p j↔q j):Wh x q:=by
 obtain ⟨a,rfl,h1,h2⟩:=h;exact ⟨a,rfl,h1,fun j=>(h2 j).trans (e j)⟩
theorem Wh.lt {x:Int} {p:Nat→Prop} (h:Wh x p) {j:Nat} (hj:p j):j < 32:=by
 obtain ⟨a,rfl,h1,h2⟩:=h
 apply Nat.lt_of_not_le
 intro hle;have:=(h2 j).2 hj
 rw [Nat.testBit_lt_two_pow (Nat.lt_of_lt_of_le h1 (Nat.pow_le_pow_right (by decide) hle))] at this
 cases this
theorem Wh.or {x y:Int} {p q:Nat→Prop} (h:Wh x p) (h':Wh y q):Wh (bOr .u32 x y) (fun j=>p j∨q j):=by
 obtain ⟨a,rfl,h1,h2⟩:=h;obtain ⟨b,rfl,h3,h4⟩:=h';refine ⟨a ||| b,FB h1 h3,Nat.or_lt_two_pow h1 h3,fun j => ?_⟩
 rw [Nat.testBit_or,Bool.or_eq_true,h2,h4]
theorem Wh.and {x y:Int} {p q:Nat→Prop} (h:Wh x p) (h':Wh y q):Wh (rU .u32 x y) (fun j=>p j∧q j):=by
 obtain ⟨a,rfl,h1,h2⟩:=h;obtain ⟨b,rfl,h3,h4⟩:=h';refine ⟨a &&& b,zK h1 h3,Nat.and_lt_two_pow _ h3,fun j => ?_⟩
 rw [Nat.testBit_and,Bool.and_eq_true,h2,h4]
theorem Wh.minus {x y:Int} {p q:Nat→Prop} (h:Wh x p) (h':Wh y q):Wh (oZ .u32 x y) (fun j=>p j ∧ ¬ q j):=by
 obtain ⟨a,rfl,h1,h2⟩:=h;obtain ⟨b,rfl,h3,h4⟩:=h';refine ⟨_,zM h1 h3,Nat.lt_of_le_of_lt Nat.and_le_left h1,fun j => ?_⟩;have e:=h4 j
 rw [zL h1 h3,Bool.and_eq_true,h2,Bool.not_eq_true']
 show (p j∧b.testBit j=false)↔(p j ∧ ¬ q j)
 rw [← e]
 simp
theorem Wh.bit {n:Nat} (h:n < 32):Wh (mQ .u32 1 (n:Int)) (fun j=>j=n):=by
 refine ⟨_,DL h,Nat.pow_lt_pow_right (by decide) h,fun j => ?_⟩
 rw [Nat.testBit_two_pow]
 simp [eq_comm]
theorem Wh.none {x:Int} {p:Nat→Prop} (h:Wh x p):x=0↔∀ j,¬ p j:=by
 obtain ⟨a,rfl,h1,h2⟩:=h
 constructor
 ·intro e j hj;have:a=0:=by omega
  subst this;have:=(h2 j).2 hj
  simp at this
 ·intro hn;have:a=0:=by
   apply Nat.eq_of_testBit_eq
   intro i
   rw [Nat.zero_testBit]
   cases hb:a.testBit i
   ·rfl
   ·exact absurd ((h2 i).1 hb) (hn i)
  subst this
  rfl
theorem Wh.det {x y:Int} {p:Nat→Prop} (h:Wh x p) (h':Wh y p):x=y:=by
 obtain ⟨a,rfl,h1,h2⟩:=h;obtain ⟨b,rfl,h3,h4⟩:=h'
 congr 1
 apply Nat.eq_of_testBit_eq
 intro i
 rw [Bool.eq_iff_iff,h2,h4]
theorem Wh.look {x:Int} {p:Nat→Prop} {n:Nat} (h:Wh x p) (hn:n < 32):(rU .u32 (oq .u32 x (n:Int)) 1 == 1)=true↔p n:=by
 obtain ⟨a,rfl,h1,h2⟩:=h
 rw [xw hn,show (1:Int)=((1:Nat):Int) from rfl,zK (Nat.lt_of_le_of_lt (Nat.shiftRight_le _ _) h1) (by decide),FP,← h2 n]
 cases a.testBit n <;> simp
theorem Wh.rf {x:Int} {p:Nat→Prop} {n:Nat} (h:Wh x p) (hn:n < 32):Rf (rU .u32 (oq .u32 x (n:Int)) 1 == 1) (p n):=⟨h.look hn⟩
theorem Wh.big {x:Int} {p:Nat→Prop} (h:Wh x p):0≤x∧x < 2 ^ 32:=by
 obtain ⟨a,rfl,h1,h2⟩:=h
 omega
theorem Wh.next {x:Int} {p:Nat→Prop} (h:Wh x p):Wh (oq .u32 x 1) (fun j=>p (j + 1)):=by
 obtain ⟨a,rfl,h1,h2⟩:=h;refine ⟨a >>> 1,xw (n:=1) (by decide),Nat.lt_of_le_of_lt (Nat.shiftRight_le _ _) h1,fun j => ?_⟩
 rw [Nat.testBit_shiftRight,Nat.add_comm]
 exact h2 _
theorem Wh.odd {x:Int} {p:Nat→Prop} (h:Wh x p):(rU .u32 x 1 == 1)=true↔p 0:=by
 have:=h.look (n:=0) (by decide);obtain ⟨a,rfl,h1,h2⟩:=h
 rwa [xw (by decide:0 < 32)] at this
theorem CP {σ:Type} {Y:σ→Int→Option (Bool×σ)} {x:Int} {p:Nat→Prop} (h:Wh x p) (I:Nat→σ→Prop) {s0:σ} (h0:I 0 s0)
  (hs:∀ (t:Nat) (s:σ),t < 32→I t s→p t→Tri (Y s (t:Int)) (fun r=>r.1=true∧I (t + 1) r.2)) (hn:∀ (t:Nat) (s:σ),t < 32→I t s → ¬ p t→I (t + 1) s)
  {Q:σ→Prop} (hq:∀ (t:Nat) (s:σ),t≤32→I t s→(∀ u,t≤u → ¬ p u)→Q s):Tri (bY Y x s0) Q:=by
 unfold bY;refine dz (k0:=0) 32 (fun t s=>s.2.1=(t:Int)∧Wh s.1 (fun j=>p (j + t))∧I t s.2.2) (Nat.zero_le _) ⟨rfl,h,h0⟩ ?_;rintro t ⟨y,z,s⟩ ht ⟨e,hw,hi⟩
 dsimp only at e hw hi
 subst e;have a3:w64 ((t:Int) + 1)=((t + 1:Nat):Int):=bu (by omega);unfold mZ kS
 dsimp only
 have a4:y=0→Q s:=fun e=>hq t s ht hi (fun u hu hp=>hw.none.1 e (u - t) (by rw [Nat.sub_add_cancel hu]; exact hp));refine ak (fun h1 => ?_) (fun h1=>aA (af (a4 (Classical.byContradiction h1))));have a1:t < 32:=by
  apply Nat.lt_of_not_le
  intro hle;have:t=32:=by omega
  subst this;exact h1 (hw.none.2 (fun j hj=>by have:=h.lt hj; omega))
 have nx:∀ s',I (t + 1) s'→Tri (bif false then out (some s') else (must (0≤(1:Int)∧(1:Int) < (far:Int)) (some (.inl (oq .u32 y (1:Int),((t + 1:Nat):Int),s')))))
   (Upm 32 t (fun t s=>s.2.1=(t:Int)∧Wh s.1 (fun j=>p (j + t))∧I t s.2.2) Q):=fun s' hs'=>by
  rw [cond_false]
  refine ai (by decide) (af ⟨a1,rfl,?_,hs'⟩);exact hw.next.congr (fun j=>by rw [Nat.add_right_comm,Nat.add_assoc])
 have a2:(rU .u32 y 1 == 1)=true↔p t:=by simpa using hw.odd
 rw [a3]
 cases hb:(rU .u32 y 1 == 1) with
 | true =>
  rw [cond_true]
  refine bJ (hs t s a1 hi (a2.1 hb)) (fun r hr => ?_)
  rw [hr.1,Bool.not_true]
  exact nx _ hr.2
 | false =>
  rw [cond_false]
  exact nx _ (hn t s a1 hi (fun hp=>by rw [a2.2 hp] at hb; cases hb))
theorem vT {Y:(Int ⊕ Unit)→Int→Option (Bool×(Int ⊕ Unit))} {W:Nat→Int} (hY:∀ (x:Int) (t:Nat),t < 32→Y (.inl x) (t:Int)=some (true,.inl (bOr .u32 x (W t))))
  {x:Int} {p:Nat→Prop} (h:Wh x p) {q:Nat→Nat→Prop} (hW:∀ t,t < 32→p t→Wh (W t) (q t)) :
  Tri (bY Y x (.inl x)) (fun s=>∃ z,s = .inl z∧Wh z (fun j=>p j∨∃ t,p t∧q t j)∧x.toNat≤z.toNat∧(z=x∨x.toNat < z.toNat)):=by
 refine CP h (fun t s=>∃ z,s = .inl z∧Wh z (fun j=>p j∨∃ u,u < t∧p u∧q u j)) ⟨x,rfl,h.congr (fun j=>⟨.inl,fun h=>h.elim id (fun ⟨u,hu,_⟩=>absurd hu (Nat.not_lt_zero _))⟩)⟩ ?_ ?_ ?_
 ·rintro t s ht ⟨z,rfl,hz⟩ hp;refine BZ (hY z t ht) ⟨rfl,_,rfl,(hz.or (hW t ht hp)).congr (fun j => ?_)⟩
  constructor
  ·rintro ((h1 | ⟨u,h1,h2⟩) | h1)
   ·exact .inl h1
   ·exact .inr ⟨u,by omega,h2⟩
   ·exact .inr ⟨t,by omega,hp,h1⟩
  ·rintro (h1 | ⟨u,h1,h2,h3⟩)
   ·exact .inl (.inl h1)
   ·rcases Nat.lt_or_ge u t with h4 | h4
    ·exact .inl (.inr ⟨u,h4,h2,h3⟩)
    ·have:u=t:=by omega
     exact .inr (this ▸ h3)
 ·rintro t s ht ⟨z,rfl,hz⟩ hp;refine ⟨z,rfl,hz.congr (fun j => ?_)⟩
  constructor
  ·rintro (h1 | ⟨u,h1,h2⟩)
   ·exact .inl h1
   ·exact .inr ⟨u,by omega,h2⟩
  ·rintro (h1 | ⟨u,h1,h2,h3⟩)
   ·exact .inl h1
   ·refine .inr ⟨u,?_,h2,h3⟩;have:u≠t:=fun e=>hp (e ▸ h2)
    omega
 ·rintro t s ht ⟨z,rfl,hz⟩ hno;have hz':Wh z (fun j=>p j∨∃ t,p t∧q t j):=hz.congr (fun j=>⟨fun h=>h.elim .inl (fun ⟨u,_,h2⟩ => .inr ⟨u,h2⟩),fun h=>h.elim .inl (fun ⟨u,h2,h3⟩ => .inr ⟨u,Nat.lt_of_not_le (fun hle=>hno u hle h2),h2,h3⟩)⟩);refine ⟨z,rfl,hz',?_⟩;obtain ⟨a,rfl,a1,a2⟩:=h;obtain ⟨b,rfl,b1,b2⟩:=hz';have hsub:a ||| b=b:=Nat.eq_of_testBit_eq (fun i=>by
   rw [Nat.testBit_or]
   cases ha:a.testBit i
   ·simp
   ·rw [(b2 i).2 (.inl ((a2 i).1 ha))]; rfl)
  have hle:a≤b:=by rw [← hsub]; exact Nat.left_le_or
  simp only [Int.toNat_natCast]
  exact ⟨hle,by omega⟩
end Go.Proofs.YtmfgddafcgflaaaT
namespace Go.Proofs.YtmfgddafcgflaaaT
open Go Go.Proofs Go.Proofs.YtmfgddafcgflaaaE
set_option linter.unusedVariables false
set_option linter.unusedSimpArgs false
section
variable {h:History} {x:Exec} {l:List Int}
def Wr (h:History) (l:List Int) (k:Int) (u:Nat):Prop:=0≤k∧k < (h.Keys.length:Int)∧(u:Int) ∈ l∧0 < (jX h (u:Int) k).length
def qb (h:History) (x:Exec) (t u:Nat):Prop:=((t:Int) ∈ x.Order∧pos x.Order (u:Int) < pos x.Order (t:Int)∧(idx h.Txns (u:Int)).Proc=(idx h.Txns (t:Int)).Proc) ∨
 ∃ q:Nat,q < (dh h h.Txns.length).length∧(idx (dh h h.Txns.length) (q:Int)).Txn=(t:Int)∧idx x.Picks (q:Int)=(u:Int)
structure rH (h:History) (x:Exec) (w:aY):Prop where
 eh:w.h=h
 ex:w.x=x
 ea:w.asks=dh h h.Txns.length
 at_:∀ t:Nat,t < 32→idx w.at_ (t:Int)=if (t:Int) ∈ x.Order then (pos x.Order (t:Int):Int) + 1 else 0
 bh:∀ t:Nat,t < 32→Wh (idx w.behind (t:Int)) (fun u=>(t:Int) ∈ x.Order∧pos x.Order (u:Int) < pos x.Order (t:Int))
 nr:∀ t:Nat,t < 32→Wh (idx w.near (t:Int)) (qb h x t)
 nd:(mg w.writes).Nodup
 wv:∀ k,Wh (mat w.writes k) (Wr h x.Order k)
 wk:∀ k u,Wr h x.Order k u→k ∈ mg w.writes
theorem uA {p:Nat→Prop} (h:∀ u,¬ p u):Wh 0 p:=Wh.zero.congr fun u=>⟨fun h=>h.elim,fun h2=>h u h2⟩
theorem AV (ho:kF h l) {k:Nat} (hk:k < l.length):∃ n:Nat,idx l (k:Int)=(n:Int)∧n < h.Txns.length∧pos l (n:Int)=k:=by
 have hr:=ho.rg _ (qE hk);have e:((idx l (k:Int)).toNat:Int)=idx l (k:Int):=by omega
 exact ⟨(idx l (k:Int)).toNat,e.symm,by omega,by rw [e]; exact GG ho.nd hk⟩
theorem vC {t:Int} {k:Nat} (hk:k < l.length) (e:pos l t=k):t=idx l (k:Int):=by
 have:=qF (jb.1 (by omega:pos l t < l.length))
 rw [e] at this
 exact this.symm
theorem CQ {j k:Nat} (hj:j < k) (hk:k≤l.length):idx (l.take k) (j:Int)=idx l (j:Int):=by
 rw [dG (n:=j) rfl (by rw [List.length_take]; omega),dG (n:=j) rfl (by omega),List.getElem_take]
theorem FC (ho:kF h x.Order) (a3:h.Txns.length≤32) {at_ beh near:List Int} {wd:Int} {k n:Nat} (hk:k < x.Order.length) (hn:idx x.Order (k:Int)=(n:Int)) (hnl:n < h.Txns.length) (hp:pos x.Order (n:Int)=k)
  (hN:∀ t:Nat,t < 32→Wh (idx near (t:Int)) (fun u=>pos x.Order (t:Int) < k∧pos x.Order (u:Int) < pos x.Order (t:Int)∧(idx h.Txns (u:Int)).Proc=(idx h.Txns (t:Int)).Proc))
  {Q:(List Int×List Int×List Int×Int×Int) ⊕ (aY×Int)→Prop} (hq:∀ near',(∀ t:Nat,t < 32→Wh (idx near' (t:Int)) (fun u=>pos x.Order (t:Int) < k + 1∧pos x.Order (u:Int) < pos x.Order (t:Int)∧(idx h.Txns (u:Int)).Proc=(idx h.Txns (t:Int)).Proc)) →
   Q (.inl (ny 32 at_ (n:Int) ((k + 1:Nat):Int),ny 32 beh (n:Int) wd,near',bOr .u32 wd (mQ .u32 1 (n:Int)),((k + 1:Nat):Int)))) :
  Tri (iter (kN h x at_ beh wd (k:Int)) (near,0)) Q:=by
 have hol:=ho.len;refine dz (k0:=0) k (fun j s=>s.2=(j:Int)∧∀ t:Nat,t < 32→Wh (idx s.1 (t:Int)) (fun u=>(pos x.Order (t:Int) < k∧pos x.Order (u:Int) < pos x.Order (t:Int)∧(idx h.Txns (u:Int)).Proc=(idx h.Txns (t:Int)).Proc)∨(t=n∧pos x.Order (u:Int) < j∧(idx h.Txns (u:Int)).Proc=(idx h.Txns (n:Int)).Proc)))
  (Nat.zero_le _) ⟨rfl,fun t ht=>(hN t ht).congr (fun u=>⟨.inl,fun h=>h.elim id (fun h2=>absurd h2.2.1 (Nat.not_lt_zero _))⟩)⟩ ?_
 rintro j ⟨nr,z⟩ hj ⟨e,hi⟩
 dsimp only at e hi
 subst e;have hw:w64 ((j:Int) + 1)=((j + 1:Nat):Int):=bu (by omega);have a2:w64 ((k:Int) + 1)=((k + 1:Nat):Int):=bu (by omega);unfold kN kM
 dsimp only
 rw [hw,a2,kX (by omega),List.length_take,Nat.min_eq_left (by omega),hn]
 refine ak (fun h1 => ?_) (fun h1 => ?_)
 ·have a1:j < k:=by omega
  rw [CQ a1 (by omega)]
  obtain ⟨m,em,hml,hmp⟩:=AV ho (by omega:j < x.Order.length)
  rw [em]
  refine ai (by omega) (ai (by omega) (ai (by omega) ?_));refine ak (fun h2 => ?_) (fun h2 => ?_)
  ·refine ai ⟨by omega,by unfold far; omega⟩ (af ⟨a1,rfl,fun t ht => ?_⟩)
   dsimp only
   rw [rV ht]
   by_cases htn:(t:Int)=(n:Int)
   ·rw [if_pos htn]
    have:t=n:=by omega
    subst this;refine ((hi t ht).or (Wh.bit (by omega:m < 32))).congr (fun u => ?_)
    constructor
    ·rintro ((⟨h3,_⟩ | ⟨_,h3,h4⟩) | rfl)
     ·omega
     ·exact .inr ⟨rfl,by omega,h4⟩
     ·exact .inr ⟨rfl,by omega,h2⟩
    ·rintro (⟨h3,_⟩ | ⟨_,h3,h4⟩)
     ·omega
     ·by_cases h5:pos x.Order (u:Int)=j
      ·right
       have:=vC (by omega) h5
       omega
      ·exact .inl (.inr ⟨rfl,by omega,h4⟩)
   ·rw [if_neg htn]
    refine (hi t ht).congr (fun u => ?_);have htn':t≠n:=fun e=>htn (by rw [e])
    constructor
    ·rintro (h3 | ⟨h3,_⟩)
     ·exact .inl h3
     ·exact absurd h3 htn'
    ·rintro (h3 | ⟨h3,_⟩)
     ·exact .inl h3
     ·exact absurd h3 htn'
  ·refine af ⟨a1,rfl,fun t ht=>(hi t ht).congr (fun u => ?_)⟩
   constructor
   ·rintro (h3 | ⟨h3,h4,h5⟩)
    ·exact .inl h3
    ·exact .inr ⟨h3,by omega,h5⟩
   ·rintro (h3 | ⟨h3,h4,h5⟩)
    ·exact .inl h3
    ·refine .inr ⟨h3,?_,h5⟩;have:pos x.Order (u:Int)≠j:=fun e=>by
      have h6:=vC (by omega) e
      rw [em] at h6
      exact h2 (h6 ▸ h5)
     omega
 ·have:j=k:=by omega
  subst this;refine ai ⟨by omega,by unfold far; omega⟩ (aA (af (hq nr (fun t ht=>(hi t ht).congr (fun u => ?_)))))
  constructor
  ·rintro (⟨h3,h4,h5⟩ | ⟨rfl,h4,h5⟩)
   ·exact ⟨by omega,h4,h5⟩
   ·exact ⟨by omega,by omega,h5⟩
  ·rintro ⟨h3,h4,h5⟩
   by_cases h6:pos x.Order (t:Int)=j
   ·have h7:=vC hk h6;have:t=n:=by omega
    subst this;exact .inr ⟨rfl,by omega,h5⟩
   ·exact .inl ⟨by omega,h4,h5⟩
theorem FD {m:List (Int×Int)} (hn:(mg m).Nodup) {p:Int×Int} (hp:p ∈ m):p.2=mat m p.1:=by
 obtain ⟨j,hj⟩:=List.getElem?_of_mem hp;refine (uU (x:=p.1) (y:=p.2) (j:=j) hj (fun i k hij hk e => ?_)).1.symm;subst e;have h1:(mg m)[j]? = some p.1:=by rw [List.getElem?_map,hj]; rfl
 have hi:=(List.getElem?_eq_some_iff.1 hk).1;have hjl:=(List.getElem?_eq_some_iff.1 h1).1;have:=(List.getElem_inj (h₀:=hi) (h₁:=hjl) hn).1 (by
  have h2:=(List.getElem?_eq_some_iff.1 hk).2;have h3:=(List.getElem?_eq_some_iff.1 h1).2
  rw [h2,h3])
 omega
structure WrM (S:Int→Nat→Prop) (m:List (Int×Int)):Prop where
 nd:(mg m).Nodup
 wv:∀ k,Wh (mat m k) (S k)
 wk:∀ k u,S k u→k ∈ mg m
theorem WrM.congr {S T:Int→Nat→Prop} {m:List (Int×Int)} (hm:WrM S m) (e:∀ k u,S k u↔T k u):WrM T m:=⟨hm.nd,fun k=>(hm.wv k).congr (e k),fun k u hu=>hm.wk k u ((e k u).2 hu)⟩
theorem WrM.put {S:Int→Nat→Prop} {m:List (Int×Int)} (hm:WrM S m) {k:Int} {n:Nat} (hn:n < 32):WrM (fun c u=>S c u∨(c=k∧u=n)) (eB m k (bOr .u32 (mat m k) (mQ .u32 1 (n:Int)))):=by
 refine ⟨?_,fun c => ?_,fun c u hu => ?_⟩
 ·rw [og]
  split
  ·exact hm.nd
  ·rename_i hx
   rw [List.nodup_append]
   exact ⟨hm.nd,by simp,by intro a ha b hb; rw [List.mem_singleton.1 hb]; intro e; exact hx (e ▸ ha)⟩
 ·rw [lW]
  split
  ·rename_i e
   subst e;exact ((hm.wv c).or (Wh.bit hn)).congr (fun u=>⟨fun h=>h.elim .inl (fun e => .inr ⟨rfl,e⟩),fun h=>h.elim .inl (fun e => .inr e.2)⟩)
  ·rename_i e
   exact (hm.wv c).congr (fun u=>⟨.inl,fun h=>h.elim id (fun e2=>absurd e2.1 e)⟩)
 ·rw [og]
  split
  ·rename_i hx
   rcases hu with hu | ⟨rfl,_⟩
   ·exact hm.wk c u hu
   ·exact hx
  ·rcases hu with hu | ⟨rfl,_⟩
   ·exact List.mem_append_left _ (hm.wk c u hu)
   ·exact List.mem_append_right _ (List.mem_singleton_self _)
theorem zN (hs:nW h) (hl:x.Order.length < 2 ^ 50) (hpl:x.Picks.length < 2 ^ 50) :
  Tri (aG h x) (fun r=>(r.2=1 ∧ ¬ (fq h∧nH h x))∨(r.2=0∧fq h∧aH h=some 0∧nH h x∧rH h x r.1)):=by
 obtain ⟨v,hv,hv',a8,hiff⟩:=xc hs;unfold aG kR;refine bJ (AU hs hl hpl) (fun y hy => ?_);rcases hy with ⟨rfl,hc⟩ | ⟨h0,hS,hc,hw⟩
 ·refine ak (fun _=>af (.inl ⟨rfl,fun hq => ?_⟩)) (fun h=>absurd (by decide) h)
  rw [hv] at hc
  have:=hiff.2 hq.1;cases hc;cases this
 refine ak (fun h=>absurd h0 h) (fun _ => ?_);refine ak (fun h1=>af (.inl ⟨rfl,fun hq=>h1 ((wK hw).2 hq.2)⟩)) (fun h1 => ?_);have hf:nH h x:=(wK hw).1 (Classical.byContradiction h1);have ho:=hf.ord;have a5:=hS.len;have hol:=ho.len;have hA:iU h=some (dh h h.Txns.length,0):=by unfold iU; rw [xh hs hS hc]; rfl
 obtain ⟨n1,n2,_⟩:=sw hS h.Txns.length (Nat.le_refl _);refine dO hA ?_;refine dz (k0:=0) x.Order.length (fun k s=>s.2.2.2.2=(k:Int)∧(∀ t:Nat,t < 32→idx s.1 (t:Int)=if pos x.Order (t:Int) < k then (pos x.Order (t:Int):Int) + 1 else 0) ∧
  (∀ t:Nat,t < 32→Wh (idx s.2.1 (t:Int)) (fun u=>pos x.Order (t:Int) < k∧pos x.Order (u:Int) < pos x.Order (t:Int))) ∧
  (∀ t:Nat,t < 32→Wh (idx s.2.2.1 (t:Int)) (fun u=>pos x.Order (t:Int) < k∧pos x.Order (u:Int) < pos x.Order (t:Int)∧(idx h.Txns (u:Int)).Proc=(idx h.Txns (t:Int)).Proc)) ∧
  Wh s.2.2.2.1 (fun u=>pos x.Order (u:Int) < k)) (Nat.zero_le _)
  ⟨rfl,fun t ht=>(by rw [if_neg (Nat.not_lt_zero _)]; rfl),by exact fun t ht=>uA fun u h=>Nat.not_lt_zero _ h.1,by exact fun t ht=>uA fun u h=>Nat.not_lt_zero _ h.1,by exact uA fun u h=>Nat.not_lt_zero _ h⟩ ?_
 rintro k ⟨at_,beh,near,wd,z⟩ hk ⟨e,iA,iB,iN,iW⟩
 dsimp only at e iA iB iN iW
 subst e;unfold mY
 dsimp only
 refine ak (fun h2 => ?_) (fun h2 => ?_)
 ·have a2:k < x.Order.length:=by omega
  obtain ⟨n,en,hnl,hnp⟩:=AV ho a2;refine ai (by omega) (ai (by rw [en]; omega) (ai (by omega) ?_));refine FC ho a5 a2 en hnl hnp iN (fun near' hN'=>⟨a2,rfl,fun t ht => ?_,fun t ht => ?_,hN',?_⟩)
  ·dsimp only
   rw [rV ht,iA t ht]
   by_cases e:(t:Int)=(n:Int)
   ·rw [if_pos e,e,hnp,if_pos (by omega)]; omega
   ·rw [if_neg e]
    have:pos x.Order (t:Int)≠k:=fun h5=>e (by rw [vC a2 h5,en])
    by_cases h6:pos x.Order (t:Int) < k
    ·rw [if_pos h6,if_pos (by omega)]
    ·rw [if_neg h6,if_neg (by omega)]
  ·dsimp only
   rw [rV ht]
   by_cases e:(t:Int)=(n:Int)
   ·rw [if_pos e,e,hnp]
    exact iW.congr (fun u=>⟨fun h=>⟨by omega,h⟩,fun h=>h.2⟩)
   ·rw [if_neg e]
    refine (iB t ht).congr (fun u => ?_);have:pos x.Order (t:Int)≠k:=fun h5=>e (by rw [vC a2 h5,en])
    constructor
    ·exact fun h=>⟨by omega,h.2⟩
    ·exact fun h=>⟨by omega,h.2⟩
  ·refine (iW.or (Wh.bit (by omega:n < 32))).congr (fun u => ?_)
   constructor
   ·rintro (h3 | rfl)
    ·omega
    ·omega
   ·intro h3
    by_cases h4:pos x.Order (u:Int)=k
    ·right
     have:=vC a2 h4
     omega
    ·left; omega
 ·have:k=x.Order.length:=by omega
  subst this;generalize hAs:dh h h.Txns.length=aL at n1 ⊢;refine dz (k0:=0) aL.length (fun i s=>s.2=(i:Int)∧∀ t:Nat,t < 32→Wh (idx s.1 (t:Int)) (fun u=>(pos x.Order (t:Int) < x.Order.length∧pos x.Order (u:Int) < pos x.Order (t:Int)∧(idx h.Txns (u:Int)).Proc=(idx h.Txns (t:Int)).Proc) ∨
   ∃ q:Nat,q < i∧(idx aL (q:Int)).Txn=(t:Int)∧idx x.Picks (q:Int)=(u:Int))) (Nat.zero_le _) ⟨rfl,fun t ht=>(iN t ht).congr (fun u=>⟨.inl,fun h=>h.elim id (fun ⟨q,hq,_⟩=>absurd hq (Nat.not_lt_zero _))⟩)⟩ ?_
  rintro i ⟨nr,z⟩ hi ⟨e,iM⟩
  dsimp only at e iM
  subst e;have hwi:w64 ((i:Int) + 1)=((i + 1:Nat):Int):=bu (by omega);unfold mX kP
  dsimp only
  rw [hwi]
  have hple:=hf.len
  rw [hAs] at hple
  refine ak (fun h3 => ?_) (fun h3 => ?_)
  ·have a3:i < aL.length:=by omega
   obtain ⟨a,ea,hal,_⟩:=xq (h:=h) (by rw [hAs]; exact xn a3);have hpk:=(yo.1 (hf.pick i (by rw [hAs]; exact a3))).1
   rw [hAs] at hpk
   refine ai (by omega) (ai (by omega) ?_)
   rw [ea]
   refine ak (fun h4 => ?_) (fun h4 => ?_)
   ·have hin:idx x.Picks (i:Int) ∈ x.Order:=by
     rcases hpk with h5 | h5
     ·omega
     ·exact h5.1
    have hr:=ho.rg _ hin;obtain ⟨b,eb⟩:∃ b:Nat,idx x.Picks (i:Int)=(b:Int):=⟨(idx x.Picks (i:Int)).toNat,by omega⟩
    rw [eb] at hr ⊢
    refine ai (by omega) (ai ⟨by omega,by unfold far; omega⟩ (af ⟨a3,rfl,fun t ht => ?_⟩))
    dsimp only
    rw [rV ht]
    by_cases e:(t:Int)=(a:Int)
    ·rw [if_pos e]
     have:t=a:=by omega
     subst this;refine ((iM t ht).or (Wh.bit (by omega:b < 32))).congr (fun u => ?_)
     constructor
     ·rintro ((h5 | ⟨q,h5,h6⟩) | rfl)
      ·exact .inl h5
      ·exact .inr ⟨q,by omega,h6⟩
      ·exact .inr ⟨i,by omega,ea,eb⟩
     ·rintro (h5 | ⟨q,h5,h6,h7⟩)
      ·exact .inl (.inl h5)
      ·by_cases h8:q=i
       ·right
        rw [h8,eb] at h7
        omega
       ·exact .inl (.inr ⟨q,by omega,h6,h7⟩)
    ·rw [if_neg e]
     refine (iM t ht).congr (fun u => ?_)
     constructor
     ·rintro (h5 | ⟨q,h5,h6⟩)
      ·exact .inl h5
      ·exact .inr ⟨q,by omega,h6⟩
     ·rintro (h5 | ⟨q,h5,h6,h7⟩)
      ·exact .inl h5
      ·refine .inr ⟨q,?_,h6,h7⟩;have:q≠i:=fun e2=>e (by rw [← h6,e2,ea])
       omega
   ·refine af ⟨a3,rfl,fun t ht=>(iM t ht).congr (fun u => ?_)⟩
    constructor
    ·rintro (h5 | ⟨q,h5,h6⟩)
     ·exact .inl h5
     ·exact .inr ⟨q,by omega,h6⟩
    ·rintro (h5 | ⟨q,h5,h6,h7⟩)
     ·exact .inl h5
     ·refine .inr ⟨q,?_,h6,h7⟩;have:q≠i:=fun e2=>h4 (by rw [← e2,h7]; omega)
      omega
  ·have:i=aL.length:=by omega
   subst this;have hkl:=hS.names;have b0:h.Keys.length≤32:=hkl.1;refine dz (k0:=0) h.Keys.length (fun c s=>s.2=(c:Int)∧WrM (fun k u=>k < (c:Int)∧Wr h x.Order k u) s.1) (Nat.zero_le _) ⟨rfl,by exact ⟨List.nodup_nil,fun k=>uA fun u h5=>by have:=h5.2.1; omega,fun k u h5=>by have:=h5.2.1; omega⟩⟩ ?_
   rintro c ⟨m,z⟩ a9 ⟨e,iK⟩
   dsimp only at e iK
   subst e;unfold mW
   dsimp only
   refine ak (fun h4 => ?_) (fun h4 => ?_)
   ·have a6:c < h.Keys.length:=by omega
    refine dO (yO hS hc) ?_;have hwl:=sU (h:=h) (key:=(c:Int)) (k:=h.Txns.length);have hwm:=fun t=>zD (h:=h) (key:=(c:Int)) (k:=h.Txns.length) (t:=t);generalize iQ h (c:Int) h.Txns.length=wl at hwl hwm;refine dz (k0:=0) wl.length (fun j s=>s.2=(j:Int)∧WrM (fun k u=>(k < (c:Int)∧Wr h x.Order k u)∨(k=(c:Int)∧(u:Int) ∈ x.Order∧∃ q:Nat,q < j∧idx wl (q:Int)=(u:Int))) s.1) (Nat.zero_le _)
     ⟨rfl,iK.congr (fun k u=>⟨.inl,fun h5=>h5.elim id (fun ⟨_,_,q,hq,_⟩=>absurd hq (Nat.not_lt_zero _))⟩)⟩ ?_
    rintro j ⟨m2,z⟩ hj ⟨e,iJ⟩
    dsimp only at e iJ
    subst e;have hwj:w64 ((j:Int) + 1)=((j + 1:Nat):Int):=bu (by omega);have hwc:w64 ((c:Int) + 1)=((c + 1:Nat):Int):=bu (by omega);unfold mV kQ
    dsimp only
    rw [hwj,hwc]
    refine ak (fun h5 => ?_) (fun h5 => ?_)
    ·have a4:j < wl.length:=by omega
     have hmm:=(hwm _).1 (qE a4);obtain ⟨b,eb⟩:∃ b:Nat,idx wl (j:Int)=(b:Int):=⟨(idx wl (j:Int)).toNat,by omega⟩
     rw [eb] at hmm ⊢
     refine ai (by omega) (ai (by omega) ?_);have hat:(idx at_ (b:Int) > 0)↔(b:Int) ∈ x.Order:=by
      rw [iA b (by omega),← jb]
      split
      ·rename_i h6; exact ⟨fun _=>h6,fun _=>by omega⟩
      ·rename_i h6; exact ⟨fun h7=>absurd h7 (by omega),fun h7=>absurd h7 h6⟩
     refine ak (fun h6 => ?_) (fun h6 => ?_)
     ·refine ai ⟨by omega,by unfold far; omega⟩ (af ⟨a4,rfl,(iJ.put (k:=(c:Int)) (by omega:b < 32)).congr (fun k u => ?_)⟩)
      constructor
      ·rintro ((h7 | ⟨h7,h8,q,h9,a1⟩) | ⟨h7,rfl⟩)
       ·exact .inl h7
       ·exact .inr ⟨h7,h8,q,by omega,a1⟩
       ·exact .inr ⟨h7,hat.1 h6,j,by omega,eb⟩
      ·rintro (h7 | ⟨h7,h8,q,h9,a1⟩)
       ·exact .inl (.inl h7)
       ·by_cases a7:q=j
        ·refine .inr ⟨h7,?_⟩
         rw [a7,eb] at a1
         omega
        ·exact .inl (.inr ⟨h7,h8,q,by omega,a1⟩)
     ·refine af ⟨a4,rfl,iJ.congr (fun k u => ?_)⟩
      constructor
      ·rintro (h7 | ⟨h7,h8,q,h9,a1⟩)
       ·exact .inl h7
       ·exact .inr ⟨h7,h8,q,by omega,a1⟩
      ·rintro (h7 | ⟨h7,h8,q,h9,a1⟩)
       ·exact .inl h7
       ·refine .inr ⟨h7,h8,q,?_,a1⟩;have:q≠j:=fun e=>h6 (hat.2 (by rw [← eb,← e,a1]; exact h8))
        omega
    ·have:j=wl.length:=by omega
     subst this;refine aA (af ⟨a6,rfl,iJ.congr (fun k u => ?_)⟩)
     constructor
     ·rintro (⟨h7,h8⟩ | ⟨h7,h8,q,h9,a1⟩)
      ·exact ⟨by omega,h8⟩
      ·subst h7;have:=(hwm _).1 (a1 ▸ qE h9);exact ⟨by omega,by omega,by omega,h8,this.2.2.2⟩
     ·rintro ⟨h7,h8⟩
      by_cases h9:k=(c:Int)
      ·subst h9;obtain ⟨w1,w2,w3,w4⟩:=h8;have hr:=ho.rg _ w3;obtain ⟨q,hq,hqe⟩:=yP ((hwm _).2 ⟨hr.1,hr.2.1,hr.2.2,w4⟩);exact .inr ⟨rfl,w3,q,hq,hqe⟩
      ·exact .inl ⟨by omega,h8⟩
   ·have:c=h.Keys.length:=by omega
    subst this;refine aA (aA (aA (af (.inr ⟨rfl,hS,hc,hf,?_⟩))));refine ⟨rfl,rfl,hAs.symm,fun t ht => ?_,fun t ht => ?_,fun t ht => ?_,iK.nd,fun k=>(iK.wv k).congr (fun u=>⟨fun h=>h.2,fun h=>⟨h.2.1,h⟩⟩),fun k u hu=>iK.wk k u ⟨hu.2.1,hu⟩⟩
    ·dsimp only
     rw [iA t ht]
     by_cases h5:(t:Int) ∈ x.Order
     ·rw [if_pos h5,if_pos (jb.2 h5)]
     ·rw [if_neg h5,if_neg (fun h6=>h5 (jb.1 h6))]
    ·exact (iB t ht).congr (fun u=>⟨fun h=>⟨jb.1 h.1,h.2⟩,fun h=>⟨jb.2 h.1,h.2⟩⟩)
    ·refine (iM t ht).congr (fun u => ?_);unfold qb
     rw [hAs,← jb]
end
end Go.Proofs.YtmfgddafcgflaaaT
namespace Go.Proofs.YtmfgddafcgflaaaT
open Go Go.Proofs Go.Proofs.YtmfgddafcgflaaaE
set_option linter.unusedVariables false
set_option linter.unusedSimpArgs false
section
variable {h:History} {x:Exec} {w:aY}
abbrev jF (h:History):List Ask:=dh h h.Txns.length
abbrev oh (h:History) (i:Nat):Ask:=idx (jF h) (i:Int)
abbrev nu (h:History) (i:Nat):Nat:=(oh h i).Txn.toNat
def vD (x:Exec) (t u:Nat):Prop:=(t:Int) ∈ x.Order∧pos x.Order (u:Int) < pos x.Order (t:Int)
def BP (h:History) (x:Exec) (i u:Nat):Prop:=∃ k:Nat,k < (jF h).length∧(oh h k).Txn=(oh h i).Txn∧(oh h k).Place < (oh h i).Place∧idx x.Picks (k:Int)=(u:Int)
def DN (x:Exec) (p:Nat→Prop) (u:Nat):Prop:=p u∨∃ t,p t∧vD x t u
def Ht (h:History) (x:Exec) (t u:Nat):Prop:=∃ k,Wr h x.Order k t∧Wr h x.Order k u∧vD x t u
inductive yu (N:Nat→Nat→Prop) (t:Nat):Nat→Prop
 | one {u:Nat}:N t u→yu N t u
 | more {u v:Nat}:yu N t v→N v u→yu N t u
def yw (h:History) (x:Exec) (level:Int) (i u:Nat):Prop :=
 if level=1 then BP h x i u else if level=2 then (Wr h x.Order (oh h i).Key (nu h i)∧vD x (nu h i) u)∨(¬ Wr h x.Order (oh h i).Key (nu h i)∧BP h x i u)
 else if level=3 then qb h x (nu h i) u else if level=4 then yu (qb h x) (nu h i) u else if level=5 then DN x (qb h x (nu h i)) u
 else if level=6 then DN x (fun v=>qb h x (nu h i) v∨Ht h x (nu h i) v) u else vD x (nu h i) u
theorem rH.eA (hw:rH h x w):w.asks=jF h:=hw.ea
theorem nH.lA (hf:nH h x):x.Picks.length=(jF h).length:=hf.len
theorem AX (hS:fq h):(jF h).length≤16 * h.Txns.length:=(sw hS h.Txns.length (Nat.le_refl _)).1
theorem wL (hf:nH h x) {i:Nat} (hi:i < (jF h).length):(oh h i).Txn=(nu h i:Int)∧nu h i < h.Txns.length∧(nu h i:Int) ∈ x.Order:=by
 obtain ⟨t,et,ht,hst⟩:=xq (xn hi);have e:nu h i=t:=by unfold nu; rw [et]; rfl
 rw [e]
 exact ⟨et,ht,hf.ord.dn t ht hst⟩
theorem BQ (hf:nH h x) {i:Nat} (hi:i < (jF h).length):idx x.Picks (i:Int) = -1∨∃ b:Nat,idx x.Picks (i:Int)=(b:Int)∧b < h.Txns.length∧vD x (nu h i) b∧0 < (jX h (b:Int) (oh h i).Key).length∧(b:Int) ∈ x.Order:=by
 rcases (yo.1 (hf.pick i hi)).1 with h1 | h1
 ·exact .inl h1
 ·right
  obtain ⟨h2,h3,h4⟩:=h1;have hr:=hf.ord.rg _ h2;obtain ⟨b,eb⟩:∃ b:Nat,idx x.Picks (i:Int)=(b:Int):=⟨(idx x.Picks (i:Int)).toNat,by omega⟩
  obtain ⟨q1,q2,q3⟩:=wL hf hi;refine ⟨b,eb,by omega,⟨q3,?_⟩,?_,?_⟩
  ·rw [← q1,← eb]; exact h3
  ·rw [← eb]; exact h4
  ·rw [← eb]; exact h2
theorem yS (hS:fq h) (hf:nH h x) (hw:rH h x w) {i:Nat} (hi:i < (jF h).length):Tri (aT w (i:Int)) (fun r=>Wh r (BP h x i)):=by
 have n1:=AX hS;have a2:=hS.len;have hpl:=hf.lA;unfold aT;refine dz (k0:=0) (jF h).length (fun k s=>s.2=(k:Int)∧Wh s.1 (fun u=>∃ q:Nat,q < k∧(oh h q).Txn=(oh h i).Txn∧(oh h q).Place < (oh h i).Place∧idx x.Picks (q:Int)=(u:Int))) (Nat.zero_le _)
  ⟨rfl,by exact uA fun u ⟨q,hq,_⟩=>Nat.not_lt_zero _ hq⟩ ?_
 rintro k ⟨o,z⟩ hk ⟨e,hW⟩
 dsimp only at e hW
 subst e;have hwk:w64 ((k:Int) + 1)=((k + 1:Nat):Int):=bu (by omega);unfold jL eZ gW
 dsimp only
 rw [hwk,hw.eA,hw.ex]
 refine ak (fun h1 => ?_) (fun h1 => ?_)
 ·have a1:k < (jF h).length:=by omega
  have nx:¬ ((oh h k).Txn=(oh h i).Txn∧(oh h k).Place < (oh h i).Place∧0≤idx x.Picks (k:Int)) →
    Upm (jF h).length k (fun k s=>s.2=(k:Int)∧Wh s.1 (fun u=>∃ q:Nat,q < k∧(oh h q).Txn=(oh h i).Txn∧(oh h q).Place < (oh h i).Place∧idx x.Picks (q:Int)=(u:Int))) (fun r=>Wh r (BP h x i)) (.inl (o,((k + 1:Nat):Int))):=fun hn=>by
   refine ⟨a1,rfl,hW.congr (fun u => ?_)⟩
   constructor
   ·rintro ⟨q,h5,h6⟩;exact ⟨q,by omega,h6⟩
   ·rintro ⟨q,h5,h6,h7,h8⟩;refine ⟨q,?_,h6,h7,h8⟩;have:q≠k:=fun e=>hn (by subst e; exact ⟨h6,h7,by omega⟩)
    omega
  refine ai (by omega) (ai (by omega) ?_);refine ak (fun h2 => ?_) (fun h2 => ?_)
  ·refine ak (fun h3 => ?_) (fun h3 => ?_)
   ·refine ai (by omega) ?_;refine ak (fun h4 => ?_) (fun h4=>af (nx (fun h5=>h4 h5.2.2)));rcases BQ hf a1 with h5 | ⟨b,eb,hb,_⟩
    ·omega
    rw [eb]
    refine ai (by omega) (ai ⟨by omega,by unfold far; omega⟩ (af ⟨a1,rfl,(hW.or (Wh.bit (by omega:b < 32))).congr (fun u => ?_)⟩))
    constructor
    ·rintro (⟨q,h5,h6⟩ | rfl)
     ·exact ⟨q,by omega,h6⟩
     ·exact ⟨k,by omega,h2,h3,eb⟩
    ·rintro ⟨q,h5,h6,h7,h8⟩
     by_cases h9:q=k
     ·right
      rw [h9,eb] at h8
      omega
     ·exact .inl ⟨q,by omega,h6,h7,h8⟩
   ·exact ak (fun h4=>absurd h4 (by simp)) (fun h4=>af (nx (fun h5=>h3 h5.2.1)))
  ·exact ak (fun h4=>absurd h4 (by simp)) (fun h4=>af (nx (fun h5=>h2 h5.1)))
 ·have:k=(jF h).length:=by omega
  subst this;exact aA (af hW)
theorem xx (hw:rH h x w) {a:Int} {p:Nat→Prop} (ha:Wh a p):Tri (bV w a) (fun r=>Wh r (DN x p)):=by
 unfold bV jM;refine dO rfl ?_;refine bJ (vT (W:=fun t=>idx w.behind (t:Int)) (fun y t ht => ?_) ha (q:=vD x) (fun t ht _=>hw.bh t ht)) ?_
 ·show (must _ _:Option _)=_
  rw [ik _ ⟨by omega,by omega⟩]
 ·rintro s ⟨z,rfl,hz,_⟩;exact af hz
theorem CR (hw:rH h x w) {t:Nat} (ht:t < 32):Tri (bI w (t:Int)) (fun r=>Wh r (yu (qb h x) t)):=by
 unfold bI;refine ai (by omega) ?_;refine uD (fun s=>∃ p,Wh s p∧(∀ u,qb h x t u→p u)∧∀ u,p u→yu (qb h x) t u) (fun s=>2 ^ 32 - s.toNat) ⟨_,hw.nr t ht,fun u h=>h,fun u h => .one h⟩ ?_;rintro s ⟨p,hp,h1,h2⟩;unfold lI jM;refine dO rfl ?_;refine bJ (vT (W:=fun t=>idx w.near (t:Int)) (fun y t ht => ?_) hp (q:=qb h x) (fun t ht _=>hw.nr t ht)) ?_
 ·show (must _ _:Option _)=_
  rw [ik _ ⟨by omega,by omega⟩]
 ·rintro r ⟨z,rfl,hz,hle,hor⟩;unfold lH
  dsimp only
  refine ak (fun h3 => ?_) (fun h3=>af ?_)
  ·refine aA (af ?_);subst h3;have hcl:∀ u v,p v→qb h x v u→p u:=fun u v hv hn=>by
    obtain ⟨a,ea,_,a2⟩:=hp;obtain ⟨b,eb,_,b2⟩:=hz;have:a=b:=by omega
    subst this;exact (a2 u).1 ((b2 u).2 (.inr ⟨v,hv,hn⟩))
   refine hp.congr (fun u=>⟨h2 u,fun hu => ?_⟩)
   induction hu with
   | one h=>exact h1 _ h
   | more _ h ih=>exact hcl _ _ ih h
  ·have hb:=hz.big;have a1:=hp.big;refine ⟨⟨_,hz,fun u hu => .inl (h1 u hu),fun u hu => ?_⟩,?_⟩
   ·rcases hu with hu | ⟨v,hv,hn⟩
    ·exact h2 u hu
    ·exact .more (h2 v hv) hn
   ·rcases hor with h4 | h4
    ·exact absurd h4 h3
    ·show 2 ^ 32 - z.toNat < 2 ^ 32 - s.toNat
     omega
theorem uB (hw:rH h x w) {t:Nat} (ht:t < 32):∀ (l:List (Int×Int)) (s:Int) (q:Nat→Prop),(∀ e ∈ l,Wh e.2 (Wr h x.Order e.1))→Wh s q →
  Tri (l.foldlM (dm.m1 w (t:Int)) s) (fun r=>Wh r (fun u=>q u∨∃ e ∈ l,Wr h x.Order e.1 t∧Wr h x.Order e.1 u∧vD x t u))
 | [],s,q,_,hs=>af (hs.congr (fun u=>⟨.inl,fun h=>h.elim id (fun ⟨e,he,_⟩=>nomatch he)⟩))
 | e::l,s,q,hl,hs=>by
  rw [List.foldlM_cons]
  have he:=hl e List.mem_cons_self;have hr:=he.rf ht
  show Tri ((dm.m1 w (t:Int) s e).bind fun s'=>l.foldlM (dm.m1 w (t:Int)) s') _
  unfold dm.m1;refine bM (ai ⟨by omega,by unfold far; omega⟩ ?_);refine bR (ak (r:=hr) (fun h1 => ?_) (fun h1 => ?_))
  ·refine bM (ai (by omega) (bF ?_));refine dA (uB hw ht l _ _ (fun e he=>hl e (List.mem_cons_of_mem _ he)) (hs.or (he.and (hw.bh t ht)))) (fun r hr=>hr.congr (fun u => ?_))
   constructor
   ·rintro ((h2 | ⟨h2,h3⟩) | ⟨e',h2,h3⟩)
    ·exact .inl h2
    ·exact .inr ⟨e,List.mem_cons_self,h1,h2,h3⟩
    ·exact .inr ⟨e',List.mem_cons_of_mem _ h2,h3⟩
   ·rintro (h2 | ⟨e',h2,h3,h4,h5⟩)
    ·exact .inl (.inl h2)
    ·rcases List.mem_cons.1 h2 with rfl | h2
     ·exact .inl (.inr ⟨h4,h5⟩)
     ·exact .inr ⟨e',h2,h3,h4,h5⟩
  ·refine bF ?_;refine dA (uB hw ht l _ _ (fun e he=>hl e (List.mem_cons_of_mem _ he)) hs) (fun r hr=>hr.congr (fun u => ?_))
   constructor
   ·rintro (h2 | ⟨e',h2,h3⟩)
    ·exact .inl h2
    ·exact .inr ⟨e',List.mem_cons_of_mem _ h2,h3⟩
   ·rintro (h2 | ⟨e',h2,h3,h4⟩)
    ·exact .inl h2
    ·rcases List.mem_cons.1 h2 with rfl | h2
     ·exact absurd h3 h1
     ·exact .inr ⟨e',h2,h3,h4⟩
theorem zO (hw:rH h x w) {t:Nat} (ht:t < 32):Tri (dm w (t:Int)) (fun r=>Wh r (Ht h x t)):=by
 have hall:∀ e ∈ w.writes,Wh e.2 (Wr h x.Order e.1):=fun e he=>by rw [FD hw.nd he]; exact hw.wv e.1
 obtain ⟨R,hR,hW⟩:=uB hw ht w.writes 0 (fun _=>False) hall Wh.zero;unfold dm;refine dO (Ba (R:=R) (fun l hl => ?_)) (af (hW.congr (fun u => ?_)))
 ·obtain ⟨R',hR',hW'⟩:=uB hw ht l 0 (fun _=>False) (fun e he=>hall e (hl.mem_iff.1 he)) Wh.zero
  rw [hR']
  congr 1
  refine Wh.det hW' (hW.congr (fun u => ?_))
  constructor
  ·rintro (h1 | ⟨e,h1,h2⟩)
   ·exact .inl h1
   ·exact .inr ⟨e,hl.mem_iff.2 h1,h2⟩
  ·rintro (h1 | ⟨e,h1,h2⟩)
   ·exact .inl h1
   ·exact .inr ⟨e,hl.mem_iff.1 h1,h2⟩
 ·constructor
  ·rintro (h1 | ⟨e,h1,h2⟩)
   ·exact h1.elim
   ·exact ⟨e.1,h2⟩
  ·rintro ⟨k,h2⟩;obtain ⟨e,he,rfl⟩:=List.mem_map.1 (hw.wk k t h2.1);exact .inr ⟨e,he,h2⟩
theorem CS (hS:fq h) (hf:nH h x) (hw:rH h x w) {i:Nat} (hi:i < (jF h).length) (level:Int):Tri (jN w level (i:Int)) (fun r=>Wh r (yw h x level i)):=by
 have a1:=hS.len;obtain ⟨et,htl,hto⟩:=wL hf hi;have he:=yS hS hf hw hi;unfold jN yw
 rw [hw.eA]
 have et':(idx (jF h) (i:Int)).Txn=(nu h i:Int):=et
 rw [et']
 refine ai (by omega) ?_;refine ak (fun h1 => ?_) (fun h1 => ?_)
 ·simp only [if_pos h1]
  exact bJ he (fun r hr=>af hr)
 simp only [if_neg h1]
 refine ak (fun h2 => ?_) (fun h2 => ?_)
 ·simp only [if_pos h2]
  refine ai ⟨by omega,by unfold far; omega⟩ ?_
  refine ak (r:=(hw.wv _).rf (by omega:nu h i < 32)) (fun h3 => ?_) (fun h3 => ?_)
  ·exact ai (by omega) (af ((hw.bh _ (by omega:nu h i < 32)).congr (fun u=>⟨fun h4 => .inl ⟨h3,h4⟩,fun h4=>h4.elim (fun h5=>h5.2) (fun h5=>absurd h3 h5.1)⟩)))
  ·exact bJ he (fun r hr=>af (hr.congr (fun u=>⟨fun h4 => .inr ⟨h3,h4⟩,fun h4=>h4.elim (fun h5=>absurd h5.1 h3) (fun h5=>h5.2)⟩)))
 simp only [if_neg h2]
 refine ak (fun h3 => ?_) (fun h3 => ?_)
 ·simp only [if_pos h3]
  exact ai (by omega) (af (hw.nr _ (by omega)))
 simp only [if_neg h3]
 refine ak (fun h4 => ?_) (fun h4 => ?_)
 ·simp only [if_pos h4]
  exact bJ (CR hw (by omega:nu h i < 32)) (fun r hr=>af hr)
 simp only [if_neg h4]
 refine ak (fun h5 => ?_) (fun h5 => ?_)
 ·simp only [if_pos h5]
  exact ai (by omega) (bJ (xx hw (hw.nr _ (by omega:nu h i < 32))) (fun r hr=>af hr))
 simp only [if_neg h5]
 refine ak (fun h6 => ?_) (fun h6 => ?_)
 ·simp only [if_pos h6]
  refine ai (by omega) (bJ (zO hw (by omega:nu h i < 32)) (fun r hr => ?_));exact bJ (xx hw ((hw.nr _ (by omega:nu h i < 32)).or hr)) (fun r hr=>af hr)
 simp only [if_neg h6]
 exact ai (by omega) (af (hw.bh _ (by omega)))
def xy (h:History) (x:Exec) (level:Int) (i u:Nat):Prop:=yw h x level i u∧Wr h x.Order (oh h i).Key u∧u≠nu h i ∧ ¬ (0≤idx x.Picks (i:Int)∧((u:Int)=idx x.Picks (i:Int)∨vD x (idx x.Picks (i:Int)).toNat u))
def Brk (h:History) (x:Exec) (level:Int) (r:(Int×Int×Int)×Bool):Prop :=
 (r=((0,0,0),false)∧∀ i u,i < (jF h).length → ¬ xy h x level i u) ∨
 ∃ i k u:Nat,i < (jF h).length∧k < x.Order.length∧idx x.Order (k:Int)=(u:Int)∧(∀ j v,j < i → ¬ xy h x level j v)∧xy h x level i u∧(∀ q v:Nat,q < k→idx x.Order (q:Int)=(v:Int) → ¬ xy h x level i v)∧r=(((u:Int),idx x.Picks (i:Int),(i:Int)),true)
theorem zP (hS:fq h) (hf:nH h x) (hw:rH h x w) (level:Int):Tri (aK w level) (Brk h x level):=by
 have a5:=hS.len;have n1:=AX hS;have hpl:=hf.lA;have hol:=hf.ord.len;unfold aK;refine dz (k0:=0) (jF h).length (fun i s=>s=(i:Int)∧∀ j v,j < i → ¬ xy h x level j v) (Nat.zero_le _) ⟨rfl,fun j v hj=>absurd hj (Nat.not_lt_zero _)⟩ ?_;rintro i s hi ⟨rfl,hno⟩;have hwi:w64 ((i:Int) + 1)=((i + 1:Nat):Int):=bu (by omega);unfold kw ku
 dsimp only
 rw [hw.eA,hw.ex]
 refine ak (fun h1 => ?_) (fun h1 => ?_)
 ·have a1:i < (jF h).length:=by omega
  obtain ⟨et,htl,hto⟩:=wL hf a1;have et':(idx (jF h) (i:Int)).Txn=(nu h i:Int):=et;refine ai (by omega) (ai (by omega) ?_);refine bJ (CS hS hf hw a1 level) (fun y hy => ?_)
  rw [et']
  refine ai ⟨by omega,by unfold far; omega⟩ ?_
  have a4:=(hy.and (hw.wv (oh h i).Key)).minus (Wh.bit (by omega:nu h i < 32));have fin:∀ b,Wh b (xy h x level i)→Tri (fD w (i:Int) b) (Upm (jF h).length i (fun i s=>s=(i:Int)∧∀ j v,j < i → ¬ xy h x level j v) (Brk h x level)):=fun b hb=>by
   unfold fD;refine ak (fun h2 => ?_) (fun h2 => ?_)
   ·unfold iG
    rw [hwi]
    refine af ⟨a1,rfl,fun j v hj => ?_⟩
    by_cases e:j=i
    ·rw [e]; exact hb.none.1 h2 v
    ·exact hno j v (by omega)
   ·refine dz (k0:=0) x.Order.length (fun k s=>s=(k:Int)∧∀ q v:Nat,q < k→idx x.Order (q:Int)=(v:Int) → ¬ xy h x level i v) (Nat.zero_le _) ⟨rfl,fun q v hq=>absurd hq (Nat.not_lt_zero _)⟩ ?_;rintro k s hk ⟨rfl,hnk⟩;have hwk:w64 ((k:Int) + 1)=((k + 1:Nat):Int):=bu (by omega);unfold kr
    dsimp only
    rw [hw.ex,hwk]
    refine ak (fun h3 => ?_) (fun h3 => ?_)
    ·have a3:k < x.Order.length:=by omega
     obtain ⟨n,en,hnl,hnp⟩:=AV hf.ord a3
     rw [en]
     refine ai (by omega) (ai ⟨by omega,by unfold far; omega⟩ ?_);refine ak (r:=hb.rf (by omega:n < 32)) (fun h4 => ?_) (fun h4 => ?_)
     ·exact aA (aA (af (.inr ⟨i,k,n,a1,a3,en,hno,h4,hnk,rfl⟩)))
     ·refine af ⟨a3,rfl,fun q v hq e => ?_⟩
      by_cases e2:q=k
      ·rw [e2,en] at e
       have:n=v:=by omega
       exact this ▸ h4
      ·exact hnk q v (by omega) e
    ·have:k=x.Order.length:=by omega
     subst this;refine absurd ?_ h2;refine hb.none.2 (fun u hu => ?_);obtain ⟨q,hq,e⟩:=yP hu.2.1.2.2.1;exact hnk q u hq e hu
  refine ak (fun h2 => ?_) (fun h2 => ?_)
  ·rcases BQ hf a1 with h5 | ⟨b,eb,hbl,_⟩
   ·omega
   rw [eb]
   refine ai ⟨by omega,by unfold far; omega⟩ (ai (by omega) (fin _ ?_))
   refine (a4.minus ((Wh.bit (by omega:b < 32)).or (hw.bh b (by omega)))).congr (fun u => ?_);unfold xy vD
   rw [eb,Int.toNat_natCast]
   constructor
   ·rintro ⟨⟨⟨h6,h7⟩,h8⟩,h9⟩;exact ⟨h6,h7,h8,fun a2=>h9 (a2.2.elim (fun e => .inl (by omega)) .inr)⟩
   ·rintro ⟨h6,h7,h8,h9⟩;exact ⟨⟨⟨h6,h7⟩,h8⟩,fun a2=>h9 ⟨by omega,a2.elim (fun e => .inl (by omega)) .inr⟩⟩
  ·refine fin _ (a4.congr (fun u => ?_));unfold xy
   constructor
   ·rintro ⟨⟨h6,h7⟩,h8⟩;exact ⟨h6,h7,h8,fun a2=>h2 a2.1⟩
   ·rintro ⟨h6,h7,h8,h9⟩;exact ⟨⟨h6,h7⟩,h8⟩
 ·have:i=(jF h).length:=by omega
  subst this;exact aA (af (.inl ⟨rfl,fun j v hj=>hno j v hj⟩))
def sV (h:History) (x:Exec) (b c:Nat):Prop:=(idx h.Txns (b:Int)).Status=1∧(idx h.Txns (b:Int)).To < (idx h.Txns (c:Int)).From∧(b:Int) ∈ x.Order∧pos x.Order (c:Int) < pos x.Order (b:Int)
def Lat (h:History) (x:Exec) (r:(Int×Int×Int)×Bool):Prop :=
 (r=((0,0,0),false)∧∀ b c,b < h.Txns.length→c < h.Txns.length → ¬ sV h x b c) ∨
 ∃ b c:Nat,b < h.Txns.length∧c < h.Txns.length∧sV h x b c∧(∀ b' c',b' < b→c' < h.Txns.length → ¬ sV h x b' c')∧(∀ c',c' < c → ¬ sV h x b c')∧r=(((b:Int),(c:Int),-1),true)
theorem CU (hS:fq h) (hf:nH h x) (hw:rH h x w):Tri (bA w) (Lat h x):=by
 have a3:=hS.len;unfold bA;refine dz (k0:=0) h.Txns.length (fun b s=>s=(b:Int)∧∀ b' c',b' < b→c' < h.Txns.length → ¬ sV h x b' c') (Nat.zero_le _) ⟨rfl,fun b' c' hb=>absurd hb (Nat.not_lt_zero _)⟩ ?_;rintro b s hb ⟨rfl,hno⟩;have hwb:w64 ((b:Int) + 1)=((b + 1:Nat):Int):=bu (by omega);unfold lK
 dsimp only
 rw [hw.eh]
 refine ak (fun h1 => ?_) (fun h1 => ?_)
 ·have a1:b < h.Txns.length:=by omega
  refine ai (by omega) ?_;refine dz (k0:=0) h.Txns.length (fun c s=>s=(c:Int)∧∀ c',c' < c → ¬ sV h x b c') (Nat.zero_le _) ⟨rfl,fun c' hc=>absurd hc (Nat.not_lt_zero _)⟩ ?_;rintro c s hc ⟨rfl,hnc⟩;have hwc:w64 ((c:Int) + 1)=((c + 1:Nat):Int):=bu (by omega);unfold lJ fu
  dsimp only
  rw [hw.eh,hwb,hwc]
  refine ak (fun h2 => ?_) (fun h2 => ?_)
  ·have a2:c < h.Txns.length:=by omega
   have nx:¬ sV h x b c→Upm h.Txns.length c (fun c s=>s=(c:Int)∧∀ c',c' < c → ¬ sV h x b c') (Upm h.Txns.length b (fun b s=>s=(b:Int)∧∀ b' c',b' < b→c' < h.Txns.length → ¬ sV h x b' c') (Lat h x)) (.inl ((c + 1:Nat):Int)):=fun hn=>by
    refine ⟨a2,rfl,fun c' hc' => ?_⟩
    by_cases e:c'=c
    ·rw [e]; exact hn
    ·exact hnc c' (by omega)
   refine ai (by omega) ?_;refine ak (fun h3 => ?_) (fun h3=>ak (fun h4=>absurd h4 (by simp)) (fun _=>af (nx (fun h5=>h3 h5.1))));refine ak (fun h4 => ?_) (fun h4=>ak (fun h5=>absurd h5 (by simp)) (fun _=>af (nx (fun h5=>h4 h5.2.1))));refine ai (by omega) ?_;have hcA:=hw.at_ c (by omega);have hbA:=hw.at_ b (by omega);refine ak (fun h5 => ?_) (fun h5=>ak (fun h6=>absurd h6 (by simp)) (fun _=>af (nx (fun h6 => ?_))))
   ·refine ai (by omega) ?_;refine ak (fun h6 => ?_) (fun h6=>af (nx (fun h7 => ?_)))
    ·have hcm:(c:Int) ∈ x.Order:=Classical.byContradiction fun h7=>by rw [if_neg h7] at hcA; omega
     have hbm:(b:Int) ∈ x.Order:=Classical.byContradiction fun h7=>by rw [if_neg h7] at hbA; omega
     rw [if_pos hcm] at hcA
     rw [if_pos hbm] at hbA
     exact aA (aA (af (.inr ⟨b,c,a1,a2,⟨h3,h4,hbm,by omega⟩,hno,hnc,rfl⟩)))
    ·obtain ⟨_,_,h8,h9⟩:=h7;have hcm:(c:Int) ∈ x.Order:=jb.1 (Nat.lt_trans h9 (jb.2 h8))
     rw [if_pos hcm] at hcA
     rw [if_pos h8] at hbA
     omega
   ·obtain ⟨_,_,h8,h9⟩:=h6;have hcm:(c:Int) ∈ x.Order:=jb.1 (Nat.lt_trans h9 (jb.2 h8))
    rw [if_pos hcm] at hcA
    omega
  ·have:c=h.Txns.length:=by omega
   subst this;refine aA (af ⟨a1,rfl,fun b' c' h3 h4 => ?_⟩)
   by_cases e:b'=b
   ·rw [e]; exact hnc c' h4
   ·exact hno b' c' (by omega) h4
 ·have:b=h.Txns.length:=by omega
  subst this;exact aA (af (.inl ⟨rfl,fun b c h2 h3=>hno b c h2 h3⟩))
inductive rJ (h:History) (x:Exec) (level:Int):(Int×Int×Int)×Bool×Int→Prop
 | no:¬ (fq h∧nH h x∧1≤level∧level≤8)→rJ h x level ((0,0,0),false,1)
 | brk {b:(Int×Int×Int)×Bool}:fq h→nH h x→1≤level→level≤8→Brk h x level b→(b.2=true∨level≠8)→rJ h x level (b.1,b.2,0)
 | late {b c:(Int×Int×Int)×Bool}:fq h→nH h x→level=8→Brk h x 8 b→b.2=false→Lat h x c→rJ h x level (c.1,c.2,0)
theorem zQ (hs:nW h) (hl:x.Order.length < 2 ^ 50) (hpl:x.Picks.length < 2 ^ 50) (level:Int):Tri (bG h x level) (rJ h x level):=by
 unfold bG gP;refine bJ (zN hs hl hpl) (fun r hr => ?_);rcases hr with ⟨h1,h2⟩ | ⟨h0,hS,hc,hf,hw⟩
 ·have hno:rJ h x level ((0,0,0),false,1) := .no (fun h3=>h2 ⟨h3.1,h3.2.1⟩);refine ak (fun _ => ?_) (fun h3=>absurd (by omega) h3);exact ak (fun _=>af hno) (fun h=>absurd trivial h)
 refine ak (fun h=>absurd h0 h) (fun _ => ?_);refine ak (fun h1 => ?_) (fun h1 => ?_)
 ·exact ak (fun _=>af (.no (fun h3=>by omega))) (fun h=>absurd trivial h)
 refine ak (fun h2=>af (.no (fun h3=>by omega))) (fun h2 => ?_);refine bJ (zP hS hf hw level) (fun b hb => ?_);unfold kU kT;refine ak (fun h3 => ?_) (fun h3 => ?_)
 ·refine ak (fun h4 => ?_) (fun h4 => ?_)
  ·subst h4;exact bJ (CU hS hf hw) (fun c hc=>af (.late hS hf rfl hb (by simpa using h3) hc))
  ·exact af (.brk hS hf (by omega) (by omega) hb (.inr h4))
 ·exact ak (fun h=>absurd h (by simp)) (fun _=>af (.brk hS hf (by omega) (by omega) hb (.inl (by simpa using h3))))
end
end Go.Proofs.YtmfgddafcgflaaaT
namespace Go.Proofs.YtmfgddafcgflaaaT
open Go Go.Proofs Go.Proofs.YtmfgddafcgflaaaE
set_option linter.unusedVariables false
set_option linter.unusedSimpArgs false
section
variable {h:History} {x:Exec}
def Gq (h:History) (x:Exec) (level:Int):Prop:=∀ i u,i < (jF h).length → ¬ xy h x level i u
def GH (h:History) (x:Exec):Prop:=∀ b c,b < h.Txns.length→c < h.Txns.length → ¬ sV h x b c
def xz (h:History) (x:Exec) (level:Int):Prop:=Gq h x level∧(level=8→GH h x)
theorem xA (hs:nW h) (hl:x.Order.length < 2 ^ 50) (hpl:x.Picks.length < 2 ^ 50) (level:Int) :
  Tri (jO h x level) (fun r=>(r=(false,1) ∧ ¬ (fq h∧nH h x∧1≤level∧level≤8))∨(r.2=0∧(fq h∧nH h x∧1≤level∧level≤8)∧(r.1=true↔xz h x level))):=by
 unfold jO;refine bJ (zQ hs hl hpl level) (fun r hr => ?_);have fin:∀ b:(Int×Int×Int)×Bool,fq h∧nH h x∧1≤level∧level≤8→(b.2=false↔xz h x level) →
   Tri (bif ((b.1,b.2,(0:Int)).2.2 == 0) then some (!(b.1,b.2,(0:Int)).2.1,(b.1,b.2,(0:Int)).2.2) else (some (false,(b.1,b.2,(0:Int)).2.2)))
    (fun r=>(r=(false,1) ∧ ¬ (fq h∧nH h x∧1≤level∧level≤8))∨(r.2=0∧(fq h∧nH h x∧1≤level∧level≤8)∧(r.1=true↔xz h x level))):=fun b h1 h2=>by
  refine ak (fun _=>af (.inr ⟨rfl,h1,?_⟩)) (fun h=>absurd rfl h)
  dsimp only
  rw [Bool.not_eq_true',h2]
 cases hr with
 | no h1=>exact ak (fun h=>absurd h (by decide)) (fun _=>af (.inl ⟨rfl,h1⟩))
 | @brk b hS hf l1 l8 hb h8 =>
  refine fin b ⟨hS,hf,l1,l8⟩ ?_;rcases hb with ⟨rfl,hno⟩ | ⟨i,k,u,hi,_,_,_,hbad,_,rfl⟩
  ·exact ⟨fun _=>⟨hno,fun e=>by rcases h8 with h8 | h8; cases h8; exact absurd e h8⟩,fun _=>rfl⟩
  ·exact ⟨fun e=>(nomatch e),fun hh=>absurd hbad (hh.1 i u hi)⟩
 | @late b c hS hf e hb a2 hc =>
  subst e;refine fin c ⟨hS,hf,by decide,by decide⟩ ?_
  have hno:Gq h x 8:=by
   rcases hb with ⟨_,hno⟩ | ⟨i,k,u,_,_,_,_,_,_,rfl⟩
   ·exact hno
   ·cases a2
  rcases hc with ⟨rfl,hn⟩ | ⟨b1,c1,a1,a3,hlt,_,_,rfl⟩
  ·exact ⟨fun _=>⟨hno,fun _=>hn⟩,fun _=>rfl⟩
  ·exact ⟨fun e=>(nomatch e),fun hh=>absurd hlt (hh.2 rfl b1 c1 a1 a3)⟩
end
end Go.Proofs.YtmfgddafcgflaaaT
namespace Go.Proofs.YtmfgddafcgflaaaT
open Go Go.Proofs Go.Proofs.YtmfgddafcgflaaaE
set_option linter.unusedVariables false
set_option linter.unusedSimpArgs false
section
variable {h:History} {x:Exec} {t:Nat}
abbrev tN (x:Exec) (t:Nat):Exec:=⟨x.Order.filter (fun y=>decide (y≠(t:Int))),x.Picks⟩
theorem uC {a:Nat}:(a:Int) ∈ (tN x t).Order↔(a:Int) ∈ x.Order∧a≠t:=by
 rw [List.mem_filter,decide_eq_true_iff]
 constructor
 ·rintro ⟨h1,h2⟩; exact ⟨h1,fun e=>h2 (by rw [e])⟩
 ·rintro ⟨h1,h2⟩; exact ⟨h1,fun e=>h2 (by omega)⟩
theorem qG (hn:x.Order.Nodup) {a u:Nat}:vD (tN x t) a u↔vD x a u∧a≠t∧u≠t:=by
 constructor
 ·rintro ⟨h1,h2⟩;have hu:(u:Int) ∈ (tN x t).Order:=jb.1 (Nat.lt_trans h2 (jb.2 h1));obtain ⟨a1,a2⟩:=uC.1 h1;obtain ⟨u1,u2⟩:=uC.1 hu;refine ⟨⟨a1,?_⟩,a2,u2⟩;rcases Nat.lt_trichotomy (pos x.Order (u:Int)) (pos x.Order (a:Int)) with h3 | h3 | h3
  ·exact h3
  ·have e:(u:Int)=(a:Int):=by rw [← qF u1,h3,qF a1]
   rw [e] at h2
   omega
  ·have:=xu (t:=(t:Int)) (u:=(a:Int)) (v:=(u:Int)) (by omega) (by omega) hn a1 u1 h3;have h2':pos (x.Order.filter fun y=>decide (y≠(t:Int))) (u:Int) < pos (x.Order.filter fun y=>decide (y≠(t:Int))) (a:Int):=h2
   omega
 ·rintro ⟨⟨h1,h2⟩,h3,h4⟩;have hu:(u:Int) ∈ x.Order:=jb.1 (Nat.lt_trans h2 (jb.2 h1));exact ⟨uC.2 ⟨h1,h3⟩,xu (t:=(t:Int)) (by omega) (by omega) hn hu h1 h2⟩
theorem vE {k:Int} {u:Nat}:Wr h (tN x t).Order k u↔Wr h x.Order k u∧u≠t:=by
 unfold Wr
 rw [uC]
 constructor
 ·rintro ⟨h1,h2,⟨h3,h4⟩,h5⟩; exact ⟨⟨h1,h2,h3,h5⟩,h4⟩
 ·rintro ⟨⟨h1,h2,h3,h5⟩,h4⟩; exact ⟨h1,h2,⟨h3,h4⟩,h5⟩
theorem rM (hn:x.Order.Nodup) {a u:Nat} (hh:qb h (tN x t) a u):qb h x a u:=by
 rcases hh with ⟨h1,h2,h3⟩ | h1
 ·have:=(qG hn).1 (⟨h1,h2⟩:vD (tN x t) a u);exact .inl ⟨this.1.1,this.1.2,h3⟩
 ·exact .inr h1
theorem BR (hn:x.Order.Nodup) {p q:Nat→Prop} {u:Nat} (hp:∀ v,p v→q v) (hh:DN (tN x t) p u):DN x q u:=by
 rcases hh with h1 | ⟨s,h1,h2⟩
 ·exact .inl (hp u h1)
 ·exact .inr ⟨s,hp s h1,((qG hn).1 h2).1⟩
theorem DR (hf:nH h x) (hy:nH h (tN x t)) {level:Int} {i u:Nat} (hi:i < (jF h).length) (hh:yw h (tN x t) level i u):yw h x level i u:=by
 have hn:=hf.ord.nd;have hT:=(uC.1 (wL hy hi).2.2).2;unfold yw at hh ⊢
 split at hh
 ·rename_i e; rw [if_pos e]; exact hh
 rename_i e1; rw [if_neg e1]
 split at hh
 ·rename_i e; rw [if_pos e]
  rcases hh with ⟨h1,h2⟩ | ⟨h1,h2⟩
  ·exact .inl ⟨(vE.1 h1).1,((qG hn).1 h2).1⟩
  ·exact .inr ⟨fun h3=>h1 (vE.2 ⟨h3,hT⟩),h2⟩
 rename_i e2; rw [if_neg e2]
 split at hh
 ·rename_i e; rw [if_pos e]; exact rM hn hh
 rename_i e3; rw [if_neg e3]
 split at hh
 ·rename_i e; rw [if_pos e]
  clear e
  induction hh with
  | one h1=>exact .one (rM hn h1)
  | more _ h2 ih=>exact .more ih (rM hn h2)
 rename_i e4; rw [if_neg e4]
 split at hh
 ·rename_i e; rw [if_pos e]; exact BR hn (fun v hv=>rM hn hv) hh
 rename_i e5; rw [if_neg e5]
 split at hh
 ·rename_i e; rw [if_pos e]
  exact BR hn (fun v hv=>hv.elim (fun h1 => .inl (rM hn h1)) (fun ⟨k,h1,h2,h3⟩ => .inr ⟨k,(vE.1 h1).1,(vE.1 h2).1,((qG hn).1 h3).1⟩)) hh
 rename_i e6; rw [if_neg e6]
 exact ((qG hn).1 hh).1
theorem CV (hf:nH h x) (hy:nH h (tN x t)) (hp:∀ i:Nat,i < (jF h).length→idx x.Picks (i:Int)≠(t:Int)) {level:Int} (hh:xz h x level):xz h (tN x t) level:=by
 have hn:=hf.ord.nd;refine ⟨fun i u hi hb => ?_,fun e b c hb hc hl => ?_⟩
 ·obtain ⟨h1,h2,h3,h4⟩:=hb;refine hh.1 i u hi ⟨DR hf hy hi h1,(vE.1 h2).1,h3,fun h5=>h4 ⟨h5.1,h5.2.elim .inl (fun h6 => .inr ?_)⟩⟩;refine (qG hn).2 ⟨h6,fun e=>hp i hi ?_,(vE.1 h2).2⟩;have e':(idx x.Picks (i:Int)).toNat=t:=e;have:0≤idx x.Picks (i:Int):=h5.1
  omega
 ·obtain ⟨h1,h2,h3,h4⟩:=hl;have:=(qG hn).1 (⟨h3,h4⟩:vD (tN x t) b c);exact hh.2 e b c hb hc ⟨h1,h2,this.1.1,this.1.2⟩
theorem vF (h:History) (x:Exec) (out:Int) {K:ByteArray→Prop} (g:HG K h) (gx:XG x) (gt:(Lit.int .i64 out).wf=true):ag h x out=some true:=by
 have hs:=g.small;have g1:=gx.1.2;have g2:=gx.2.2;refine kz.1 ?_;unfold ag
 rw [qo]
 refine bF ?_
 rw [Bool.not_true,cond_false]
 refine bJ (AU hs (x:=x) (by omega) (by omega)) (fun r hr => ?_);have yes:Tri (bU h x out true) (fun b=>b=true):=by
  unfold bU; rw [cond_true]; exact af rfl
 refine ak (fun _=>yes) (fun h1 => ?_);refine ak (fun _=>yes) (fun h2 => ?_);rcases hr with ⟨rfl,_⟩ | ⟨_,hS,hc,hw⟩
 ·exact absurd (show ((0:Int),(1:Int)).2≠0 by decide) h1
 have hf:=(wK hw).1 (Classical.byContradiction h2);have a7:=hS.len;have hol:=hf.ord.len;have hpl:=hf.lA;have n1:=AX hS
 by_cases a9:h.Txns.length=0
 ·rw [show ((h.Txns.length:Int) == 0)=true by rw [beq_iff_eq]; omega]
  exact yes
 rw [show ((h.Txns.length:Int) == 0)=false by rw [beq_eq_false_iff_ne]; omega]
 unfold bU
 rw [cond_false]
 have hwr:IntKind.wrap .u64 ((h.Txns.length:Int))=(h.Txns.length:Int):=wrap_u64 (by omega);have hu:0≤IntKind.wrap .u64 out:=by simp only [IntKind.wrap,IntKind.signed,IntKind.bits]; exact Int.emod_nonneg _ (by decide)
 have hm:=Int.emod_nonneg (IntKind.wrap .u64 out) (b:=(h.Txns.length:Int)) (by omega);have a8:=Int.emod_lt_of_pos (IntKind.wrap .u64 out) (b:=(h.Txns.length:Int)) (by omega);obtain ⟨t,et⟩:∃ t:Nat,IntKind.wrap .u64 out % (h.Txns.length:Int)=(t:Int):=⟨(IntKind.wrap .u64 out % (h.Txns.length:Int)).toNat,by omega⟩
 have e:w64 ((IntKind.wrap .u64 out).tmod (IntKind.wrap .u64 ((h.Txns.length:Int))))=(t:Int):=by
  rw [hwr,Int.tmod_eq_emod_of_nonneg hu,et,qH (by omega) (by omega)]
 refine ai (by omega) ?_;refine dz (k0:=0) x.Picks.length (fun k s=>s=(k:Int)∧∀ j:Nat,j < k→idx x.Picks (j:Int)≠(t:Int)) (Nat.zero_le _) ⟨rfl,fun j hj=>absurd hj (Nat.not_lt_zero _)⟩ ?_;rintro k s hk ⟨rfl,hno⟩;have a5:w64 ((k:Int) + 1)=((k + 1:Nat):Int):=bu (by omega);unfold fM
 dsimp only
 rw [e,a5]
 refine ak (fun h4 => ?_) (fun h4 => ?_)
 ·have a1:k < x.Picks.length:=by omega
  refine ai (by omega) ?_;refine ak (fun _=>aA (af rfl)) (fun h5=>af ⟨a1,rfl,fun j hj => ?_⟩);rcases Nat.lt_or_ge j k with h8 | h8
  ·exact hno j h8
  ·have:j=k:=by omega
   subst this;exact h5
 ·have:k=x.Picks.length:=by omega
  subst this;refine dz (k0:=0) x.Order.length (fun k s=>s=((x.Order.take k).filter (fun y=>decide (y≠(t:Int))),(k:Int))) (Nat.zero_le _) rfl ?_;rintro k s hk rfl;have a6:w64 ((k:Int) + 1)=((k + 1:Nat):Int):=bu (by omega);have hfl:((x.Order.take k).filter (fun y=>decide (y≠(t:Int)))).length≤32:=Nat.le_trans (List.length_filter_le _ _) (by rw [List.length_take]; omega);unfold fK dX
  dsimp only
  rw [e,a6]
  refine ak (fun h5 => ?_) (fun h5 => ?_)
  ·have a1:k < x.Order.length:=by omega
   refine ai (by omega) ?_;refine ak (fun h6 => ?_) (fun h6 => ?_)
   ·refine ai (by omega) (af ⟨a1,?_⟩)
    dsimp only
    rw [jY a1,List.filter_append,List.filter_cons_of_pos (by simpa using h6),List.filter_nil]
   ·refine af ⟨a1,?_⟩
    dsimp only
    rw [jY a1,List.filter_append,List.filter_cons_of_neg (by simpa using h6),List.filter_nil,List.append_nil]
  ·have:k=x.Order.length:=by omega
   subst this
   rw [List.take_length]
   have hyl:(tN x t).Order.length < 2 ^ 50:=Nat.lt_of_le_of_lt (List.length_filter_le _ _) (by omega);refine bJ (AU hs (x:=tN x t) hyl (show x.Picks.length < 2 ^ 50 by omega)) (fun r2 a2 => ?_);unfold dY;refine ak (fun h6=>aA (aA (af rfl))) (fun h6 => ?_);refine ak (fun h7=>aA (aA (af rfl))) (fun h7 => ?_);rcases a2 with ⟨rfl,_⟩ | ⟨_,_,_,hwy⟩
   ·exact absurd (show ((0:Int),(1:Int)).2≠0 by decide) h6
   have hy:=(wK hwy).1 (Classical.byContradiction h7);refine dz (k0:=1) 9 (fun k s=>s=(k:Int)∧1≤k) (by decide) ⟨rfl,Nat.le_refl _⟩ ?_;rintro l s hl ⟨rfl,l1⟩;have a4:w64 ((l:Int) + 1)=((l + 1:Nat):Int):=bu (by omega);unfold fJ cO
   dsimp only
   rw [a4]
   refine ak (fun h8 => ?_) (fun h8=>aA (aA (aA (af rfl))));refine bJ (xA hs (x:=x) (by omega) (by omega) (l:Int)) (fun a ha => ?_);refine bJ (xA hs (x:=tN x t) hyl (show x.Picks.length < 2 ^ 50 by omega) (l:Int)) (fun b hb => ?_);rcases ha with ⟨_,hq⟩ | ⟨a0,_,ha⟩
   ·exact absurd ⟨hS,hf,by omega,by omega⟩ hq
   rcases hb with ⟨_,hq⟩ | ⟨b0,_,hb⟩
   ·exact absurd ⟨hS,hy,by omega,by omega⟩ hq
   refine ak (fun h=>absurd a0 h) (fun _ => ?_);refine ak (fun h=>absurd b0 h) (fun _ => ?_);refine ak (fun h9 => ?_) (fun _=>ak (fun h=>absurd h (by simp)) (fun _=>af ⟨by omega,rfl,by omega⟩));refine ak (fun a3 => ?_) (fun _=>af ⟨by omega,rfl,by omega⟩);exact absurd (hb.2 (CV hf hy (fun i hi=>hno i (by omega)) (ha.1 h9))) a3
end
end Go.Proofs.YtmfgddafcgflaaaT
