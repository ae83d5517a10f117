import Derived.Test.YtmfgddafcgflaaaTPXP
import Derived.Test.YtmfgddafcgflaaaTF
namespace Go.Proofs.YtmfgddafcgflaaaT
open Go Go.Proofs Go.Proofs.YtmfgddafcgflaaaE
set_option linter.unusedVariables false
set_option linter.unusedSimpArgs false
def pos (l:List Int) (t:Int):Nat:=l.findIdx (fun x=>decide (x=t))
theorem fA {l:List Int} {t:Int}:pos l t < l.length↔t ∈ l:=by
 unfold pos
 rw [List.findIdx_lt_length]
 constructor
 ·rintro ⟨x,hx,h⟩;have:x=t:=by simpa using h
  exact this ▸ hx
 ·intro h;exact ⟨t,h,by simp⟩
theorem mK {l:List Int} {t:Int} (h:t ∈ l):idx l (pos l t:Int)=t:=by
 have hl:=fA.2 h
 rw [dE (n:=pos l t) rfl hl]
 have:=List.findIdx_getElem (xs:=l) (p:=fun x=>decide (x=t)) (w:=hl);exact of_decide_eq_true this
theorem zI {l:List Int} {i j:Nat} (hn:l.Nodup) (hi:i < l.length) (hj:j < l.length) (e:idx l (i:Int)=idx l (j:Int)):i=j:=by
 rw [dE (n:=i) rfl hi,dE (n:=j) rfl hj] at e
 have hp:=List.pairwise_iff_getElem.1 hn;rcases Nat.lt_trichotomy i j with h | h | h
 ·exact absurd e (hp i j hi hj h)
 ·exact h
 ·exact absurd e.symm (hp j i hj hi h)
theorem GH {l:List Int} (hn:l.Nodup) {j:Nat} (hj:j < l.length):pos l (idx l (j:Int))=j:=by
 have hm:idx l (j:Int) ∈ l:=mJ hj;exact zI hn (fA.2 hm) hj (mK hm)
structure jR (h:History) (l:List Int):Prop where
 nd:l.Nodup
 rg:∀ t ∈ l,0≤t∧t < (h.Txns.length:Int)∧(idx h.Txns t).Status≠2
 dn:∀ t:Nat,t < h.Txns.length→(idx h.Txns (t:Int)).Status=1→(t:Int) ∈ l
theorem jR.len {h:History} {l:List Int} (ho:jR h l):l.length≤h.Txns.length:=by
 have h1:∀ x ∈ l,x ∈ (List.range h.Txns.length).map (fun j:Nat=>(j:Int)):=fun x hx=>by
  have:=ho.rg x hx;exact List.mem_map.2 ⟨x.toNat,List.mem_range.2 (by omega),by omega⟩
 have:=wN ho.nd h1
 simpa using this
section
variable {h:History} {l:List Int}
abbrev mh (m:List (Int×Int)):List Int:=m.map (·.1)
theorem om {x v:Int}:∀ {m:List (Int×Int)},mh (eB m x v)=if x ∈ mh m then mh m else mh m++[x]
 | []=>by simp [eB]
 | p::m=>by
  unfold eB
  by_cases e:p.1=x
  ·simp [e]
  ·rw [if_neg e]
   show p.1::mh (eB m x v)=_
   rw [om]
   have e':¬ x=p.1:=fun h=>e h.symm
   by_cases hx:x ∈ mh m
   ·simp [hx]
   ·simp [hx,e']
theorem BR {x:Int} {m:List (Int×Int)}:jl m x=true↔x ∈ mh m:=by
 unfold jl
 simp [List.any_eq_true]
structure rJ (l:List Int) (k:Nat) (m:List (Int×Int)):Prop where
 nd:(mh m).Nodup
 mem:∀ x,x ∈ mh m↔x ∈ l.take k
 at_:∀ j:Nat,j < k→(∀ i:Nat,j < i→i < k→idx l (i:Int)≠idx l (j:Int))→mat m (idx l (j:Int))=(j:Int)
theorem rJ.zero:rJ l 0 []:=⟨List.nodup_nil,fun x=>by simp,fun j hj=>absurd hj (Nat.not_lt_zero _)⟩
theorem rJ.put {k:Nat} {m:List (Int×Int)} (hm:rJ l k m) (hk:k < l.length):rJ l (k + 1) (eB m (idx l (k:Int)) (k:Int)):=by
 refine ⟨?_,fun x => ?_,fun j hj hno => ?_⟩
 ·rw [om]
  split
  ·exact hm.nd
  ·rename_i hx
   rw [List.nodup_append]
   exact ⟨hm.nd,by simp,by intro a ha b hb; rw [List.mem_singleton.1 hb]; intro e; exact hx (e ▸ ha)⟩
 ·rw [om,mD hk,List.mem_append,List.mem_singleton]
  split
  ·rename_i hx
   rw [hm.mem]
   constructor
   ·exact .inl
   ·rintro (h | rfl)
    ·exact h
    ·exact (hm.mem _).1 hx
  ·rw [List.mem_append,List.mem_singleton,hm.mem]
 ·rw [lW]
  split
  ·rename_i e
   rcases Nat.lt_or_ge j k with h1 | h1
   ·exact absurd e.symm (hno k h1 (by omega))
   ·have:j=k:=by omega
    rw [this]
  ·rename_i e
   rcases Nat.lt_or_ge j k with h1 | h1
   ·exact hm.at_ j h1 (fun i h2 h3=>hno i h2 (by omega))
   ·have:j=k:=by omega
    subst this;exact absurd rfl e
theorem rJ.len {m:List (Int×Int)} (hm:rJ l l.length m):m.length=l.length↔l.Nodup:=by
 have hmem:∀ x,x ∈ mh m↔x ∈ l:=fun x=>by rw [hm.mem,List.take_length]
 have hl:(mh m).length=m.length:=List.length_map _
 constructor
 ·intro he
  apply Classical.byContradiction
  intro hn;have:∃ i j:Nat,i < j∧j < l.length∧idx l (i:Int)=idx l (j:Int):=by
   apply Classical.byContradiction
   intro hno;refine hn (List.pairwise_iff_getElem.2 fun i j hi hj hij e=>hno ⟨i,j,hij,hj,?_⟩)
   rw [dE (n:=i) rfl hi,dE (n:=j) rfl hj,e]
  obtain ⟨i,j,hij,hj,e⟩:=this;have hsub:∀ x ∈ mh m,x ∈ l.eraseIdx j:=fun x hx=>by
   have hx:=(hmem x).1 hx;obtain ⟨q,hq,rfl⟩:=yO hx
   rw [List.mem_eraseIdx_iff_getElem]
   by_cases hqj:q=j
   ·subst hqj;exact ⟨i,by omega,by omega,by rw [← dE (n:=i) rfl (by omega:i < l.length)]; exact e⟩
   ·exact ⟨q,by omega,by omega,(dE (n:=q) rfl hq).symm⟩
  have:=wN hm.nd hsub
  rw [List.length_eraseIdx,if_pos hj] at this
  omega
 ·intro hn;have h1:=wN hm.nd (fun x hx=>(hmem x).1 hx);have h2:=wN hn (fun x hx=>(hmem x).2 hx)
  omega
structure rM (l:List Int) (m:List (Int×Int)):Prop where
 has:∀ x,jl m x=true↔x ∈ l
 at_:∀ x ∈ l,mat m x=(pos l x:Int)
theorem rJ.ord {m:List (Int×Int)} (hm:rJ l l.length m) (hn:l.Nodup):rM l m:=by
 refine ⟨fun x=>by rw [BR,hm.mem,List.take_length],fun x hx => ?_⟩
 have hl:=fA.2 hx;have:=hm.at_ (pos l x) hl (fun i h1 h2 e=>by have:=zI hn h2 hl e; omega)
 rwa [mK hx] at this
theorem rM.hasB {m:List (Int×Int)} (hm:rM l m) (x:Int):jl m x=decide (x ∈ l):=by
 by_cases hx:x ∈ l
 ·rw [(hm.has x).2 hx,decide_eq_true hx]
 ·rw [decide_eq_false hx]
  cases e:jl m x with
  | false=>rfl
  | true=>exact absurd ((hm.has x).1 e) hx
theorem yn (a3:h.Txns.length≤32) (hl:l.length < 2 ^ 60):Tri (dz h l) (fun r=>r.1.h=h∧r.1.order=l∧(r.2=true↔jR h l)∧(r.2=true→rM l r.1.at_)):=by
 unfold dz;refine df (k0:=0) l.length (fun k s=>s.2=(k:Int)∧rJ l k s.1∧∀ t ∈ l.take k,0≤t∧t < (h.Txns.length:Int)∧(idx h.Txns t).Status≠2) (Nat.zero_le _) ⟨rfl,rJ.zero,fun t ht=>by simp at ht⟩ ?_
 rintro k ⟨m,x⟩ hk ⟨rfl,hm,hrg⟩;have hw:w64 ((k:Int) + 1)=((k + 1:Nat):Int):=bq (by omega);unfold rq mP
 dsimp only at hm ⊢
 rw [hw]
 have bad:∀ t ∈ l,¬ (0≤t∧t < (h.Txns.length:Int)∧(idx h.Txns t).Status≠2) → ¬ jR h l:=fun t ht hn ho=>hn (ho.rg t ht);have no:∀ {m:List (Int×Int)},¬ jR h l→(⟨h,l,m⟩:bA).h=h∧(⟨h,l,m⟩:bA).order=l∧((false:Bool)=true↔jR h l)∧((false:Bool)=true→rM l (⟨h,l,m⟩:bA).at_):=fun hn=>⟨rfl,rfl,⟨fun h=>(nomatch h),fun h=>absurd h hn⟩,fun h=>(nomatch h)⟩;refine aj (fun h1 => ?_) (fun h1 => ?_)
 ·have a1:k < l.length:=by omega
  have hmem:idx l (k:Int) ∈ l:=mJ a1;refine ah (by omega) ?_;refine aj (fun h2 => ?_) (fun h2 => ?_)
  ·exact aj (fun _=>aA (af (no (bad _ hmem (fun h3=>by omega))))) (fun h3=>absurd trivial h3)
  ·refine aj (fun h3 => ?_) (fun h3 => ?_)
   ·exact aj (fun _=>aA (af (no (bad _ hmem (fun h3=>by omega))))) (fun h3=>absurd trivial h3)
   ·refine ah (by omega) ?_;refine aj (fun h4=>aA (af (no (bad _ hmem (fun h5=>h5.2.2 h4))))) (fun h4 => ?_);refine af ⟨a1,rfl,hm.put a1,fun t ht => ?_⟩
    rw [mD a1,List.mem_append,List.mem_singleton] at ht
    rcases ht with ht | rfl
    ·exact hrg t ht
    ·exact ⟨by omega,by omega,h4⟩
 ·have:k=l.length:=by omega
  subst this
  rw [List.take_length] at hrg
  refine aj (fun h2 => ?_) (fun h2 => ?_)
  ·exact aA (af (no (fun ho=>h2 (by have:=hm.len.2 ho.nd; omega))))
  ·have hnd:l.Nodup:=hm.len.1 (by omega);have hom:=hm.ord hnd;have hb:=hom.hasB
   suffices hs:Tri (iter (oQ h l m) 0) (fun y:(List (Int×Int)×Int) ⊕ (bA×Bool)=>∃ b,y = .inr (⟨h,l,m⟩,b)∧(b=true↔jR h l)) from
    dA hs (by rintro y ⟨b,rfl,hb⟩; exact ⟨rfl,rfl,hb,fun _=>hom⟩)
   refine df (k0:=0) h.Txns.length (fun j s=>s=(j:Int)∧∀ t:Nat,t < j→(idx h.Txns (t:Int)).Status=1→(t:Int) ∈ l) (Nat.zero_le _) ⟨rfl,fun t ht=>absurd ht (Nat.not_lt_zero _)⟩ ?_;rintro j s hj ⟨rfl,hdn⟩;have hw:w64 ((j:Int) + 1)=((j + 1:Nat):Int):=bq (by omega);unfold oQ oP
   dsimp only
   rw [hw,hb]
   refine aj (fun h3 => ?_) (fun h3 => ?_)
   ·have a2:j < h.Txns.length:=by omega
    have next:((idx h.Txns (j:Int)).Status=1→(j:Int) ∈ l)→Upm h.Txns.length j (fun j s=>s=(j:Int)∧∀ t:Nat,t < j→(idx h.Txns (t:Int)).Status=1→(t:Int) ∈ l) (fun y:(List (Int×Int)×Int) ⊕ (bA×Bool)=>∃ b,y = .inr (⟨h,l,m⟩,b)∧(b=true↔jR h l)) (.inl ((j + 1:Nat):Int)):=fun h4=>⟨a2,rfl,fun t ht hst=>by
     rcases Nat.lt_or_ge t j with h5 | h5
     ·exact hdn t h5 hst
     ·have:t=j:=by omega
      subst this;exact h4 hst⟩
    refine ah (by omega) ?_;refine aj (fun h4 => ?_) (fun h4 => ?_)
    ·refine aj (fun h5 => ?_) (fun h5=>af (next (fun h6=>absurd h6 h5)));refine aA (aA (af ⟨false,rfl,fun h=>(nomatch h),fun ho=>absurd (ho.dn j a2 h5) h4⟩))
    ·refine aj (fun h5=>absurd h5 (by simp)) (fun h5=>af (next (fun _=>Classical.byContradiction h4)))
   ·have:j=h.Txns.length:=by omega
    subst this;exact aA (aA (af ⟨true,rfl,fun _=>⟨hnd,hrg,hdn⟩,fun _=>rfl⟩))
end
end Go.Proofs.YtmfgddafcgflaaaT
namespace Go.Proofs.YtmfgddafcgflaaaT
open Go Go.Proofs Go.Proofs.YtmfgddafcgflaaaE
set_option linter.unusedVariables false
set_option linter.unusedSimpArgs false
abbrev srt (l:List Int):List Int:=l.mergeSort fun x y=>decide (x≤y)
def fin (ty:Int) (w:List Int):List Int:=if ty=1 then w.drop (w.length - 1) else if ty=3 then srt w else if ty=4 then [w64 w.sum] else w
theorem FB {ty:Int} {w:List Int}:(fin ty w).length≤w.length + 1:=by
 unfold fin
 split
 ·rw [List.length_drop]; omega
 ·split
  ·rw [List.length_mergeSort]; omega
  ·split
   ·simp
   ·omega
theorem zJ {α:Type} (l:List α) {n:Nat} (hn:n≤l.length):bV l (n:Int) (l.length:Int)=l.drop n:=by
 unfold bV
 rw [Int.toNat_natCast,Int.toNat_natCast,List.take_length]
theorem zK {st:bA} {key ty:Int} {w:List Int} (hT:dN st.h key=some ty) (hw:w.length < 2 ^ 40):eT st key w=some (fin ty w):=by
 refine kC.1 ?_;unfold eT;refine dG hT ?_;unfold fin;refine aj (fun h1 => ?_) (fun h1 => ?_)
 ·rw [if_pos h1]
  have e:wJ 0 (w64 ((w.length:Int) - 1))=((w.length - 1:Nat):Int):=by
   rw [rW (by omega) (by omega)]
   unfold wJ
   split <;> omega
  rw [e]
  refine ah (by omega) (af ?_);exact zJ w (by omega)
 ·rw [if_neg h1]
  refine aj (fun h2 => ?_) (fun h2 => ?_)
  ·rw [if_pos h2]
   unfold lH gu
   rw [iC _ (by omega)]
   exact bF (af rfl)
  ·rw [if_neg h2]
   refine aj (fun h3 => ?_) (fun h3 => ?_)
   ·rw [if_pos h3]
    refine df (k0:=0) w.length (fun k s=>s.2=(k:Int)∧s.1=zH 0 (w.take k)) (Nat.zero_le _) ⟨rfl,rfl⟩ ?_;rintro k ⟨x,i⟩ hk ⟨rfl,hx⟩
    dsimp only at hx
    have hw:w64 ((k:Int) + 1)=((k + 1:Nat):Int):=bq (by omega);unfold jw
    dsimp only
    rw [hw]
    refine aj (fun h4 => ?_) (fun h4 => ?_)
    ·have a1:k < w.length:=by omega
     exact ah (by omega) (af ⟨a1,rfl,by dsimp only; rw [CK a1,hx]⟩)
    ·have:k=w.length:=by omega
     subst this;refine aA (af ?_)
     rw [hx,List.take_length,CL]
     rfl
   ·rw [if_neg h3]
    exact af rfl
def wrs (h:History) (l:List Int) (key:Int):List Int:=l.flatMap (fun o=>jG h o key)
def tX (h:History) (l:List Int) (key t:Int):List Int:=if 0≤t then wrs h (l.take (pos l t + 1)) key else []
section
variable {h:History} {l:List Int}
theorem zL {key:Int} {k:Nat} (hk:k < l.length):wrs h (l.take (k + 1)) key=wrs h (l.take k) key++jG h (idx l (k:Int)) key:=by
 unfold wrs
 rw [mD hk,List.flatMap_append]
 simp
theorem Hr (hS:dZ h) {o key:Int} (ho:0≤o∧o < (h.Txns.length:Int)):(jG h o key).length≤16:=by
 obtain ⟨n,rfl⟩:∃ n:Nat,o=(n:Int):=⟨o.toNat,by omega⟩
 exact Nat.le_trans zF (hS.txn n (by omega)).ops.1
theorem wO (hS:dZ h) (ho:jR h l) {key:Int}:∀ k,k≤l.length→(wrs h (l.take k) key).length≤16 * k
 | 0,_=>by simp [wrs]
 | k + 1,hk=>by
  have h1:=wO hS ho (key:=key) k (by omega);have h2:=ho.rg _ (mJ (show k < l.length by omega));have h3:=Hr hS (key:=key) ⟨h2.1,h2.2.1⟩
  rw [zL (by omega),List.length_append]
  omega
theorem zM (hS:dZ h) (ho:jR h l) {key t:Int}:(tX h l key t).length≤512:=by
 unfold tX
 split
 ·have h1:=ho.len;have h2:=hS.len;rcases Nat.lt_or_ge (pos l t) l.length with h3 | h3
  ·have:=wO hS ho (key:=key) (pos l t + 1) (by omega)
   omega
  ·have:=wO hS ho (key:=key) l.length (Nat.le_refl _)
   rw [List.take_of_length_le (by omega)]
   rw [List.take_length] at this
   omega
 ·simp
theorem yP (hS:dZ h) (ho:jR h l) {m:List (Int×Int)} (hm:rM l m) {key ty t:Int} (hT:dN h key=some ty) (ht:t < 0∨t ∈ l) :
  ax ⟨h,l,m⟩ key t=some (fin ty (tX h l key t)):=by
 have hll:=ho.len;have a5:=hS.len;have ha:=zM hS ho (key:=key) (t:=t);refine kC.1 ?_;unfold ax;refine aj (fun h1 => ?_) (fun h1 => ?_)
 ·have htm:t ∈ l:=by rcases ht with h | h; omega; exact h
  have hp:=fA.2 htm;have e:w64 (mat m t + 1)=((pos l t + 1:Nat):Int):=by rw [hm.at_ t htm]; exact bq (by omega)
  dsimp only
  rw [e]
  refine ah (by omega) ?_;have haa:tX h l key t=wrs h (l.take (pos l t + 1)) key:=if_pos (by omega)
  rw [haa] at ha ⊢
  refine df (k0:=0) (pos l t + 1) (fun k s=>s=(wrs h (l.take k) key,(k:Int))) (Nat.zero_le _) rfl ?_;rintro k s hk rfl;have hw:w64 ((k:Int) + 1)=((k + 1:Nat):Int):=bq (by omega);have hkl:=wO hS ho (key:=key) k (by omega);have hsub:bV l (0:Int) ((pos l t + 1:Nat):Int)=l.take (pos l t + 1):=kX (by omega);unfold jA
  dsimp only
  rw [e,hsub,List.length_take,Nat.min_eq_left (by omega)]
  refine aj (fun h2 => ?_) (fun h2 => ?_)
  ·have a2:k < pos l t + 1:=by omega
   rw [oo a2]
   have hr:=ho.rg _ (mJ (show k < l.length by omega));refine ah (by omega) (ah ⟨hr.1,hr.2.1⟩ ?_);have a4:(idx h.Txns (idx l (k:Int))).Ops.length≤16:=by
    obtain ⟨n,hn⟩:∃ n:Nat,idx l (k:Int)=(n:Int):=⟨(idx l (k:Int)).toNat,by omega⟩
    rw [hn] at hr ⊢
    exact (hS.txn n (by omega)).ops.1
   refine df (k0:=0) (idx h.Txns (idx l (k:Int))).Ops.length (fun p s=>s=(wrs h (l.take k) key++qG (idx h.Txns (idx l (k:Int))).Ops key p,(p:Int))) (Nat.zero_le _) (by rw [CF,List.append_nil]; rfl) ?_;rintro p s a6 rfl;have a3:w64 ((p:Int) + 1)=((p + 1:Nat):Int):=bq (by omega);have hol:=uC (ops:=(idx h.Txns (idx l (k:Int))).Ops) (key:=key) (p:=p);unfold jy gz gy
   dsimp only
   rw [e,hsub,oo a2,a3]
   refine aj (fun h3 => ?_) (fun h3 => ?_)
   ·have a1:p < (idx h.Txns (idx l (k:Int))).Ops.length:=by omega
    have hos:=vH (key:=key) a1;refine ah (by omega) ?_;refine aj (fun h4 => ?_) (fun h4 => ?_)
    ·refine aj (fun h5 => ?_) (fun h5 => ?_)
     ·refine ah (by rw [List.length_append]; omega) (af ⟨a1,?_⟩)
      rw [if_pos ⟨h4,h5⟩] at hos
      rw [hos,List.append_assoc]
     ·refine af ⟨a1,?_⟩
      rw [if_neg (fun h=>h5 h.2)] at hos
      rw [hos]
    ·refine aj (fun h5=>absurd h5 (by simp)) (fun h5=>af ⟨a1,?_⟩)
     rw [if_neg (fun h=>h4 h.1)] at hos
     rw [hos]
   ·have:p=(idx h.Txns (idx l (k:Int))).Ops.length:=by omega
    subst this;refine aA (af ⟨a2,?_⟩)
    dsimp only
    rw [hw,zL (by omega)]
    rfl
  ·have:k=pos l t + 1:=by omega
   subst this;exact aA (kC.2 (zK hT (by omega)))
 ·have haa:tX h l key t=[]:=if_neg (by omega)
  rw [haa]
  exact kC.2 (zK hT (by simp))
end
end Go.Proofs.YtmfgddafcgflaaaT
namespace Go.Proofs.YtmfgddafcgflaaaT
open Go Go.Proofs Go.Proofs.YtmfgddafcgflaaaE
set_option linter.unusedVariables false
set_option linter.unusedSimpArgs false
theorem DI {m:List (Int×Int)} {x:Int} (h:jl m x=false):mat m x=0 :=
 (qg (fun k hk e=>by
  have:=BR.2 (e ▸ hk)
  rw [h] at this
  cases this)).1
theorem xq {h:History} {a:Ask} (ha:a ∈ dh h h.Txns.length):∃ t:Nat,a.Txn=(t:Int)∧t < h.Txns.length∧(idx h.Txns (t:Int)).Status=1:=by
 unfold dh at ha;obtain ⟨t,ht,ha⟩:=List.mem_flatMap.1 ha;have ht:=List.mem_range.1 ht;unfold pQ at ha
 split at ha
 case isFalse=>cases ha
 case isTrue hst =>
 unfold ol at ha;obtain ⟨p,hp,ha⟩:=List.mem_flatMap.1 ha;refine ⟨t,?_,ht,hst⟩;unfold vU at ha
 dsimp only at ha
 split at ha
 ·cases ha
 ·split at ha
  ·rw [List.mem_singleton] at ha
   rw [ha]
  ·split at ha
   ·rw [List.mem_singleton] at ha
    rw [ha]
   ·cases ha
def DJ (h:History) (l:List Int):Prop:=∀ i k:Nat,k < i→i < h.Txns.length→(idx h.Txns (i:Int)).Proc=(idx h.Txns (k:Int)).Proc→(i:Int) ∈ l→(k:Int) ∈ l→pos l (k:Int) < pos l (i:Int)
def Ahead (h:History) (l:List Int) (a:Ask) (p:Int):Prop:=p ∈ l∧pos l p < pos l a.Txn∧0 < (jG h p a.Key).length
def kd (h:History) (a:Ask):Int:=typ (opAt h a.Txn a.Place).Kind
def ver (h:History) (l:List Int) (a:Ask) (p:Int):List Int:=fin (kd h a) (tX h l a.Key p)
open Classical in
noncomputable def qc (h:History) (l:List Int) (a:Ask) (p:Int):Int:=if p ≠ -1 ∧ ¬ Ahead h l a p then 5 else if ver h l a p≠a.Base then 6 else 0
def First (n:Nat) (v:Nat→Int) (r:Int):Prop:=(r=0∧∀ i,i < n→v i=0)∨(∃ i,i < n∧v i=r∧r≠0∧∀ j,j < i→v j=0)
theorem First.det {n:Nat} {v:Nat→Int} {r s:Int} (h1:First n v r) (h2:First n v s):r=s:=by
 rcases h1 with ⟨rfl,h1⟩ | ⟨i,hi,e1,n1,b1⟩ <;> rcases h2 with ⟨rfl,h2⟩ | ⟨j,hj,e2,n2,b2⟩
 ·rfl
 ·exact absurd (e2.symm.trans (h1 j hj)) n2
 ·exact absurd (e1.symm.trans (h2 i hi)) n1
 ·rcases Nat.lt_trichotomy i j with h | h | h
  ·exact absurd (e1.symm.trans (b2 i h)) n1
  ·subst h; exact e1.symm.trans e2
  ·exact absurd (e2.symm.trans (b1 j h)) n2
inductive Why (h:History) (x:Exec):Int→Prop
 | bad:fU h h.Txns.length≠[]→Why h x 1
 | order:fU h h.Txns.length=[] → ¬ jR h x.Order→Why h x 2
 | picks:fU h h.Txns.length=[]→jR h x.Order→x.Picks.length≠(dh h h.Txns.length).length→Why h x 3
 | sess:fU h h.Txns.length=[]→jR h x.Order→x.Picks.length=(dh h h.Txns.length).length → ¬ DJ h x.Order→Why h x 4
 | pick {r:Int}:fU h h.Txns.length=[]→jR h x.Order→x.Picks.length=(dh h h.Txns.length).length→DJ h x.Order →
   First (dh h h.Txns.length).length (fun i=>qc h x.Order (idx (dh h h.Txns.length) (i:Int)) (idx x.Picks (i:Int))) r→Why h x r
theorem Why.det {h:History} {x:Exec} {r s:Int} (h1:Why h x r) (h2:Why h x s):r=s:=by
 cases h1 <;> cases h2 <;> first | rfl | contradiction | exact First.det ‹_› ‹_›
section
variable {h:History} {l:List Int} {m:List (Int×Int)}
theorem AV (hS:dZ h) (hc:aG h=some 0) (ho:jR h l) (hm:rM l m) {a:Ask} (ha:a ∈ dh h h.Txns.length) {p:Int}:Tri (dH ⟨h,l,m⟩ a p) (fun r=>r=true↔Ahead h l a p):=by
 obtain ⟨t,et,ht,hst⟩:=xq ha;have htl:=ho.dn t ht hst;unfold dH iO
 dsimp only
 rw [hm.hasB]
 refine aj (fun h1 => ?_) (fun h1 => ?_)
 ·rw [cond_true]
  exact af ⟨fun h=>(nomatch h),fun h2=>absurd h2.1 h1⟩
 ·have hp:p ∈ l:=Classical.byContradiction h1
  rw [hm.at_ p hp,et,hm.at_ _ htl]
  refine aj (fun h2=>af ⟨fun h=>(nomatch h),fun h3 => ?_⟩) (fun h2 => ?_)
  ·have:=h3.2.1
   rw [et] at this
   omega
  ·refine dG (xn hS hc) (af ?_);have hr:=ho.rg p hp
   rw [if_pos ⟨hr.1,hr.2.1⟩]
   dsimp only
   rw [decide_eq_true_iff]
   exact ⟨fun h3=>⟨hp,by rw [et]; omega,h3⟩,fun h3=>h3.2.2⟩
theorem CO (ho:jR h l) (a2:h.Txns.length≤32) (hm:rM l m):Tri (aR ⟨h,l,m⟩) (fun r=>r=true↔DJ h l):=by
 unfold aR;refine df (k0:=0) h.Txns.length (fun k s=>s.2=(k:Int)∧(∀ t:Nat,t < k→(t:Int) ∈ l→jl s.1 (idx h.Txns (t:Int)).Proc=true∧(pos l (t:Int):Int)≤mat s.1 (idx h.Txns (t:Int)).Proc) ∧
  (∀ q,jl s.1 q=true→∃ t:Nat,t < k∧(t:Int) ∈ l∧(idx h.Txns (t:Int)).Proc=q∧mat s.1 q=(pos l (t:Int):Int)) ∧
  ∀ i j:Nat,j < i→i < k→(idx h.Txns (i:Int)).Proc=(idx h.Txns (j:Int)).Proc→(i:Int) ∈ l→(j:Int) ∈ l→pos l (j:Int) < pos l (i:Int)) (Nat.zero_le _)
  ⟨rfl,fun t ht=>absurd ht (Nat.not_lt_zero _),fun q hq=>(by rw [zU] at hq; cases hq),fun i j h1 h2=>absurd h2 (Nat.not_lt_zero _)⟩ ?_
 rintro k ⟨s,x⟩ hk ⟨rfl,i1,i2,i3⟩;have hw:w64 ((k:Int) + 1)=((k + 1:Nat):Int):=bq (by omega)
 dsimp only at i1 i2 i3
 unfold iZ fM fK
 dsimp only
 rw [hw,hm.hasB]
 refine aj (fun h1 => ?_) (fun h1 => ?_)
 ·have a1:k < h.Txns.length:=by omega
  refine ah (by omega) ?_;refine aj (fun h2 => ?_) (fun h2 => ?_)
  ·refine af ⟨a1,rfl,fun t ht htl => ?_,fun q hq => ?_,fun i j hij hi hp hil hjl => ?_⟩
   ·have:t≠k:=fun e=>h2 (e ▸ htl);exact i1 t (by omega) htl
   ·obtain ⟨t,q1,q2⟩:=i2 q hq;exact ⟨t,by omega,q2⟩
   ·have:i≠k:=fun e=>h2 (e ▸ hil);exact i3 i j hij (by omega) hp hil hjl
  ·have hkl:(k:Int) ∈ l:=Classical.byContradiction h2
   rw [hm.at_ _ hkl]
   have go:(∀ t:Nat,t < k→(t:Int) ∈ l→(idx h.Txns (k:Int)).Proc=(idx h.Txns (t:Int)).Proc→pos l (t:Int) < pos l (k:Int)) →
     Upm h.Txns.length k (fun k s=>s.2=(k:Int)∧(∀ t:Nat,t < k→(t:Int) ∈ l→jl s.1 (idx h.Txns (t:Int)).Proc=true∧(pos l (t:Int):Int)≤mat s.1 (idx h.Txns (t:Int)).Proc) ∧
      (∀ q,jl s.1 q=true→∃ t:Nat,t < k∧(t:Int) ∈ l∧(idx h.Txns (t:Int)).Proc=q∧mat s.1 q=(pos l (t:Int):Int)) ∧
      ∀ i j:Nat,j < i→i < k→(idx h.Txns (i:Int)).Proc=(idx h.Txns (j:Int)).Proc→(i:Int) ∈ l→(j:Int) ∈ l→pos l (j:Int) < pos l (i:Int)) (fun r=>r=true↔DJ h l)
      (.inl (eB s (idx h.Txns (k:Int)).Proc (wJ (pos l (k:Int):Int) (mat s (idx h.Txns (k:Int)).Proc)),((k + 1:Nat):Int))):=fun hno=>by
    have hmax:wJ (pos l (k:Int):Int) (mat s (idx h.Txns (k:Int)).Proc)=(pos l (k:Int):Int):=by
     unfold wJ
     split
     ·rename_i hlt
      by_cases hh:jl s (idx h.Txns (k:Int)).Proc=true
      ·obtain ⟨t,q1,q2,q3,q4⟩:=i2 _ hh;have:=hno t q1 q2 q3.symm
       omega
      ·have e0:mat s (idx h.Txns (k:Int)).Proc=0:=DI (by simpa using hh)
       omega
     ·rfl
    rw [hmax]
    refine ⟨a1,rfl,fun t ht htl => ?_,fun q hq => ?_,fun i j hij hi hp hil hjl => ?_⟩
    ·dsimp only
     rw [rU,lW]
     by_cases hp:(idx h.Txns (t:Int)).Proc=(idx h.Txns (k:Int)).Proc
     ·rw [if_pos hp]
      refine ⟨.inl hp,?_⟩
      by_cases htk:t=k
      ·rw [htk]; omega
      ·have:=hno t (by omega) htl hp.symm
       omega
     ·rw [if_neg hp]
      have htk:t≠k:=fun e=>hp (by rw [e]);obtain ⟨q1,q2⟩:=i1 t (by omega) htl;exact ⟨.inr q1,q2⟩
    ·dsimp only at hq ⊢
     rw [rU] at hq
     rw [lW]
     by_cases hp:q=(idx h.Txns (k:Int)).Proc
     ·rw [if_pos hp]
      exact ⟨k,by omega,hkl,hp.symm,rfl⟩
     ·rw [if_neg hp]
      rcases hq with hq | hq
      ·exact absurd hq hp
      ·obtain ⟨t,q1,q2⟩:=i2 q hq;exact ⟨t,by omega,q2⟩
    ·rcases Nat.lt_or_ge i k with h5 | h5
     ·exact i3 i j hij h5 hp hil hjl
     ·have:i=k:=by omega
      subst this;exact hno j hij hjl hp
   refine aj (fun h3 => ?_) (fun h3 => ?_)
   ·obtain ⟨t,q1,q2,q3,q4⟩:=i2 _ h3;refine aj (fun h4 => ?_) (fun h4=>af (go (fun u hu hul hpu => ?_)))
    ·refine aA (af ⟨fun h=>(nomatch h),fun hs => ?_⟩);have:=hs k t q1 a1 q3.symm hkl q2
     omega
    ·have h5:=(i1 u hu hul).2
     rw [← hpu] at h5
     have h6:pos l (u:Int)≠pos l (k:Int):=fun e=>by
      have h7:=mK hul
      rw [e,mK hkl] at h7
      omega
     omega
   ·refine aj (fun h4=>absurd h4 (by simp)) (fun h4=>af (go (fun u hu hul hpu => ?_)));have h5:=(i1 u hu hul).1
    rw [← hpu] at h5
    exact absurd h5 h3
 ·have:k=h.Txns.length:=by omega
  subst this;exact aA (af ⟨fun _=>i3,fun _=>rfl⟩)
theorem Ht {a:Ask} {t p:Nat} (hk:Gs h a t p):kd h a=typ (opAt h (t:Int) (p:Int)).Kind:=by
 unfold kd
 rw [hk.e1,hk.e2]
theorem DK (hS:dZ h) (hc:aG h=some 0) {a:Ask} (ha:a ∈ dh h h.Txns.length):dN h a.Key=some (kd h a):=by
 obtain ⟨t,p,hk⟩:=DF hS ha
 rw [Ht hk]
 exact CJ hS hc hk.tl hk.pl hk.e3.symm
theorem FC (hS:dZ h) (ho:jR h l) {a:Ask} {p:Int}:(ver h l a p).length≤513:=by
 have h1:=FB (ty:=kd h a) (w:=tX h l a.Key p);have h2:=zM hS ho (key:=a.Key) (t:=p);unfold ver
 omega
theorem DL (hs:nZ h) (hS:dZ h) (hc:aG h=some 0) {x:Exec} (hl:x.Order.length < 2 ^ 50) (hpl:x.Picks.length < 2 ^ 50):Tri (dY h x) (fun r=>r.2=0∧Why h x r.1):=by
 have a2:=hS.len;obtain ⟨n1,n2,_⟩:=sI hS h.Txns.length (Nat.le_refl _);have hA:dX h=some (dh h h.Txns.length,0):=by unfold dX; rw [uF hs hS hc]; rfl
 have hB:pW h=some (fU h h.Txns.length,0):=by unfold pW; rw [uF hs hS hc]; rfl
 unfold dY;refine dG hA ?_;refine aj (fun h1=>absurd rfl h1) (fun _ => ?_);refine dG hB ?_;refine aj (fun h1 => ?_) (fun h1 => ?_)
 ·exact af ⟨rfl,.bad (fun e=>by dsimp only at h1; rw [e] at h1; simp at h1)⟩
 have hsp:fU h h.Txns.length=[]:=List.length_eq_zero_iff.1 (by dsimp only at h1; omega);refine bH (yn a2 (by omega)) (fun r hr => ?_);obtain ⟨⟨rh,ro,rm⟩,rb⟩:=r;obtain ⟨e1,e2,e3,e4⟩:=hr
 dsimp only at e1 e2 e3 e4
 subst e1 e2;refine aj (fun h2 => ?_) (fun h2 => ?_)
 ·exact af ⟨rfl,.order hsp (fun ho=>h2 (e3.2 ho))⟩
 have ho:=e3.1 (by simpa using h2);have hm:=e4 (by simpa using h2)
 dsimp only
 refine aj (fun h3 => ?_) (fun h3 => ?_)
 ·exact af ⟨rfl,.picks hsp ho (fun e=>h3 (by rw [e]))⟩
 have hpe:x.Picks.length=(dh rh rh.Txns.length).length:=by
  have:¬ ¬ ((x.Picks.length:Int)=((dh rh rh.Txns.length).length:Int)):=h3
  omega
 refine bH (CO ho a2 hm) (fun b hb => ?_);refine aj (fun h4 => ?_) (fun h4 => ?_)
 ·exact af ⟨rfl,.sess hsp ho hpe (fun hq=>h4 (hb.2 hq))⟩
 have hq:=hb.1 (by simpa using h4);generalize hAs:dh rh rh.Txns.length=aL at hpe n1 hA
 suffices hloop:Tri (iter (oV x (aL,0) (⟨rh,x.Order,rm⟩,rb)) 0) (fun r=>r.2=0∧First aL.length (fun i=>qc rh x.Order (idx aL (i:Int)) (idx x.Picks (i:Int))) r.1) from
  dA hloop (fun r hr=>⟨hr.1,.pick hsp ho (by rw [hAs]; exact hpe) hq (by rw [hAs]; exact hr.2)⟩)
 refine df (k0:=0) aL.length (fun k s=>s=(k:Int)∧∀ i,i < k→qc rh x.Order (idx aL (i:Int)) (idx x.Picks (i:Int))=0) (Nat.zero_le _) ⟨rfl,fun i hi=>absurd hi (Nat.not_lt_zero _)⟩ ?_;rintro k s hk ⟨rfl,hz⟩;have hw:w64 ((k:Int) + 1)=((k + 1:Nat):Int):=bq (by omega);unfold oV oU
 dsimp only
 rw [hw]
 refine aj (fun h5 => ?_) (fun h5 => ?_)
 ·have a1:k < aL.length:=by omega
  have ham:idx aL (k:Int) ∈ dh rh rh.Txns.length:=by rw [hAs]; exact uG a1
  refine ah (by omega) (ah (by omega) ?_);generalize hpv:idx x.Picks (k:Int)=p;have tail:(p ≠ -1→Ahead rh x.Order (idx aL (k:Int)) p)→Tri (must (0≤(k:Int)∧(k:Int) < (x.Picks.length:Int)) ((ax ⟨rh,x.Order,rm⟩ ((idx aL (k:Int)).Key) p).bind fun y=>(dD y ((idx aL (k:Int)).Base)).bind fun z=>bif !z then out (some (6,0)) else (some (.inl ((k + 1:Nat):Int)))))
    (Upm aL.length k (fun k s=>s=(k:Int)∧∀ i,i < k→qc rh x.Order (idx aL (i:Int)) (idx x.Picks (i:Int))=0) (fun r:Int×Int=>r.2=0∧First aL.length (fun i=>qc rh x.Order (idx aL (i:Int)) (idx x.Picks (i:Int))) r.1)):=fun hah=>by
   have hv:ax ⟨rh,x.Order,rm⟩ ((idx aL (k:Int)).Key) p=some (ver rh x.Order (idx aL (k:Int)) p) :=
    yP hS ho hm (DK hS hc ham) (by
     by_cases hp:p = -1
     ·left; omega
     ·exact .inr (hah hp).1)
   have hvl:=FC hS ho (a:=idx aL (k:Int)) (p:=p);refine ah (by omega) (dG hv (dG (wW (by omega)) ?_));refine aj (fun h6 => ?_) (fun h6 => ?_)
   ·refine aA (af ⟨rfl,.inr ⟨k,a1,?_,by decide,hz⟩⟩)
    show qc rh x.Order (idx aL (k:Int)) (idx x.Picks (k:Int))=6
    rw [hpv]
    unfold qc
    rw [if_neg (fun h=>h.2 (hah h.1)),if_pos h6]
   ·refine af ⟨a1,rfl,fun i hi => ?_⟩;rcases Nat.lt_or_ge i k with h7 | h7
    ·exact hz i h7
    ·have:i=k:=by omega
     subst this
     rw [hpv]
     unfold qc
     rw [if_neg (fun h=>h.2 (hah h.1)),if_neg h6]
  refine aj (fun h6 => ?_) (fun h6 => ?_)
  ·refine bH (AV hS hc ho hm ham) (fun b hb => ?_);refine aj (fun h7 => ?_) (fun h7 => ?_)
   ·refine aA (af ⟨rfl,.inr ⟨k,a1,?_,by decide,hz⟩⟩)
    show qc rh x.Order (idx aL (k:Int)) (idx x.Picks (k:Int))=5
    rw [hpv]
    unfold qc
    rw [if_pos ⟨h6,fun h=>h7 (hb.2 h)⟩]
   ·exact tail (fun _=>hb.1 (by simpa using h7))
  ·rw [cond_false]
   exact tail (fun h=>absurd h h6)
 ·have:k=aL.length:=by omega
  subst this;exact aA (af ⟨rfl,.inl ⟨rfl,hz⟩⟩)
theorem FD (hc:aG h=some 1) {x:Exec}:dY h x=some (0,1):=by
 unfold dY dX gT
 rw [hc]
 rfl
end
end Go.Proofs.YtmfgddafcgflaaaT
namespace Go.Proofs.YtmfgddafcgflaaaT
open Go Go.Proofs Go.Proofs.YtmfgddafcgflaaaE
set_option linter.unusedVariables false
set_option linter.unusedSimpArgs false
section
variable {h:History} {l:List Int}
def yQ (h:History) (l:List Int):Prop:=∀ i j:Nat,i < j→j < l.length→(idx h.Txns (idx l (j:Int))).Status=1 → ¬ (idx h.Txns (idx l (j:Int))).To < (idx h.Txns (idx l (i:Int))).From
theorem CP (hS:dZ h) (hc:aG h=some 0) (hl:l.length < 2 ^ 50):Tri (dO h l) (fun r=>r=true↔jR h l∧yQ h l):=by
 have a4:=hS.len;unfold dO;refine dG hc ?_;refine aj (fun h=>absurd rfl h) (fun _ => ?_);refine bH (yn a4 (by omega)) (fun r hr => ?_);obtain ⟨⟨rh,ro,rm⟩,rb⟩:=r;obtain ⟨e1,e2,e3,e4⟩:=hr
 dsimp only at e1 e2 e3 e4
 subst e1 e2;refine aj (fun h2=>af ⟨fun h=>(nomatch h),fun h=>absurd (e3.2 h.1) h2⟩) (fun h2 => ?_);have ho:=e3.1 (by simpa using h2);refine df (k0:=0) ro.length (fun k s=>s=(k:Int)∧∀ i j:Nat,i < k→i < j→j < ro.length→(idx rh.Txns (idx ro (j:Int))).Status=1 → ¬ (idx rh.Txns (idx ro (j:Int))).To < (idx rh.Txns (idx ro (i:Int))).From) (Nat.zero_le _) ⟨rfl,fun i j h=>absurd h (Nat.not_lt_zero _)⟩ ?_;rintro k s hk ⟨rfl,hno⟩;have hw:w64 ((k:Int) + 1)=((k + 1:Nat):Int):=bq (by omega);unfold qw
 dsimp only
 rw [hw]
 refine aj (fun h3 => ?_) (fun h3 => ?_)
 ·have a2:k < ro.length:=by omega
  have hrk:=ho.rg _ (mJ a2);refine ah (by omega) (ah (by omega) ?_);have hsub:bV ro ((k + 1:Nat):Int) (ro.length:Int)=ro.drop (k + 1):=zJ ro (by omega);have hdl:(ro.drop (k + 1)).length=ro.length - (k + 1):=List.length_drop ..;have hdi:∀ q:Nat,q < ro.length - (k + 1)→idx (ro.drop (k + 1)) (q:Int)=idx ro ((k + 1 + q:Nat):Int):=fun q hq=>by
   rw [dE (n:=q) rfl (by omega),dE (n:=k + 1 + q) rfl (by omega),List.getElem_drop]
  refine df (k0:=0) (ro.length - (k + 1)) (fun q s=>s=(q:Int)∧∀ p:Nat,p < q→(idx rh.Txns (idx ro ((k + 1 + p:Nat):Int))).Status=1 → ¬ (idx rh.Txns (idx ro ((k + 1 + p:Nat):Int))).To < (idx rh.Txns (idx ro (k:Int))).From) (Nat.zero_le _) ⟨rfl,fun p h=>absurd h (Nat.not_lt_zero _)⟩ ?_;rintro q s hq ⟨rfl,hnq⟩;have a3:w64 ((q:Int) + 1)=((q + 1:Nat):Int):=bq (by omega);unfold qp nJ
  dsimp only
  rw [hw,a3,hsub,hdl]
  refine aj (fun h4 => ?_) (fun h4 => ?_)
  ·have a1:q < ro.length - (k + 1):=by omega
   rw [hdi q a1]
   have hrq:=ho.rg _ (mJ (show k + 1 + q < ro.length by omega));have nx:((idx rh.Txns (idx ro ((k + 1 + q:Nat):Int))).Status=1 → ¬ (idx rh.Txns (idx ro ((k + 1 + q:Nat):Int))).To < (idx rh.Txns (idx ro (k:Int))).From) →
     Upm (ro.length - (k + 1)) q (fun q s=>s=(q:Int)∧∀ p:Nat,p < q→(idx rh.Txns (idx ro ((k + 1 + p:Nat):Int))).Status=1 → ¬ (idx rh.Txns (idx ro ((k + 1 + p:Nat):Int))).To < (idx rh.Txns (idx ro (k:Int))).From)
      (Upm ro.length k (fun k s=>s=(k:Int)∧∀ i j:Nat,i < k→i < j→j < ro.length→(idx rh.Txns (idx ro (j:Int))).Status=1 → ¬ (idx rh.Txns (idx ro (j:Int))).To < (idx rh.Txns (idx ro (i:Int))).From) (fun r:Bool=>r=true↔jR rh ro∧yQ rh ro)) (.inl ((q + 1:Nat):Int)):=fun h5=>⟨a1,rfl,fun p hp=>by
    rcases Nat.lt_or_ge p q with h6 | h6
    ·exact hnq p h6
    ·have:p=q:=by omega
     subst this;exact h5⟩
   refine ah (by omega) (ah ⟨hrq.1,hrq.2.1⟩ ?_);refine aj (fun h5 => ?_) (fun h5 => ?_)
   ·refine ah ⟨hrk.1,hrk.2.1⟩ ?_;refine aj (fun h6 => ?_) (fun h6=>af (nx (fun _=>h6)));exact aA (aA (af ⟨fun h=>(nomatch h),fun h=>absurd h6 (h.2 k (k + 1 + q) (by omega) (by omega) h5)⟩))
   ·exact aj (fun h6=>absurd h6 (by simp)) (fun _=>af (nx (fun h6=>absurd h6 h5)))
  ·have:q=ro.length - (k + 1):=by omega
   subst this;refine aA (af ⟨a2,rfl,fun i j hi hij hj => ?_⟩);rcases Nat.lt_or_ge i k with h5 | h5
   ·exact hno i j h5 hij hj
   ·have:i=k:=by omega
    subst this;have e:i + 1 + (j - (i + 1))=j:=by omega
    have:=hnq (j - (i + 1)) (by omega)
    rwa [e] at this
 ·have:k=ro.length:=by omega
  subst this;refine aA (af ?_)
  rw [show ((ro.length:Int) == (ro.length:Int))=true from beq_iff_eq.2 rfl]
  exact ⟨fun _=>⟨ho,fun i j hij hj=>hno i j (by omega) hij hj⟩,fun _=>rfl⟩
end
end Go.Proofs.YtmfgddafcgflaaaT
namespace Go.Proofs.YtmfgddafcgflaaaT
open Go Go.Proofs Go.Proofs.YtmfgddafcgflaaaE
set_option linter.unusedVariables false
set_option linter.unusedSimpArgs false
abbrev XG (x:Exec):Prop:=((∀ y ∈ (x).Order,(Lit.int .i64 y).wf=true)∧((x).Order).length * 8≤140737488351232)∧((∀ y ∈ (x).Picks,(Lit.int .i64 y).wf=true)∧((x).Picks).length * 8≤140737488351232)
section
variable {h:History} {x:Exec}
structure oM (h:History) (x:Exec):Prop where
 sp:fU h h.Txns.length=[]
 ord:jR h x.Order
 len:x.Picks.length=(dh h h.Txns.length).length
 sess:DJ h x.Order
 pick:∀ i,i < (dh h h.Txns.length).length→qc h x.Order (idx (dh h h.Txns.length) (i:Int)) (idx x.Picks (i:Int))=0
theorem yR {r:Int} (hw:Why h x r):r=0↔oM h x:=by
 constructor
 ·intro e;cases hw with
  | bad=>cases e
  | order=>cases e
  | picks=>cases e
  | sess=>cases e
  | pick h1 h2 h3 h4 h5 =>
   rcases h5 with ⟨_,h5⟩ | ⟨_,_,_,n,_⟩
   ·exact ⟨h1,h2,h3,h4,h5⟩
   ·exact absurd e n
 ·intro hf;exact Why.det hw (.pick hf.sp hf.ord hf.len hf.sess (.inl ⟨rfl,hf.pick⟩))
theorem yo {l:List Int} {a:Ask} {p:Int}:qc h l a p=0↔(p = -1∨Ahead h l a p)∧ver h l a p=a.Base:=by
 unfold qc
 by_cases h1:p ≠ -1 ∧ ¬ Ahead h l a p
 ·rw [if_pos h1]
  exact ⟨fun e=>(nomatch e),fun h2=>absurd h2.1 (fun h3=>h3.elim h1.1 h1.2)⟩
 ·rw [if_neg h1]
  have h1':p = -1∨Ahead h l a p:=by
   by_cases hp:p = -1
   ·exact .inl hp
   ·exact .inr (Classical.byContradiction fun h2=>h1 ⟨hp,h2⟩)
  by_cases h2:ver h l a p≠a.Base
  ·rw [if_pos h2]
   exact ⟨fun e=>(nomatch e),fun h3=>absurd h3.2 h2⟩
  ·rw [if_neg h2]
   exact ⟨fun _=>⟨h1',Classical.byContradiction h2⟩,fun _=>rfl⟩
theorem DN (hs:nZ h) (hl:x.Order.length < 2 ^ 50) (hpl:x.Picks.length < 2 ^ 50):Tri (dY h x) (fun r=>(r=(0,1)∧aG h=some 1)∨(r.2=0∧dZ h∧aG h=some 0∧Why h x r.1)):=by
 obtain ⟨v,hv,hv',a1,hiff⟩:=xe hs;rcases a1 with rfl | rfl
 ·exact dA (DL hs (hiff.1 rfl) hv hl hpl) (fun r hr => .inr ⟨hr.1,hiff.1 rfl,hv,hr.2⟩)
 ·exact BZ (FD hv) (.inl ⟨rfl,hv⟩)
end
end Go.Proofs.YtmfgddafcgflaaaT
namespace Go.Proofs.YtmfgddafcgflaaaT
open Go Go.Proofs Go.Proofs.YtmfgddafcgflaaaE
set_option linter.unusedVariables false
set_option linter.unusedSimpArgs false
theorem wrap_u32 {n:Nat} (h:n < 2 ^ 32):IntKind.wrap .u32 (n:Int)=(n:Int):=by
 unfold IntKind.wrap
 simp only [IntKind.bits,IntKind.signed,Bool.false_and]
 have:((n:Int) % (2 ^ 32:Int))=n:=Int.emod_eq_of_lt (by omega) (by omega)
 simp only [this]
 simp
theorem zN {a b:Nat} (ha:a < 2 ^ 32) (hb:b < 2 ^ 32):rZ .u32 (a:Int) (b:Int)=((a &&& b:Nat):Int):=by
 unfold rZ;have h:a &&& b < 2 ^ 32:=Nat.and_lt_two_pow _ hb
 rw [show IntKind.bits .u32=32 from rfl,BitVec.ofInt_natCast,BitVec.ofInt_natCast,BitVec.toNat_and,BitVec.toNat_ofNat,BitVec.toNat_ofNat,Nat.mod_eq_of_lt ha,Nat.mod_eq_of_lt hb]
 exact wrap_u32 h
theorem FE {a b:Nat} (ha:a < 2 ^ 32) (hb:b < 2 ^ 32):bOr .u32 (a:Int) (b:Int)=((a ||| b:Nat):Int):=by
 unfold bOr;have h:a ||| b < 2 ^ 32:=Nat.or_lt_two_pow ha hb
 rw [show IntKind.bits .u32=32 from rfl,BitVec.ofInt_natCast,BitVec.ofInt_natCast,BitVec.toNat_or,BitVec.toNat_ofNat,BitVec.toNat_ofNat,Nat.mod_eq_of_lt ha,Nat.mod_eq_of_lt hb]
 exact wrap_u32 h
def yS (a b:Nat):Nat:=a &&& (2 ^ 32 - 1 - b)
theorem zO {a b i:Nat} (ha:a < 2 ^ 32) (hb:b < 2 ^ 32):(yS a b).testBit i=(a.testBit i && !b.testBit i):=by
 unfold yS
 rw [Nat.testBit_and]
 have e:2 ^ 32 - 1 - b=2 ^ 32 - (b + 1):=by omega
 rw [e,Nat.testBit_two_pow_sub_succ hb]
 by_cases hi:i < 32
 ·simp [hi]
 ·have:a.testBit i=false:=Nat.testBit_lt_two_pow (Nat.lt_of_lt_of_le ha (Nat.pow_le_pow_right (by decide) (by omega)))
  simp [this]
theorem zP {a b:Nat} (ha:a < 2 ^ 32) (hb:b < 2 ^ 32):pz .u32 (a:Int) (b:Int)=((yS a b:Nat):Int):=by
 unfold pz
 rw [show IntKind.bits .u32=32 from rfl,BitVec.ofInt_natCast,BitVec.ofInt_natCast,BitVec.toNat_and,BitVec.toNat_not,BitVec.toNat_ofNat,BitVec.toNat_ofNat,Nat.mod_eq_of_lt ha,Nat.mod_eq_of_lt hb]
 exact wrap_u32 (Nat.lt_of_le_of_lt Nat.and_le_left ha)
theorem DR {n:Nat} (h:n < 32):mX .u32 1 (n:Int)=((2 ^ n:Nat):Int):=by
 unfold mX
 rw [show IntKind.bits .u32=32 from rfl,Int.toNat_natCast,Nat.min_eq_left (by omega)]
 have:(1:Int) * 2 ^ n=((2 ^ n:Nat):Int):=by rw [Int.one_mul]; exact (Int.natCast_pow 2 n).symm
 rw [this]
 exact wrap_u32 (Nat.pow_lt_pow_right (by decide) h)
theorem xu {a n:Nat} (h:n < 32):ow .u32 (a:Int) (n:Int)=((a >>> n:Nat):Int):=by
 unfold ow
 rw [show IntKind.bits .u32=32 from rfl,Int.toNat_natCast,Nat.min_eq_left (by omega),Nat.shiftRight_eq_div_pow]
 have:(2:Int) ^ n=((2 ^ n:Nat):Int):=(Int.natCast_pow 2 n).symm
 rw [this,Int.fdiv_eq_ediv_of_nonneg _ (Int.natCast_nonneg _)]
 exact (Int.natCast_ediv a (2 ^ n)).symm
def Wh (x:Int) (p:Nat→Prop):Prop:=∃ a:Nat,x=a∧a < 2 ^ 32∧∀ j,a.testBit j=true↔p j
theorem Wh.zero:Wh 0 (fun _=>False):=⟨0,rfl,by decide,by simp⟩
theorem Wh.congr {x:Int} {p q:Nat→Prop} (h:Wh x p) (e:∀ j,p j↔q j):Wh x q:=by
 obtain ⟨a,rfl,h1,h2⟩:=h;exact ⟨a,rfl,h1,fun j=>(h2 j).trans (e j)⟩
theorem Wh.lt {x:Int} {p:Nat→Prop} (h:Wh x p) {j:Nat} (hj:p j):j < 32:=by
 obtain ⟨a,rfl,h1,h2⟩:=h
 apply Nat.lt_of_not_le
 intro hle;have:=(h2 j).2 hj
 rw [Nat.testBit_lt_two_pow (Nat.lt_of_lt_of_le h1 (Nat.pow_le_pow_right (by decide) hle))] at this
 cases this
theorem Wh.or {x y:Int} {p q:Nat→Prop} (h:Wh x p) (h':Wh y q):Wh (bOr .u32 x y) (fun j=>p j∨q j):=by
 obtain ⟨a,rfl,h1,h2⟩:=h;obtain ⟨b,rfl,h3,h4⟩:=h';refine ⟨a ||| b,FE h1 h3,Nat.or_lt_two_pow h1 h3,fun j => ?_⟩
 rw [Nat.testBit_or,Bool.or_eq_true,h2,h4]
theorem Wh.and {x y:Int} {p q:Nat→Prop} (h:Wh x p) (h':Wh y q):Wh (rZ .u32 x y) (fun j=>p j∧q j):=by
 obtain ⟨a,rfl,h1,h2⟩:=h;obtain ⟨b,rfl,h3,h4⟩:=h';refine ⟨a &&& b,zN h1 h3,Nat.and_lt_two_pow _ h3,fun j => ?_⟩
 rw [Nat.testBit_and,Bool.and_eq_true,h2,h4]
theorem Wh.minus {x y:Int} {p q:Nat→Prop} (h:Wh x p) (h':Wh y q):Wh (pz .u32 x y) (fun j=>p j ∧ ¬ q j):=by
 obtain ⟨a,rfl,h1,h2⟩:=h;obtain ⟨b,rfl,h3,h4⟩:=h';refine ⟨_,zP h1 h3,Nat.lt_of_le_of_lt Nat.and_le_left h1,fun j => ?_⟩;have e:=h4 j
 rw [zO h1 h3,Bool.and_eq_true,h2,Bool.not_eq_true']
 show (p j∧b.testBit j=false)↔(p j ∧ ¬ q j)
 rw [← e]
 simp
theorem Wh.bit {n:Nat} (h:n < 32):Wh (mX .u32 1 (n:Int)) (fun j=>j=n):=by
 refine ⟨_,DR h,Nat.pow_lt_pow_right (by decide) h,fun j => ?_⟩
 rw [Nat.testBit_two_pow]
 simp [eq_comm]
theorem Wh.none {x:Int} {p:Nat→Prop} (h:Wh x p):x=0↔∀ j,¬ p j:=by
 obtain ⟨a,rfl,h1,h2⟩:=h
 constructor
 ·intro e j hj;have:a=0:=by omega
  subst this;have:=(h2 j).2 hj
  simp at this
 ·intro hn;have:a=0:=by
   apply Nat.eq_of_testBit_eq
   intro i
   rw [Nat.zero_testBit]
   cases hb:a.testBit i
   ·rfl
   ·exact absurd ((h2 i).1 hb) (hn i)
  subst this
  rfl
theorem Wh.det {x y:Int} {p:Nat→Prop} (h:Wh x p) (h':Wh y p):x=y:=by
 obtain ⟨a,rfl,h1,h2⟩:=h;obtain ⟨b,rfl,h3,h4⟩:=h'
 congr 1
 apply Nat.eq_of_testBit_eq
 intro i
 rw [Bool.eq_iff_iff,h2,h4]
theorem Wh.look {x:Int} {p:Nat→Prop} {n:Nat} (h:Wh x p) (hn:n < 32):(rZ .u32 (ow .u32 x (n:Int)) 1 == 1)=true↔p n:=by
 obtain ⟨a,rfl,h1,h2⟩:=h
 rw [xu hn,show (1:Int)=((1:Nat):Int) from rfl,zN (Nat.lt_of_le_of_lt (Nat.shiftRight_le _ _) h1) (by decide),FW,← h2 n]
 cases a.testBit n <;> simp
theorem Wh.rf {x:Int} {p:Nat→Prop} {n:Nat} (h:Wh x p) (hn:n < 32):Rf (rZ .u32 (ow .u32 x (n:Int)) 1 == 1) (p n):=⟨h.look hn⟩
theorem Wh.big {x:Int} {p:Nat→Prop} (h:Wh x p):0≤x∧x < 2 ^ 32:=by
 obtain ⟨a,rfl,h1,h2⟩:=h
 omega
theorem Wh.next {x:Int} {p:Nat→Prop} (h:Wh x p):Wh (ow .u32 x 1) (fun j=>p (j + 1)):=by
 obtain ⟨a,rfl,h1,h2⟩:=h;refine ⟨a >>> 1,xu (n:=1) (by decide),Nat.lt_of_le_of_lt (Nat.shiftRight_le _ _) h1,fun j => ?_⟩
 rw [Nat.testBit_shiftRight,Nat.add_comm]
 exact h2 _
theorem Wh.odd {x:Int} {p:Nat→Prop} (h:Wh x p):(rZ .u32 x 1 == 1)=true↔p 0:=by
 have:=h.look (n:=0) (by decide);obtain ⟨a,rfl,h1,h2⟩:=h
 rwa [xu (by decide:0 < 32)] at this
theorem CQ {σ:Type} {Y:σ→Int→Option (Bool×σ)} {x:Int} {p:Nat→Prop} (h:Wh x p) (I:Nat→σ→Prop) {s0:σ} (h0:I 0 s0)
  (hs:∀ (t:Nat) (s:σ),t < 32→I t s→p t→Tri (Y s (t:Int)) (fun r=>r.1=true∧I (t + 1) r.2)) (hn:∀ (t:Nat) (s:σ),t < 32→I t s → ¬ p t→I (t + 1) s)
  {Q:σ→Prop} (hq:∀ (t:Nat) (s:σ),t≤32→I t s→(∀ u,t≤u → ¬ p u)→Q s):Tri (cu Y x s0) Q:=by
 unfold cu;refine df (k0:=0) 32 (fun t s=>s.2.1=(t:Int)∧Wh s.1 (fun j=>p (j + t))∧I t s.2.2) (Nat.zero_le _) ⟨rfl,h,h0⟩ ?_;rintro t ⟨y,z,s⟩ ht ⟨e,hw,hi⟩
 dsimp only at e hw hi
 subst e;have a4:w64 ((t:Int) + 1)=((t + 1:Nat):Int):=bq (by omega);unfold ny kS
 dsimp only
 have a3:y=0→Q s:=fun e=>hq t s ht hi (fun u hu hp=>hw.none.1 e (u - t) (by rw [Nat.sub_add_cancel hu]; exact hp));refine aj (fun h1 => ?_) (fun h1=>aA (af (a3 (Classical.byContradiction h1))));have a1:t < 32:=by
  apply Nat.lt_of_not_le
  intro hle;have:t=32:=by omega
  subst this;exact h1 (hw.none.2 (fun j hj=>by have:=h.lt hj; omega))
 have nx:∀ s',I (t + 1) s'→Tri (bif false then out (some s') else (must (0≤(1:Int)∧(1:Int) < (far:Int)) (some (.inl (ow .u32 y (1:Int),((t + 1:Nat):Int),s')))))
   (Upm 32 t (fun t s=>s.2.1=(t:Int)∧Wh s.1 (fun j=>p (j + t))∧I t s.2.2) Q):=fun s' hs'=>by
  rw [cond_false]
  refine ah (by decide) (af ⟨a1,rfl,?_,hs'⟩);exact hw.next.congr (fun j=>by rw [Nat.add_right_comm,Nat.add_assoc])
 have a2:(rZ .u32 y 1 == 1)=true↔p t:=by simpa using hw.odd
 rw [a4]
 cases hb:(rZ .u32 y 1 == 1) with
 | true =>
  rw [cond_true]
  refine bH (hs t s a1 hi (a2.1 hb)) (fun r hr => ?_)
  rw [hr.1,Bool.not_true]
  exact nx _ hr.2
 | false =>
  rw [cond_false]
  exact nx _ (hn t s a1 hi (fun hp=>by rw [a2.2 hp] at hb; cases hb))
theorem vX {Y:(Int ⊕ Unit)→Int→Option (Bool×(Int ⊕ Unit))} {W:Nat→Int} (hY:∀ (x:Int) (t:Nat),t < 32→Y (.inl x) (t:Int)=some (true,.inl (bOr .u32 x (W t))))
  {x:Int} {p:Nat→Prop} (h:Wh x p) {q:Nat→Nat→Prop} (hW:∀ t,t < 32→p t→Wh (W t) (q t)) :
  Tri (cu Y x (.inl x)) (fun s=>∃ z,s = .inl z∧Wh z (fun j=>p j∨∃ t,p t∧q t j)∧x.toNat≤z.toNat∧(z=x∨x.toNat < z.toNat)):=by
 refine CQ h (fun t s=>∃ z,s = .inl z∧Wh z (fun j=>p j∨∃ u,u < t∧p u∧q u j)) ⟨x,rfl,h.congr (fun j=>⟨.inl,fun h=>h.elim id (fun ⟨u,hu,_⟩=>absurd hu (Nat.not_lt_zero _))⟩)⟩ ?_ ?_ ?_
 ·rintro t s ht ⟨z,rfl,hz⟩ hp;refine BZ (hY z t ht) ⟨rfl,_,rfl,(hz.or (hW t ht hp)).congr (fun j => ?_)⟩
  constructor
  ·rintro ((h1 | ⟨u,h1,h2⟩) | h1)
   ·exact .inl h1
   ·exact .inr ⟨u,by omega,h2⟩
   ·exact .inr ⟨t,by omega,hp,h1⟩
  ·rintro (h1 | ⟨u,h1,h2,h3⟩)
   ·exact .inl (.inl h1)
   ·rcases Nat.lt_or_ge u t with h4 | h4
    ·exact .inl (.inr ⟨u,h4,h2,h3⟩)
    ·have:u=t:=by omega
     exact .inr (this ▸ h3)
 ·rintro t s ht ⟨z,rfl,hz⟩ hp;refine ⟨z,rfl,hz.congr (fun j => ?_)⟩
  constructor
  ·rintro (h1 | ⟨u,h1,h2⟩)
   ·exact .inl h1
   ·exact .inr ⟨u,by omega,h2⟩
  ·rintro (h1 | ⟨u,h1,h2,h3⟩)
   ·exact .inl h1
   ·refine .inr ⟨u,?_,h2,h3⟩;have:u≠t:=fun e=>hp (e ▸ h2)
    omega
 ·rintro t s ht ⟨z,rfl,hz⟩ hno;have hz':Wh z (fun j=>p j∨∃ t,p t∧q t j):=hz.congr (fun j=>⟨fun h=>h.elim .inl (fun ⟨u,_,h2⟩ => .inr ⟨u,h2⟩),fun h=>h.elim .inl (fun ⟨u,h2,h3⟩ => .inr ⟨u,Nat.lt_of_not_le (fun hle=>hno u hle h2),h2,h3⟩)⟩);refine ⟨z,rfl,hz',?_⟩;obtain ⟨a,rfl,a1,a2⟩:=h;obtain ⟨b,rfl,b1,b2⟩:=hz';have hsub:a ||| b=b:=Nat.eq_of_testBit_eq (fun i=>by
   rw [Nat.testBit_or]
   cases ha:a.testBit i
   ·simp
   ·rw [(b2 i).2 (.inl ((a2 i).1 ha))]; rfl)
  have hle:a≤b:=by rw [← hsub]; exact Nat.left_le_or
  simp only [Int.toNat_natCast]
  exact ⟨hle,by omega⟩
end Go.Proofs.YtmfgddafcgflaaaT
namespace Go.Proofs.YtmfgddafcgflaaaT
open Go Go.Proofs Go.Proofs.YtmfgddafcgflaaaE
set_option linter.unusedVariables false
set_option linter.unusedSimpArgs false
section
variable {h:History} {x:Exec} {l:List Int}
def Wr (h:History) (l:List Int) (k:Int) (u:Nat):Prop:=0≤k∧k < (h.Keys.length:Int)∧(u:Int) ∈ l∧0 < (jG h (u:Int) k).length
def rO (h:History) (x:Exec) (t u:Nat):Prop:=((t:Int) ∈ x.Order∧pos x.Order (u:Int) < pos x.Order (t:Int)∧(idx h.Txns (u:Int)).Proc=(idx h.Txns (t:Int)).Proc) ∨
 ∃ q:Nat,q < (dh h h.Txns.length).length∧(idx (dh h h.Txns.length) (q:Int)).Txn=(t:Int)∧idx x.Picks (q:Int)=(u:Int)
structure rP (h:History) (x:Exec) (w:bf):Prop where
 eh:w.h=h
 ex:w.x=x
 ea:w.asks=dh h h.Txns.length
 at_:∀ t:Nat,t < 32→idx w.at_ (t:Int)=if (t:Int) ∈ x.Order then (pos x.Order (t:Int):Int) + 1 else 0
 bh:∀ t:Nat,t < 32→Wh (idx w.behind (t:Int)) (fun u=>(t:Int) ∈ x.Order∧pos x.Order (u:Int) < pos x.Order (t:Int))
 nr:∀ t:Nat,t < 32→Wh (idx w.near (t:Int)) (rO h x t)
 nd:(mh w.writes).Nodup
 wv:∀ k,Wh (mat w.writes k) (Wr h x.Order k)
 wk:∀ k u,Wr h x.Order k u→k ∈ mh w.writes
theorem uH {p:Nat→Prop} (h:∀ u,¬ p u):Wh 0 p:=Wh.zero.congr fun u=>⟨fun h=>h.elim,fun h2=>h u h2⟩
theorem vJ (ho:jR h l) {k:Nat} (hk:k < l.length):∃ n:Nat,idx l (k:Int)=(n:Int)∧n < h.Txns.length∧pos l (n:Int)=k:=by
 have hr:=ho.rg _ (mJ hk);have e:((idx l (k:Int)).toNat:Int)=idx l (k:Int):=by omega
 exact ⟨(idx l (k:Int)).toNat,e.symm,by omega,by rw [e]; exact GH ho.nd hk⟩
theorem qH {t:Int} {k:Nat} (hk:k < l.length) (e:pos l t=k):t=idx l (k:Int):=by
 have:=mK (fA.1 (by omega:pos l t < l.length))
 rw [e] at this
 exact this.symm
theorem CR {j k:Nat} (hj:j < k) (hk:k≤l.length):idx (l.take k) (j:Int)=idx l (j:Int):=by
 rw [dE (n:=j) rfl (by rw [List.length_take]; omega),dE (n:=j) rfl (by omega),List.getElem_take]
theorem FH (ho:jR h x.Order) (a3:h.Txns.length≤32) {at_ beh near:List Int} {wd:Int} {k n:Nat} (hk:k < x.Order.length) (hn:idx x.Order (k:Int)=(n:Int)) (hnl:n < h.Txns.length) (hp:pos x.Order (n:Int)=k)
  (hN:∀ t:Nat,t < 32→Wh (idx near (t:Int)) (fun u=>pos x.Order (t:Int) < k∧pos x.Order (u:Int) < pos x.Order (t:Int)∧(idx h.Txns (u:Int)).Proc=(idx h.Txns (t:Int)).Proc))
  {Q:(List Int×List Int×List Int×Int×Int) ⊕ (bf×Int)→Prop} (hq:∀ near',(∀ t:Nat,t < 32→Wh (idx near' (t:Int)) (fun u=>pos x.Order (t:Int) < k + 1∧pos x.Order (u:Int) < pos x.Order (t:Int)∧(idx h.Txns (u:Int)).Proc=(idx h.Txns (t:Int)).Proc)) →
   Q (.inl (nD 32 at_ (n:Int) ((k + 1:Nat):Int),nD 32 beh (n:Int) wd,near',bOr .u32 wd (mX .u32 1 (n:Int)),((k + 1:Nat):Int)))) :
  Tri (iter (kN h x at_ beh wd (k:Int)) (near,0)) Q:=by
 have hol:=ho.len;refine df (k0:=0) k (fun j s=>s.2=(j:Int)∧∀ t:Nat,t < 32→Wh (idx s.1 (t:Int)) (fun u=>(pos x.Order (t:Int) < k∧pos x.Order (u:Int) < pos x.Order (t:Int)∧(idx h.Txns (u:Int)).Proc=(idx h.Txns (t:Int)).Proc)∨(t=n∧pos x.Order (u:Int) < j∧(idx h.Txns (u:Int)).Proc=(idx h.Txns (n:Int)).Proc)))
  (Nat.zero_le _) ⟨rfl,fun t ht=>(hN t ht).congr (fun u=>⟨.inl,fun h=>h.elim id (fun h2=>absurd h2.2.1 (Nat.not_lt_zero _))⟩)⟩ ?_
 rintro j ⟨nr,z⟩ hj ⟨e,hi⟩
 dsimp only at e hi
 subst e;have hw:w64 ((j:Int) + 1)=((j + 1:Nat):Int):=bq (by omega);have a2:w64 ((k:Int) + 1)=((k + 1:Nat):Int):=bq (by omega);unfold kN kM
 dsimp only
 rw [hw,a2,kX (by omega),List.length_take,Nat.min_eq_left (by omega),hn]
 refine aj (fun h1 => ?_) (fun h1 => ?_)
 ·have a1:j < k:=by omega
  rw [CR a1 (by omega)]
  obtain ⟨m,em,hml,hmp⟩:=vJ ho (by omega:j < x.Order.length)
  rw [em]
  refine ah (by omega) (ah (by omega) (ah (by omega) ?_));refine aj (fun h2 => ?_) (fun h2 => ?_)
  ·refine ah ⟨by omega,by unfold far; omega⟩ (af ⟨a1,rfl,fun t ht => ?_⟩)
   dsimp only
   rw [su ht]
   by_cases htn:(t:Int)=(n:Int)
   ·rw [if_pos htn]
    have:t=n:=by omega
    subst this;refine ((hi t ht).or (Wh.bit (by omega:m < 32))).congr (fun u => ?_)
    constructor
    ·rintro ((⟨h3,_⟩ | ⟨_,h3,h4⟩) | rfl)
     ·omega
     ·exact .inr ⟨rfl,by omega,h4⟩
     ·exact .inr ⟨rfl,by omega,h2⟩
    ·rintro (⟨h3,_⟩ | ⟨_,h3,h4⟩)
     ·omega
     ·by_cases h5:pos x.Order (u:Int)=j
      ·right
       have:=qH (by omega) h5
       omega
      ·exact .inl (.inr ⟨rfl,by omega,h4⟩)
   ·rw [if_neg htn]
    refine (hi t ht).congr (fun u => ?_);have htn':t≠n:=fun e=>htn (by rw [e])
    constructor
    ·rintro (h3 | ⟨h3,_⟩)
     ·exact .inl h3
     ·exact absurd h3 htn'
    ·rintro (h3 | ⟨h3,_⟩)
     ·exact .inl h3
     ·exact absurd h3 htn'
  ·refine af ⟨a1,rfl,fun t ht=>(hi t ht).congr (fun u => ?_)⟩
   constructor
   ·rintro (h3 | ⟨h3,h4,h5⟩)
    ·exact .inl h3
    ·exact .inr ⟨h3,by omega,h5⟩
   ·rintro (h3 | ⟨h3,h4,h5⟩)
    ·exact .inl h3
    ·refine .inr ⟨h3,?_,h5⟩;have:pos x.Order (u:Int)≠j:=fun e=>by
      have h6:=qH (by omega) e
      rw [em] at h6
      exact h2 (h6 ▸ h5)
     omega
 ·have:j=k:=by omega
  subst this;refine ah ⟨by omega,by unfold far; omega⟩ (aA (af (hq nr (fun t ht=>(hi t ht).congr (fun u => ?_)))))
  constructor
  ·rintro (⟨h3,h4,h5⟩ | ⟨rfl,h4,h5⟩)
   ·exact ⟨by omega,h4,h5⟩
   ·exact ⟨by omega,by omega,h5⟩
  ·rintro ⟨h3,h4,h5⟩
   by_cases h6:pos x.Order (t:Int)=j
   ·have h7:=qH hk h6;have:t=n:=by omega
    subst this;exact .inr ⟨rfl,by omega,h5⟩
   ·exact .inl ⟨by omega,h4,h5⟩
theorem FI {m:List (Int×Int)} (hn:(mh m).Nodup) {p:Int×Int} (hp:p ∈ m):p.2=mat m p.1:=by
 obtain ⟨j,hj⟩:=List.getElem?_of_mem hp;refine (uY (x:=p.1) (y:=p.2) (j:=j) hj (fun i k hij hk e => ?_)).1.symm;subst e;have h1:(mh m)[j]? = some p.1:=by rw [List.getElem?_map,hj]; rfl
 have hi:=(List.getElem?_eq_some_iff.1 hk).1;have hjl:=(List.getElem?_eq_some_iff.1 h1).1;have:=(List.getElem_inj (h₀:=hi) (h₁:=hjl) hn).1 (by
  have h2:=(List.getElem?_eq_some_iff.1 hk).2;have h3:=(List.getElem?_eq_some_iff.1 h1).2
  rw [h2,h3])
 omega
structure WrM (S:Int→Nat→Prop) (m:List (Int×Int)):Prop where
 nd:(mh m).Nodup
 wv:∀ k,Wh (mat m k) (S k)
 wk:∀ k u,S k u→k ∈ mh m
theorem WrM.congr {S T:Int→Nat→Prop} {m:List (Int×Int)} (hm:WrM S m) (e:∀ k u,S k u↔T k u):WrM T m:=⟨hm.nd,fun k=>(hm.wv k).congr (e k),fun k u hu=>hm.wk k u ((e k u).2 hu)⟩
theorem WrM.put {S:Int→Nat→Prop} {m:List (Int×Int)} (hm:WrM S m) {k:Int} {n:Nat} (hn:n < 32):WrM (fun c u=>S c u∨(c=k∧u=n)) (eB m k (bOr .u32 (mat m k) (mX .u32 1 (n:Int)))):=by
 refine ⟨?_,fun c => ?_,fun c u hu => ?_⟩
 ·rw [om]
  split
  ·exact hm.nd
  ·rename_i hx
   rw [List.nodup_append]
   exact ⟨hm.nd,by simp,by intro a ha b hb; rw [List.mem_singleton.1 hb]; intro e; exact hx (e ▸ ha)⟩
 ·rw [lW]
  split
  ·rename_i e
   subst e;exact ((hm.wv c).or (Wh.bit hn)).congr (fun u=>⟨fun h=>h.elim .inl (fun e => .inr ⟨rfl,e⟩),fun h=>h.elim .inl (fun e => .inr e.2)⟩)
  ·rename_i e
   exact (hm.wv c).congr (fun u=>⟨.inl,fun h=>h.elim id (fun e2=>absurd e2.1 e)⟩)
 ·rw [om]
  split
  ·rename_i hx
   rcases hu with hu | ⟨rfl,_⟩
   ·exact hm.wk c u hu
   ·exact hx
  ·rcases hu with hu | ⟨rfl,_⟩
   ·exact List.mem_append_left _ (hm.wk c u hu)
   ·exact List.mem_append_right _ (List.mem_singleton_self _)
theorem zQ (hs:nZ h) (hl:x.Order.length < 2 ^ 50) (hpl:x.Picks.length < 2 ^ 50) :
  Tri (aH h x) (fun r=>(r.2=1 ∧ ¬ (dZ h∧oM h x))∨(r.2=0∧dZ h∧aG h=some 0∧oM h x∧rP h x r.1)):=by
 obtain ⟨v,hv,hv',a8,hiff⟩:=xe hs;unfold aH kR;refine bH (DN hs hl hpl) (fun y hy => ?_);rcases hy with ⟨rfl,hc⟩ | ⟨h0,hS,hc,hw⟩
 ·refine aj (fun _=>af (.inl ⟨rfl,fun hq => ?_⟩)) (fun h=>absurd (by decide) h)
  rw [hv] at hc
  have:=hiff.2 hq.1;cases hc;cases this
 refine aj (fun h=>absurd h0 h) (fun _ => ?_);refine aj (fun h1=>af (.inl ⟨rfl,fun hq=>h1 ((yR hw).2 hq.2)⟩)) (fun h1 => ?_);have hf:oM h x:=(yR hw).1 (Classical.byContradiction h1);have ho:=hf.ord;have a5:=hS.len;have hol:=ho.len;have hA:dX h=some (dh h h.Txns.length,0):=by unfold dX; rw [uF hs hS hc]; rfl
 obtain ⟨n1,n2,_⟩:=sI hS h.Txns.length (Nat.le_refl _);refine dG hA ?_;refine df (k0:=0) x.Order.length (fun k s=>s.2.2.2.2=(k:Int)∧(∀ t:Nat,t < 32→idx s.1 (t:Int)=if pos x.Order (t:Int) < k then (pos x.Order (t:Int):Int) + 1 else 0) ∧
  (∀ t:Nat,t < 32→Wh (idx s.2.1 (t:Int)) (fun u=>pos x.Order (t:Int) < k∧pos x.Order (u:Int) < pos x.Order (t:Int))) ∧
  (∀ t:Nat,t < 32→Wh (idx s.2.2.1 (t:Int)) (fun u=>pos x.Order (t:Int) < k∧pos x.Order (u:Int) < pos x.Order (t:Int)∧(idx h.Txns (u:Int)).Proc=(idx h.Txns (t:Int)).Proc)) ∧
  Wh s.2.2.2.1 (fun u=>pos x.Order (u:Int) < k)) (Nat.zero_le _)
  ⟨rfl,fun t ht=>(by rw [if_neg (Nat.not_lt_zero _)]; rfl),by exact fun t ht=>uH fun u h=>Nat.not_lt_zero _ h.1,by exact fun t ht=>uH fun u h=>Nat.not_lt_zero _ h.1,by exact uH fun u h=>Nat.not_lt_zero _ h⟩ ?_
 rintro k ⟨at_,beh,near,wd,z⟩ hk ⟨e,iA,iB,iN,iW⟩
 dsimp only at e iA iB iN iW
 subst e;unfold nu
 dsimp only
 refine aj (fun h2 => ?_) (fun h2 => ?_)
 ·have a2:k < x.Order.length:=by omega
  obtain ⟨n,en,hnl,hnp⟩:=vJ ho a2;refine ah (by omega) (ah (by rw [en]; omega) (ah (by omega) ?_));refine FH ho a5 a2 en hnl hnp iN (fun near' hN'=>⟨a2,rfl,fun t ht => ?_,fun t ht => ?_,hN',?_⟩)
  ·dsimp only
   rw [su ht,iA t ht]
   by_cases e:(t:Int)=(n:Int)
   ·rw [if_pos e,e,hnp,if_pos (by omega)]; omega
   ·rw [if_neg e]
    have:pos x.Order (t:Int)≠k:=fun h5=>e (by rw [qH a2 h5,en])
    by_cases h6:pos x.Order (t:Int) < k
    ·rw [if_pos h6,if_pos (by omega)]
    ·rw [if_neg h6,if_neg (by omega)]
  ·dsimp only
   rw [su ht]
   by_cases e:(t:Int)=(n:Int)
   ·rw [if_pos e,e,hnp]
    exact iW.congr (fun u=>⟨fun h=>⟨by omega,h⟩,fun h=>h.2⟩)
   ·rw [if_neg e]
    refine (iB t ht).congr (fun u => ?_);have:pos x.Order (t:Int)≠k:=fun h5=>e (by rw [qH a2 h5,en])
    constructor
    ·exact fun h=>⟨by omega,h.2⟩
    ·exact fun h=>⟨by omega,h.2⟩
  ·refine (iW.or (Wh.bit (by omega:n < 32))).congr (fun u => ?_)
   constructor
   ·rintro (h3 | rfl)
    ·omega
    ·omega
   ·intro h3
    by_cases h4:pos x.Order (u:Int)=k
    ·right
     have:=qH a2 h4
     omega
    ·left; omega
 ·have:k=x.Order.length:=by omega
  subst this;generalize hAs:dh h h.Txns.length=aL at n1 ⊢;refine df (k0:=0) aL.length (fun i s=>s.2=(i:Int)∧∀ t:Nat,t < 32→Wh (idx s.1 (t:Int)) (fun u=>(pos x.Order (t:Int) < x.Order.length∧pos x.Order (u:Int) < pos x.Order (t:Int)∧(idx h.Txns (u:Int)).Proc=(idx h.Txns (t:Int)).Proc) ∨
   ∃ q:Nat,q < i∧(idx aL (q:Int)).Txn=(t:Int)∧idx x.Picks (q:Int)=(u:Int))) (Nat.zero_le _) ⟨rfl,fun t ht=>(iN t ht).congr (fun u=>⟨.inl,fun h=>h.elim id (fun ⟨q,hq,_⟩=>absurd hq (Nat.not_lt_zero _))⟩)⟩ ?_
  rintro i ⟨nr,z⟩ hi ⟨e,iM⟩
  dsimp only at e iM
  subst e;have hwi:w64 ((i:Int) + 1)=((i + 1:Nat):Int):=bq (by omega);unfold nk kP
  dsimp only
  rw [hwi]
  have hple:=hf.len
  rw [hAs] at hple
  refine aj (fun h3 => ?_) (fun h3 => ?_)
  ·have a3:i < aL.length:=by omega
   obtain ⟨a,ea,hal,_⟩:=xq (h:=h) (by rw [hAs]; exact uG a3);have hpk:=(yo.1 (hf.pick i (by rw [hAs]; exact a3))).1
   rw [hAs] at hpk
   refine ah (by omega) (ah (by omega) ?_)
   rw [ea]
   refine aj (fun h4 => ?_) (fun h4 => ?_)
   ·have hin:idx x.Picks (i:Int) ∈ x.Order:=by
     rcases hpk with h5 | h5
     ·omega
     ·exact h5.1
    have hr:=ho.rg _ hin;obtain ⟨b,eb⟩:∃ b:Nat,idx x.Picks (i:Int)=(b:Int):=⟨(idx x.Picks (i:Int)).toNat,by omega⟩
    rw [eb] at hr ⊢
    refine ah (by omega) (ah ⟨by omega,by unfold far; omega⟩ (af ⟨a3,rfl,fun t ht => ?_⟩))
    dsimp only
    rw [su ht]
    by_cases e:(t:Int)=(a:Int)
    ·rw [if_pos e]
     have:t=a:=by omega
     subst this;refine ((iM t ht).or (Wh.bit (by omega:b < 32))).congr (fun u => ?_)
     constructor
     ·rintro ((h5 | ⟨q,h5,h6⟩) | rfl)
      ·exact .inl h5
      ·exact .inr ⟨q,by omega,h6⟩
      ·exact .inr ⟨i,by omega,ea,eb⟩
     ·rintro (h5 | ⟨q,h5,h6,h7⟩)
      ·exact .inl (.inl h5)
      ·by_cases h8:q=i
       ·right
        rw [h8,eb] at h7
        omega
       ·exact .inl (.inr ⟨q,by omega,h6,h7⟩)
    ·rw [if_neg e]
     refine (iM t ht).congr (fun u => ?_)
     constructor
     ·rintro (h5 | ⟨q,h5,h6⟩)
      ·exact .inl h5
      ·exact .inr ⟨q,by omega,h6⟩
     ·rintro (h5 | ⟨q,h5,h6,h7⟩)
      ·exact .inl h5
      ·refine .inr ⟨q,?_,h6,h7⟩;have:q≠i:=fun e2=>e (by rw [← h6,e2,ea])
       omega
   ·refine af ⟨a3,rfl,fun t ht=>(iM t ht).congr (fun u => ?_)⟩
    constructor
    ·rintro (h5 | ⟨q,h5,h6⟩)
     ·exact .inl h5
     ·exact .inr ⟨q,by omega,h6⟩
    ·rintro (h5 | ⟨q,h5,h6,h7⟩)
     ·exact .inl h5
     ·refine .inr ⟨q,?_,h6,h7⟩;have:q≠i:=fun e2=>h4 (by rw [← e2,h7]; omega)
      omega
  ·have:i=aL.length:=by omega
   subst this;have hkl:=hS.names;have a9:h.Keys.length≤32:=hkl.1;refine df (k0:=0) h.Keys.length (fun c s=>s.2=(c:Int)∧WrM (fun k u=>k < (c:Int)∧Wr h x.Order k u) s.1) (Nat.zero_le _) ⟨rfl,by exact ⟨List.nodup_nil,fun k=>uH fun u h5=>by have:=h5.2.1; omega,fun k u h5=>by have:=h5.2.1; omega⟩⟩ ?_
   rintro c ⟨m,z⟩ b0 ⟨e,iK⟩
   dsimp only at e iK
   subst e;unfold ni
   dsimp only
   refine aj (fun h4 => ?_) (fun h4 => ?_)
   ·have a6:c < h.Keys.length:=by omega
    refine dG (yN hS hc) ?_;have hwl:=tC (h:=h) (key:=(c:Int)) (k:=h.Txns.length);have hwm:=fun t=>zG (h:=h) (key:=(c:Int)) (k:=h.Txns.length) (t:=t);generalize iV h (c:Int) h.Txns.length=wl at hwl hwm;refine df (k0:=0) wl.length (fun j s=>s.2=(j:Int)∧WrM (fun k u=>(k < (c:Int)∧Wr h x.Order k u)∨(k=(c:Int)∧(u:Int) ∈ x.Order∧∃ q:Nat,q < j∧idx wl (q:Int)=(u:Int))) s.1) (Nat.zero_le _)
     ⟨rfl,iK.congr (fun k u=>⟨.inl,fun h5=>h5.elim id (fun ⟨_,_,q,hq,_⟩=>absurd hq (Nat.not_lt_zero _))⟩)⟩ ?_
    rintro j ⟨m2,z⟩ hj ⟨e,iJ⟩
    dsimp only at e iJ
    subst e;have hwj:w64 ((j:Int) + 1)=((j + 1:Nat):Int):=bq (by omega);have hwc:w64 ((c:Int) + 1)=((c + 1:Nat):Int):=bq (by omega);unfold ng kQ
    dsimp only
    rw [hwj,hwc]
    refine aj (fun h5 => ?_) (fun h5 => ?_)
    ·have a4:j < wl.length:=by omega
     have hmm:=(hwm _).1 (mJ a4);obtain ⟨b,eb⟩:∃ b:Nat,idx wl (j:Int)=(b:Int):=⟨(idx wl (j:Int)).toNat,by omega⟩
     rw [eb] at hmm ⊢
     refine ah (by omega) (ah (by omega) ?_);have hat:(idx at_ (b:Int) > 0)↔(b:Int) ∈ x.Order:=by
      rw [iA b (by omega),← fA]
      split
      ·rename_i h6; exact ⟨fun _=>h6,fun _=>by omega⟩
      ·rename_i h6; exact ⟨fun h7=>absurd h7 (by omega),fun h7=>absurd h7 h6⟩
     refine aj (fun h6 => ?_) (fun h6 => ?_)
     ·refine ah ⟨by omega,by unfold far; omega⟩ (af ⟨a4,rfl,(iJ.put (k:=(c:Int)) (by omega:b < 32)).congr (fun k u => ?_)⟩)
      constructor
      ·rintro ((h7 | ⟨h7,h8,q,h9,a1⟩) | ⟨h7,rfl⟩)
       ·exact .inl h7
       ·exact .inr ⟨h7,h8,q,by omega,a1⟩
       ·exact .inr ⟨h7,hat.1 h6,j,by omega,eb⟩
      ·rintro (h7 | ⟨h7,h8,q,h9,a1⟩)
       ·exact .inl (.inl h7)
       ·by_cases a7:q=j
        ·refine .inr ⟨h7,?_⟩
         rw [a7,eb] at a1
         omega
        ·exact .inl (.inr ⟨h7,h8,q,by omega,a1⟩)
     ·refine af ⟨a4,rfl,iJ.congr (fun k u => ?_)⟩
      constructor
      ·rintro (h7 | ⟨h7,h8,q,h9,a1⟩)
       ·exact .inl h7
       ·exact .inr ⟨h7,h8,q,by omega,a1⟩
      ·rintro (h7 | ⟨h7,h8,q,h9,a1⟩)
       ·exact .inl h7
       ·refine .inr ⟨h7,h8,q,?_,a1⟩;have:q≠j:=fun e=>h6 (hat.2 (by rw [← eb,← e,a1]; exact h8))
        omega
    ·have:j=wl.length:=by omega
     subst this;refine aA (af ⟨a6,rfl,iJ.congr (fun k u => ?_)⟩)
     constructor
     ·rintro (⟨h7,h8⟩ | ⟨h7,h8,q,h9,a1⟩)
      ·exact ⟨by omega,h8⟩
      ·subst h7;have:=(hwm _).1 (a1 ▸ mJ h9);exact ⟨by omega,by omega,by omega,h8,this.2.2.2⟩
     ·rintro ⟨h7,h8⟩
      by_cases h9:k=(c:Int)
      ·subst h9;obtain ⟨w1,w2,w3,w4⟩:=h8;have hr:=ho.rg _ w3;obtain ⟨q,hq,hqe⟩:=yO ((hwm _).2 ⟨hr.1,hr.2.1,hr.2.2,w4⟩);exact .inr ⟨rfl,w3,q,hq,hqe⟩
      ·exact .inl ⟨by omega,h8⟩
   ·have:c=h.Keys.length:=by omega
    subst this;refine aA (aA (aA (af (.inr ⟨rfl,hS,hc,hf,?_⟩))));refine ⟨rfl,rfl,hAs.symm,fun t ht => ?_,fun t ht => ?_,fun t ht => ?_,iK.nd,fun k=>(iK.wv k).congr (fun u=>⟨fun h=>h.2,fun h=>⟨h.2.1,h⟩⟩),fun k u hu=>iK.wk k u ⟨hu.2.1,hu⟩⟩
    ·dsimp only
     rw [iA t ht]
     by_cases h5:(t:Int) ∈ x.Order
     ·rw [if_pos h5,if_pos (fA.2 h5)]
     ·rw [if_neg h5,if_neg (fun h6=>h5 (fA.1 h6))]
    ·exact (iB t ht).congr (fun u=>⟨fun h=>⟨fA.1 h.1,h.2⟩,fun h=>⟨fA.2 h.1,h.2⟩⟩)
    ·refine (iM t ht).congr (fun u => ?_);unfold rO
     rw [hAs,← fA]
end
end Go.Proofs.YtmfgddafcgflaaaT
namespace Go.Proofs.YtmfgddafcgflaaaT
open Go Go.Proofs Go.Proofs.YtmfgddafcgflaaaE
set_option linter.unusedVariables false
set_option linter.unusedSimpArgs false
section
variable {h:History} {x:Exec} {w:bf}
abbrev fQ (h:History):List Ask:=dh h h.Txns.length
abbrev lZ (h:History) (i:Nat):Ask:=idx (fQ h) (i:Int)
abbrev jS (h:History) (i:Nat):Nat:=(lZ h i).Txn.toNat
def wI (x:Exec) (t u:Nat):Prop:=(t:Int) ∈ x.Order∧pos x.Order (u:Int) < pos x.Order (t:Int)
def BU (h:History) (x:Exec) (i u:Nat):Prop:=∃ k:Nat,k < (fQ h).length∧(lZ h k).Txn=(lZ h i).Txn∧(lZ h k).Place < (lZ h i).Place∧idx x.Picks (k:Int)=(u:Int)
def GI (x:Exec) (p:Nat→Prop) (u:Nat):Prop:=p u∨∃ t,p t∧wI x t u
def Hu (h:History) (x:Exec) (t u:Nat):Prop:=∃ k,Wr h x.Order k t∧Wr h x.Order k u∧wI x t u
inductive yu (N:Nat→Nat→Prop) (t:Nat):Nat→Prop
 | one {u:Nat}:N t u→yu N t u
 | more {u v:Nat}:yu N t v→N v u→yu N t u
def BV (h:History) (x:Exec) (level:Int) (i u:Nat):Prop :=
 if level=1 then BU h x i u else if level=2 then (Wr h x.Order (lZ h i).Key (jS h i)∧wI x (jS h i) u)∨(¬ Wr h x.Order (lZ h i).Key (jS h i)∧BU h x i u)
 else if level=3 then rO h x (jS h i) u else if level=4 then yu (rO h x) (jS h i) u else if level=5 then GI x (rO h x (jS h i)) u
 else if level=6 then GI x (fun v=>rO h x (jS h i) v∨Hu h x (jS h i) v) u else wI x (jS h i) u
theorem rP.eA (hw:rP h x w):w.asks=fQ h:=hw.ea
theorem oM.lA (hf:oM h x):x.Picks.length=(fQ h).length:=hf.len
theorem AX (hS:dZ h):(fQ h).length≤16 * h.Txns.length:=(sI hS h.Txns.length (Nat.le_refl _)).1
theorem uI (hf:oM h x) {i:Nat} (hi:i < (fQ h).length):(lZ h i).Txn=(jS h i:Int)∧jS h i < h.Txns.length∧(jS h i:Int) ∈ x.Order:=by
 obtain ⟨t,et,ht,hst⟩:=xq (uG hi);have e:jS h i=t:=by unfold jS; rw [et]; rfl
 rw [e]
 exact ⟨et,ht,hf.ord.dn t ht hst⟩
theorem yT (hf:oM h x) {i:Nat} (hi:i < (fQ h).length):idx x.Picks (i:Int) = -1∨∃ b:Nat,idx x.Picks (i:Int)=(b:Int)∧b < h.Txns.length∧wI x (jS h i) b∧0 < (jG h (b:Int) (lZ h i).Key).length∧(b:Int) ∈ x.Order:=by
 rcases (yo.1 (hf.pick i hi)).1 with h1 | h1
 ·exact .inl h1
 ·right
  obtain ⟨h2,h3,h4⟩:=h1;have hr:=hf.ord.rg _ h2;obtain ⟨b,eb⟩:∃ b:Nat,idx x.Picks (i:Int)=(b:Int):=⟨(idx x.Picks (i:Int)).toNat,by omega⟩
  obtain ⟨q1,q2,q3⟩:=uI hf hi;refine ⟨b,eb,by omega,⟨q3,?_⟩,?_,?_⟩
  ·rw [← q1,← eb]; exact h3
  ·rw [← eb]; exact h4
  ·rw [← eb]; exact h2
theorem yU (hS:dZ h) (hf:oM h x) (hw:rP h x w) {i:Nat} (hi:i < (fQ h).length):Tri (aT w (i:Int)) (fun r=>Wh r (BU h x i)):=by
 have n1:=AX hS;have a2:=hS.len;have hpl:=hf.lA;unfold aT;refine df (k0:=0) (fQ h).length (fun k s=>s.2=(k:Int)∧Wh s.1 (fun u=>∃ q:Nat,q < k∧(lZ h q).Txn=(lZ h i).Txn∧(lZ h q).Place < (lZ h i).Place∧idx x.Picks (q:Int)=(u:Int))) (Nat.zero_le _)
  ⟨rfl,by exact uH fun u ⟨q,hq,_⟩=>Nat.not_lt_zero _ hq⟩ ?_
 rintro k ⟨o,z⟩ hk ⟨e,hW⟩
 dsimp only at e hW
 subst e;have hwk:w64 ((k:Int) + 1)=((k + 1:Nat):Int):=bq (by omega);unfold jL fq gZ
 dsimp only
 rw [hwk,hw.eA,hw.ex]
 refine aj (fun h1 => ?_) (fun h1 => ?_)
 ·have a1:k < (fQ h).length:=by omega
  have nx:¬ ((lZ h k).Txn=(lZ h i).Txn∧(lZ h k).Place < (lZ h i).Place∧0≤idx x.Picks (k:Int)) →
    Upm (fQ h).length k (fun k s=>s.2=(k:Int)∧Wh s.1 (fun u=>∃ q:Nat,q < k∧(lZ h q).Txn=(lZ h i).Txn∧(lZ h q).Place < (lZ h i).Place∧idx x.Picks (q:Int)=(u:Int))) (fun r=>Wh r (BU h x i)) (.inl (o,((k + 1:Nat):Int))):=fun hn=>by
   refine ⟨a1,rfl,hW.congr (fun u => ?_)⟩
   constructor
   ·rintro ⟨q,h5,h6⟩;exact ⟨q,by omega,h6⟩
   ·rintro ⟨q,h5,h6,h7,h8⟩;refine ⟨q,?_,h6,h7,h8⟩;have:q≠k:=fun e=>hn (by subst e; exact ⟨h6,h7,by omega⟩)
    omega
  refine ah (by omega) (ah (by omega) ?_);refine aj (fun h2 => ?_) (fun h2 => ?_)
  ·refine aj (fun h3 => ?_) (fun h3 => ?_)
   ·refine ah (by omega) ?_;refine aj (fun h4 => ?_) (fun h4=>af (nx (fun h5=>h4 h5.2.2)));rcases yT hf a1 with h5 | ⟨b,eb,hb,_⟩
    ·omega
    rw [eb]
    refine ah (by omega) (ah ⟨by omega,by unfold far; omega⟩ (af ⟨a1,rfl,(hW.or (Wh.bit (by omega:b < 32))).congr (fun u => ?_)⟩))
    constructor
    ·rintro (⟨q,h5,h6⟩ | rfl)
     ·exact ⟨q,by omega,h6⟩
     ·exact ⟨k,by omega,h2,h3,eb⟩
    ·rintro ⟨q,h5,h6,h7,h8⟩
     by_cases h9:q=k
     ·right
      rw [h9,eb] at h8
      omega
     ·exact .inl ⟨q,by omega,h6,h7,h8⟩
   ·exact aj (fun h4=>absurd h4 (by simp)) (fun h4=>af (nx (fun h5=>h3 h5.2.1)))
  ·exact aj (fun h4=>absurd h4 (by simp)) (fun h4=>af (nx (fun h5=>h2 h5.1)))
 ·have:k=(fQ h).length:=by omega
  subst this;exact aA (af hW)
theorem xw (hw:rP h x w) {a:Int} {p:Nat→Prop} (ha:Wh a p):Tri (bW w a) (fun r=>Wh r (GI x p)):=by
 unfold bW jM;refine dG rfl ?_;refine bH (vX (W:=fun t=>idx w.behind (t:Int)) (fun y t ht => ?_) ha (q:=wI x) (fun t ht _=>hw.bh t ht)) ?_
 ·show (must _ _:Option _)=_
  rw [iC _ ⟨by omega,by omega⟩]
 ·rintro s ⟨z,rfl,hz,_⟩;exact af hz
theorem CS (hw:rP h x w) {t:Nat} (ht:t < 32):Tri (bJ w (t:Int)) (fun r=>Wh r (yu (rO h x) t)):=by
 unfold bJ;refine ah (by omega) ?_;refine uK (fun s=>∃ p,Wh s p∧(∀ u,rO h x t u→p u)∧∀ u,p u→yu (rO h x) t u) (fun s=>2 ^ 32 - s.toNat) ⟨_,hw.nr t ht,fun u h=>h,fun u h => .one h⟩ ?_;rintro s ⟨p,hp,h1,h2⟩;unfold lJ jM;refine dG rfl ?_;refine bH (vX (W:=fun t=>idx w.near (t:Int)) (fun y t ht => ?_) hp (q:=rO h x) (fun t ht _=>hw.nr t ht)) ?_
 ·show (must _ _:Option _)=_
  rw [iC _ ⟨by omega,by omega⟩]
 ·rintro r ⟨z,rfl,hz,hle,hor⟩;unfold lI
  dsimp only
  refine aj (fun h3 => ?_) (fun h3=>af ?_)
  ·refine aA (af ?_);subst h3;have hcl:∀ u v,p v→rO h x v u→p u:=fun u v hv hn=>by
    obtain ⟨a,ea,_,a2⟩:=hp;obtain ⟨b,eb,_,b2⟩:=hz;have:a=b:=by omega
    subst this;exact (a2 u).1 ((b2 u).2 (.inr ⟨v,hv,hn⟩))
   refine hp.congr (fun u=>⟨h2 u,fun hu => ?_⟩)
   induction hu with
   | one h=>exact h1 _ h
   | more _ h ih=>exact hcl _ _ ih h
  ·have hb:=hz.big;have a1:=hp.big;refine ⟨⟨_,hz,fun u hu => .inl (h1 u hu),fun u hu => ?_⟩,?_⟩
   ·rcases hu with hu | ⟨v,hv,hn⟩
    ·exact h2 u hu
    ·exact .more (h2 v hv) hn
   ·rcases hor with h4 | h4
    ·exact absurd h4 h3
    ·show 2 ^ 32 - z.toNat < 2 ^ 32 - s.toNat
     omega
theorem uJ (hw:rP h x w) {t:Nat} (ht:t < 32):∀ (l:List (Int×Int)) (s:Int) (q:Nat→Prop),(∀ e ∈ l,Wh e.2 (Wr h x.Order e.1))→Wh s q →
  Tri (l.foldlM (dm.m1 w (t:Int)) s) (fun r=>Wh r (fun u=>q u∨∃ e ∈ l,Wr h x.Order e.1 t∧Wr h x.Order e.1 u∧wI x t u))
 | [],s,q,_,hs=>af (hs.congr (fun u=>⟨.inl,fun h=>h.elim id (fun ⟨e,he,_⟩=>nomatch he)⟩))
 | e::l,s,q,hl,hs=>by
  rw [List.foldlM_cons]
  have he:=hl e List.mem_cons_self;have hr:=he.rf ht
  show Tri ((dm.m1 w (t:Int) s e).bind fun s'=>l.foldlM (dm.m1 w (t:Int)) s') _
  unfold dm.m1;refine bN (ah ⟨by omega,by unfold far; omega⟩ ?_);refine bR (aj (r:=hr) (fun h1 => ?_) (fun h1 => ?_))
  ·refine bN (ah (by omega) (bF ?_));refine dA (uJ hw ht l _ _ (fun e he=>hl e (List.mem_cons_of_mem _ he)) (hs.or (he.and (hw.bh t ht)))) (fun r hr=>hr.congr (fun u => ?_))
   constructor
   ·rintro ((h2 | ⟨h2,h3⟩) | ⟨e',h2,h3⟩)
    ·exact .inl h2
    ·exact .inr ⟨e,List.mem_cons_self,h1,h2,h3⟩
    ·exact .inr ⟨e',List.mem_cons_of_mem _ h2,h3⟩
   ·rintro (h2 | ⟨e',h2,h3,h4,h5⟩)
    ·exact .inl (.inl h2)
    ·rcases List.mem_cons.1 h2 with rfl | h2
     ·exact .inl (.inr ⟨h4,h5⟩)
     ·exact .inr ⟨e',h2,h3,h4,h5⟩
  ·refine bF ?_;refine dA (uJ hw ht l _ _ (fun e he=>hl e (List.mem_cons_of_mem _ he)) hs) (fun r hr=>hr.congr (fun u => ?_))
   constructor
   ·rintro (h2 | ⟨e',h2,h3⟩)
    ·exact .inl h2
    ·exact .inr ⟨e',List.mem_cons_of_mem _ h2,h3⟩
   ·rintro (h2 | ⟨e',h2,h3,h4⟩)
    ·exact .inl h2
    ·rcases List.mem_cons.1 h2 with rfl | h2
     ·exact absurd h3 h1
     ·exact .inr ⟨e',h2,h3,h4⟩
theorem zR (hw:rP h x w) {t:Nat} (ht:t < 32):Tri (dm w (t:Int)) (fun r=>Wh r (Hu h x t)):=by
 have hall:∀ e ∈ w.writes,Wh e.2 (Wr h x.Order e.1):=fun e he=>by rw [FI hw.nd he]; exact hw.wv e.1
 obtain ⟨R,hR,hW⟩:=uJ hw ht w.writes 0 (fun _=>False) hall Wh.zero;unfold dm;refine dG (Bc (R:=R) (fun l hl => ?_)) (af (hW.congr (fun u => ?_)))
 ·obtain ⟨R',hR',hW'⟩:=uJ hw ht l 0 (fun _=>False) (fun e he=>hall e (hl.mem_iff.1 he)) Wh.zero
  rw [hR']
  congr 1
  refine Wh.det hW' (hW.congr (fun u => ?_))
  constructor
  ·rintro (h1 | ⟨e,h1,h2⟩)
   ·exact .inl h1
   ·exact .inr ⟨e,hl.mem_iff.2 h1,h2⟩
  ·rintro (h1 | ⟨e,h1,h2⟩)
   ·exact .inl h1
   ·exact .inr ⟨e,hl.mem_iff.1 h1,h2⟩
 ·constructor
  ·rintro (h1 | ⟨e,h1,h2⟩)
   ·exact h1.elim
   ·exact ⟨e.1,h2⟩
  ·rintro ⟨k,h2⟩;obtain ⟨e,he,rfl⟩:=List.mem_map.1 (hw.wk k t h2.1);exact .inr ⟨e,he,h2⟩
theorem CU (hS:dZ h) (hf:oM h x) (hw:rP h x w) {i:Nat} (hi:i < (fQ h).length) (level:Int):Tri (jN w level (i:Int)) (fun r=>Wh r (BV h x level i)):=by
 have a1:=hS.len;obtain ⟨et,htl,hto⟩:=uI hf hi;have he:=yU hS hf hw hi;unfold jN BV
 rw [hw.eA]
 have et':(idx (fQ h) (i:Int)).Txn=(jS h i:Int):=et
 rw [et']
 refine ah (by omega) ?_;refine aj (fun h1 => ?_) (fun h1 => ?_)
 ·simp only [if_pos h1]
  exact bH he (fun r hr=>af hr)
 simp only [if_neg h1]
 refine aj (fun h2 => ?_) (fun h2 => ?_)
 ·simp only [if_pos h2]
  refine ah ⟨by omega,by unfold far; omega⟩ ?_
  refine aj (r:=(hw.wv _).rf (by omega:jS h i < 32)) (fun h3 => ?_) (fun h3 => ?_)
  ·exact ah (by omega) (af ((hw.bh _ (by omega:jS h i < 32)).congr (fun u=>⟨fun h4 => .inl ⟨h3,h4⟩,fun h4=>h4.elim (fun h5=>h5.2) (fun h5=>absurd h3 h5.1)⟩)))
  ·exact bH he (fun r hr=>af (hr.congr (fun u=>⟨fun h4 => .inr ⟨h3,h4⟩,fun h4=>h4.elim (fun h5=>absurd h5.1 h3) (fun h5=>h5.2)⟩)))
 simp only [if_neg h2]
 refine aj (fun h3 => ?_) (fun h3 => ?_)
 ·simp only [if_pos h3]
  exact ah (by omega) (af (hw.nr _ (by omega)))
 simp only [if_neg h3]
 refine aj (fun h4 => ?_) (fun h4 => ?_)
 ·simp only [if_pos h4]
  exact bH (CS hw (by omega:jS h i < 32)) (fun r hr=>af hr)
 simp only [if_neg h4]
 refine aj (fun h5 => ?_) (fun h5 => ?_)
 ·simp only [if_pos h5]
  exact ah (by omega) (bH (xw hw (hw.nr _ (by omega:jS h i < 32))) (fun r hr=>af hr))
 simp only [if_neg h5]
 refine aj (fun h6 => ?_) (fun h6 => ?_)
 ·simp only [if_pos h6]
  refine ah (by omega) (bH (zR hw (by omega:jS h i < 32)) (fun r hr => ?_));exact bH (xw hw ((hw.nr _ (by omega:jS h i < 32)).or hr)) (fun r hr=>af hr)
 simp only [if_neg h6]
 exact ah (by omega) (af (hw.bh _ (by omega)))
def rQ (h:History) (x:Exec) (level:Int) (i u:Nat):Prop:=BV h x level i u∧Wr h x.Order (lZ h i).Key u∧u≠jS h i ∧ ¬ (0≤idx x.Picks (i:Int)∧((u:Int)=idx x.Picks (i:Int)∨wI x (idx x.Picks (i:Int)).toNat u))
def Brk (h:History) (x:Exec) (level:Int) (r:(Int×Int×Int)×Bool):Prop :=
 (r=((0,0,0),false)∧∀ i u,i < (fQ h).length → ¬ rQ h x level i u) ∨
 ∃ i k u:Nat,i < (fQ h).length∧k < x.Order.length∧idx x.Order (k:Int)=(u:Int)∧(∀ j v,j < i → ¬ rQ h x level j v)∧rQ h x level i u∧(∀ q v:Nat,q < k→idx x.Order (q:Int)=(v:Int) → ¬ rQ h x level i v)∧r=(((u:Int),idx x.Picks (i:Int),(i:Int)),true)
theorem zS (hS:dZ h) (hf:oM h x) (hw:rP h x w) (level:Int):Tri (aK w level) (Brk h x level):=by
 have a5:=hS.len;have n1:=AX hS;have hpl:=hf.lA;have hol:=hf.ord.len;unfold aK;refine df (k0:=0) (fQ h).length (fun i s=>s=(i:Int)∧∀ j v,j < i → ¬ rQ h x level j v) (Nat.zero_le _) ⟨rfl,fun j v hj=>absurd hj (Nat.not_lt_zero _)⟩ ?_;rintro i s hi ⟨rfl,hno⟩;have hwi:w64 ((i:Int) + 1)=((i + 1:Nat):Int):=bq (by omega);unfold ky kw
 dsimp only
 rw [hw.eA,hw.ex]
 refine aj (fun h1 => ?_) (fun h1 => ?_)
 ·have a2:i < (fQ h).length:=by omega
  obtain ⟨et,htl,hto⟩:=uI hf a2;have et':(idx (fQ h) (i:Int)).Txn=(jS h i:Int):=et;refine ah (by omega) (ah (by omega) ?_);refine bH (CU hS hf hw a2 level) (fun y hy => ?_)
  rw [et']
  refine ah ⟨by omega,by unfold far; omega⟩ ?_
  have a4:=(hy.and (hw.wv (lZ h i).Key)).minus (Wh.bit (by omega:jS h i < 32));have fin:∀ b,Wh b (rQ h x level i)→Tri (fG w (i:Int) b) (Upm (fQ h).length i (fun i s=>s=(i:Int)∧∀ j v,j < i → ¬ rQ h x level j v) (Brk h x level)):=fun b hb=>by
   unfold fG;refine aj (fun h2 => ?_) (fun h2 => ?_)
   ·unfold iP
    rw [hwi]
    refine af ⟨a2,rfl,fun j v hj => ?_⟩
    by_cases e:j=i
    ·rw [e]; exact hb.none.1 h2 v
    ·exact hno j v (by omega)
   ·refine df (k0:=0) x.Order.length (fun k s=>s=(k:Int)∧∀ q v:Nat,q < k→idx x.Order (q:Int)=(v:Int) → ¬ rQ h x level i v) (Nat.zero_le _) ⟨rfl,fun q v hq=>absurd hq (Nat.not_lt_zero _)⟩ ?_;rintro k s hk ⟨rfl,hnk⟩;have hwk:w64 ((k:Int) + 1)=((k + 1:Nat):Int):=bq (by omega);unfold ku
    dsimp only
    rw [hw.ex,hwk]
    refine aj (fun h3 => ?_) (fun h3 => ?_)
    ·have a3:k < x.Order.length:=by omega
     obtain ⟨n,en,hnl,hnp⟩:=vJ hf.ord a3
     rw [en]
     refine ah (by omega) (ah ⟨by omega,by unfold far; omega⟩ ?_);refine aj (r:=hb.rf (by omega:n < 32)) (fun h4 => ?_) (fun h4 => ?_)
     ·exact aA (aA (af (.inr ⟨i,k,n,a2,a3,en,hno,h4,hnk,rfl⟩)))
     ·refine af ⟨a3,rfl,fun q v hq e => ?_⟩
      by_cases e2:q=k
      ·rw [e2,en] at e
       have:n=v:=by omega
       exact this ▸ h4
      ·exact hnk q v (by omega) e
    ·have:k=x.Order.length:=by omega
     subst this;refine absurd ?_ h2;refine hb.none.2 (fun u hu => ?_);obtain ⟨q,hq,e⟩:=yO hu.2.1.2.2.1;exact hnk q u hq e hu
  refine aj (fun h2 => ?_) (fun h2 => ?_)
  ·rcases yT hf a2 with h5 | ⟨b,eb,hbl,_⟩
   ·omega
   rw [eb]
   refine ah ⟨by omega,by unfold far; omega⟩ (ah (by omega) (fin _ ?_))
   refine (a4.minus ((Wh.bit (by omega:b < 32)).or (hw.bh b (by omega)))).congr (fun u => ?_);unfold rQ wI
   rw [eb,Int.toNat_natCast]
   constructor
   ·rintro ⟨⟨⟨h6,h7⟩,h8⟩,h9⟩;exact ⟨h6,h7,h8,fun a1=>h9 (a1.2.elim (fun e => .inl (by omega)) .inr)⟩
   ·rintro ⟨h6,h7,h8,h9⟩;exact ⟨⟨⟨h6,h7⟩,h8⟩,fun a1=>h9 ⟨by omega,a1.elim (fun e => .inl (by omega)) .inr⟩⟩
  ·refine fin _ (a4.congr (fun u => ?_));unfold rQ
   constructor
   ·rintro ⟨⟨h6,h7⟩,h8⟩;exact ⟨h6,h7,h8,fun a1=>h2 a1.1⟩
   ·rintro ⟨h6,h7,h8,h9⟩;exact ⟨⟨h6,h7⟩,h8⟩
 ·have:i=(fQ h).length:=by omega
  subst this;exact aA (af (.inl ⟨rfl,fun j v hj=>hno j v hj⟩))
def tF (h:History) (x:Exec) (b c:Nat):Prop:=(idx h.Txns (b:Int)).Status=1∧(idx h.Txns (b:Int)).To < (idx h.Txns (c:Int)).From∧(b:Int) ∈ x.Order∧pos x.Order (c:Int) < pos x.Order (b:Int)
def Lat (h:History) (x:Exec) (r:(Int×Int×Int)×Bool):Prop :=
 (r=((0,0,0),false)∧∀ b c,b < h.Txns.length→c < h.Txns.length → ¬ tF h x b c) ∨
 ∃ b c:Nat,b < h.Txns.length∧c < h.Txns.length∧tF h x b c∧(∀ b' c',b' < b→c' < h.Txns.length → ¬ tF h x b' c')∧(∀ c',c' < c → ¬ tF h x b c')∧r=(((b:Int),(c:Int),-1),true)
theorem CV (hS:dZ h) (hf:oM h x) (hw:rP h x w):Tri (bB w) (Lat h x):=by
 have a3:=hS.len;unfold bB;refine df (k0:=0) h.Txns.length (fun b s=>s=(b:Int)∧∀ b' c',b' < b→c' < h.Txns.length → ¬ tF h x b' c') (Nat.zero_le _) ⟨rfl,fun b' c' hb=>absurd hb (Nat.not_lt_zero _)⟩ ?_;rintro b s hb ⟨rfl,hno⟩;have hwb:w64 ((b:Int) + 1)=((b + 1:Nat):Int):=bq (by omega);unfold lL
 dsimp only
 rw [hw.eh]
 refine aj (fun h1 => ?_) (fun h1 => ?_)
 ·have a2:b < h.Txns.length:=by omega
  refine ah (by omega) ?_;refine df (k0:=0) h.Txns.length (fun c s=>s=(c:Int)∧∀ c',c' < c → ¬ tF h x b c') (Nat.zero_le _) ⟨rfl,fun c' hc=>absurd hc (Nat.not_lt_zero _)⟩ ?_;rintro c s hc ⟨rfl,hnc⟩;have hwc:w64 ((c:Int) + 1)=((c + 1:Nat):Int):=bq (by omega);unfold lK fB
  dsimp only
  rw [hw.eh,hwb,hwc]
  refine aj (fun h2 => ?_) (fun h2 => ?_)
  ·have a1:c < h.Txns.length:=by omega
   have nx:¬ tF h x b c→Upm h.Txns.length c (fun c s=>s=(c:Int)∧∀ c',c' < c → ¬ tF h x b c') (Upm h.Txns.length b (fun b s=>s=(b:Int)∧∀ b' c',b' < b→c' < h.Txns.length → ¬ tF h x b' c') (Lat h x)) (.inl ((c + 1:Nat):Int)):=fun hn=>by
    refine ⟨a1,rfl,fun c' hc' => ?_⟩
    by_cases e:c'=c
    ·rw [e]; exact hn
    ·exact hnc c' (by omega)
   refine ah (by omega) ?_;refine aj (fun h3 => ?_) (fun h3=>aj (fun h4=>absurd h4 (by simp)) (fun _=>af (nx (fun h5=>h3 h5.1))));refine aj (fun h4 => ?_) (fun h4=>aj (fun h5=>absurd h5 (by simp)) (fun _=>af (nx (fun h5=>h4 h5.2.1))));refine ah (by omega) ?_;have hcA:=hw.at_ c (by omega);have hbA:=hw.at_ b (by omega);refine aj (fun h5 => ?_) (fun h5=>aj (fun h6=>absurd h6 (by simp)) (fun _=>af (nx (fun h6 => ?_))))
   ·refine ah (by omega) ?_;refine aj (fun h6 => ?_) (fun h6=>af (nx (fun h7 => ?_)))
    ·have hcm:(c:Int) ∈ x.Order:=Classical.byContradiction fun h7=>by rw [if_neg h7] at hcA; omega
     have hbm:(b:Int) ∈ x.Order:=Classical.byContradiction fun h7=>by rw [if_neg h7] at hbA; omega
     rw [if_pos hcm] at hcA
     rw [if_pos hbm] at hbA
     exact aA (aA (af (.inr ⟨b,c,a2,a1,⟨h3,h4,hbm,by omega⟩,hno,hnc,rfl⟩)))
    ·obtain ⟨_,_,h8,h9⟩:=h7;have hcm:(c:Int) ∈ x.Order:=fA.1 (Nat.lt_trans h9 (fA.2 h8))
     rw [if_pos hcm] at hcA
     rw [if_pos h8] at hbA
     omega
   ·obtain ⟨_,_,h8,h9⟩:=h6;have hcm:(c:Int) ∈ x.Order:=fA.1 (Nat.lt_trans h9 (fA.2 h8))
    rw [if_pos hcm] at hcA
    omega
  ·have:c=h.Txns.length:=by omega
   subst this;refine aA (af ⟨a2,rfl,fun b' c' h3 h4 => ?_⟩)
   by_cases e:b'=b
   ·rw [e]; exact hnc c' h4
   ·exact hno b' c' (by omega) h4
 ·have:b=h.Txns.length:=by omega
  subst this;exact aA (af (.inl ⟨rfl,fun b c h2 h3=>hno b c h2 h3⟩))
inductive rR (h:History) (x:Exec) (level:Int):(Int×Int×Int)×Bool×Int→Prop
 | no:¬ (dZ h∧oM h x∧1≤level∧level≤8)→rR h x level ((0,0,0),false,1)
 | brk {b:(Int×Int×Int)×Bool}:dZ h→oM h x→1≤level→level≤8→Brk h x level b→(b.2=true∨level≠8)→rR h x level (b.1,b.2,0)
 | late {b c:(Int×Int×Int)×Bool}:dZ h→oM h x→level=8→Brk h x 8 b→b.2=false→Lat h x c→rR h x level (c.1,c.2,0)
theorem zT (hs:nZ h) (hl:x.Order.length < 2 ^ 50) (hpl:x.Picks.length < 2 ^ 50) (level:Int):Tri (bG h x level) (rR h x level):=by
 unfold bG gU;refine bH (zQ hs hl hpl) (fun r hr => ?_);rcases hr with ⟨h1,h2⟩ | ⟨h0,hS,hc,hf,hw⟩
 ·have hno:rR h x level ((0,0,0),false,1) := .no (fun h3=>h2 ⟨h3.1,h3.2.1⟩);refine aj (fun _ => ?_) (fun h3=>absurd (by omega) h3);exact aj (fun _=>af hno) (fun h=>absurd trivial h)
 refine aj (fun h=>absurd h0 h) (fun _ => ?_);refine aj (fun h1 => ?_) (fun h1 => ?_)
 ·exact aj (fun _=>af (.no (fun h3=>by omega))) (fun h=>absurd trivial h)
 refine aj (fun h2=>af (.no (fun h3=>by omega))) (fun h2 => ?_);refine bH (zS hS hf hw level) (fun b hb => ?_);unfold kU kT;refine aj (fun h3 => ?_) (fun h3 => ?_)
 ·refine aj (fun h4 => ?_) (fun h4 => ?_)
  ·subst h4;exact bH (CV hS hf hw) (fun c hc=>af (.late hS hf rfl hb (by simpa using h3) hc))
  ·exact af (.brk hS hf (by omega) (by omega) hb (.inr h4))
 ·exact aj (fun h=>absurd h (by simp)) (fun _=>af (.brk hS hf (by omega) (by omega) hb (.inl (by simpa using h3))))
end
end Go.Proofs.YtmfgddafcgflaaaT
namespace Go.Proofs.YtmfgddafcgflaaaT
open Go Go.Proofs Go.Proofs.YtmfgddafcgflaaaE
set_option linter.unusedVariables false
set_option linter.unusedSimpArgs false
section
variable {h:History} {x:Exec}
def DT (h:History) (x:Exec) (level:Int):Prop:=∀ i u,i < (fQ h).length → ¬ rQ h x level i u
def DU (h:History) (x:Exec):Prop:=∀ b c,b < h.Txns.length→c < h.Txns.length → ¬ tF h x b c
def AY (h:History) (x:Exec) (level:Int):Prop:=DT h x level∧(level=8→DU h x)
theorem xx (hs:nZ h) (hl:x.Order.length < 2 ^ 50) (hpl:x.Picks.length < 2 ^ 50) (level:Int) :
  Tri (jO h x level) (fun r=>(r=(false,1) ∧ ¬ (dZ h∧oM h x∧1≤level∧level≤8))∨(r.2=0∧(dZ h∧oM h x∧1≤level∧level≤8)∧(r.1=true↔AY h x level))):=by
 unfold jO;refine bH (zT hs hl hpl level) (fun r hr => ?_);have fin:∀ b:(Int×Int×Int)×Bool,dZ h∧oM h x∧1≤level∧level≤8→(b.2=false↔AY h x level) →
   Tri (bif ((b.1,b.2,(0:Int)).2.2 == 0) then some (!(b.1,b.2,(0:Int)).2.1,(b.1,b.2,(0:Int)).2.2) else (some (false,(b.1,b.2,(0:Int)).2.2)))
    (fun r=>(r=(false,1) ∧ ¬ (dZ h∧oM h x∧1≤level∧level≤8))∨(r.2=0∧(dZ h∧oM h x∧1≤level∧level≤8)∧(r.1=true↔AY h x level))):=fun b h1 h2=>by
  refine aj (fun _=>af (.inr ⟨rfl,h1,?_⟩)) (fun h=>absurd rfl h)
  dsimp only
  rw [Bool.not_eq_true',h2]
 cases hr with
 | no h1=>exact aj (fun h=>absurd h (by decide)) (fun _=>af (.inl ⟨rfl,h1⟩))
 | @brk b hS hf l1 l8 hb h8 =>
  refine fin b ⟨hS,hf,l1,l8⟩ ?_;rcases hb with ⟨rfl,hno⟩ | ⟨i,k,u,hi,_,_,_,hbad,_,rfl⟩
  ·exact ⟨fun _=>⟨hno,fun e=>by rcases h8 with h8 | h8; cases h8; exact absurd e h8⟩,fun _=>rfl⟩
  ·exact ⟨fun e=>(nomatch e),fun hh=>absurd hbad (hh.1 i u hi)⟩
 | @late b c hS hf e hb a3 hc =>
  subst e;refine fin c ⟨hS,hf,by decide,by decide⟩ ?_
  have hno:DT h x 8:=by
   rcases hb with ⟨_,hno⟩ | ⟨i,k,u,_,_,_,_,_,_,rfl⟩
   ·exact hno
   ·cases a3
  rcases hc with ⟨rfl,hn⟩ | ⟨b1,c1,a2,a1,hlt,_,_,rfl⟩
  ·exact ⟨fun _=>⟨hno,fun _=>hn⟩,fun _=>rfl⟩
  ·exact ⟨fun e=>(nomatch e),fun hh=>absurd hlt (hh.2 rfl b1 c1 a2 a1)⟩
end
end Go.Proofs.YtmfgddafcgflaaaT
namespace Go.Proofs.YtmfgddafcgflaaaT
open Go Go.Proofs Go.Proofs.YtmfgddafcgflaaaE
set_option linter.unusedVariables false
set_option linter.unusedSimpArgs false
section
variable {h:History} {x:Exec}
abbrev WrK (h:History) (i:Nat) (u:Nat):Prop:=0 < (jG h (u:Int) (lZ h i).Key).length
theorem FJ (hS:dZ h) {i:Nat} (hi:i < (fQ h).length):0≤(lZ h i).Key∧(lZ h i).Key < (h.Keys.length:Int):=by
 obtain ⟨t,p,hk⟩:=DF hS (uG hi);have e3:(lZ h i).Key=(opAt h (t:Int) (p:Int)).Key:=hk.e3
 rw [e3]
 exact (hS.txn t hk.tl).2.1 p hk.pl
theorem Hw (hS:dZ h) {i u:Nat} (hi:i < (fQ h).length):Wr h x.Order (lZ h i).Key u↔(u:Int) ∈ x.Order∧WrK h i u:=by
 have hk:=FJ hS hi;exact ⟨fun h1=>h1.2.2,fun h1=>⟨hk.1,hk.2,h1⟩⟩
def DV (h:History) (x:Exec) (i k:Nat) (r:Int):Prop :=
 (r = -1∧∀ u:Nat,pos x.Order (u:Int) < k → ¬ WrK h i u)∨∃ u:Nat,r=(u:Int)∧pos x.Order (u:Int) < k∧WrK h i u∧∀ v:Nat,pos x.Order (u:Int) < pos x.Order (v:Int)→pos x.Order (v:Int) < k → ¬ WrK h i v
theorem DW (hS:dZ h) (hf:oM h x) {i:Nat} (hi:i < (fQ h).length) {r:Int} (hr:DV h x i (pos x.Order (jS h i:Int)) r):r=idx x.Picks (i:Int)↔∀ u,¬ rQ h x 7 i u:=by
 obtain ⟨et,htl,hto⟩:=uI hf hi;have hb:∀ u,rQ h x 7 i u↔pos x.Order (u:Int) < pos x.Order (jS h i:Int)∧WrK h i u ∧ ¬ (0≤idx x.Picks (i:Int)∧((u:Int)=idx x.Picks (i:Int)∨wI x (idx x.Picks (i:Int)).toNat u)):=fun u=>by
  unfold rQ
  rw [Hw hS hi]
  have hse:BV h x 7 i u↔wI x (jS h i) u:=Iff.rfl
  rw [hse]
  constructor
  ·rintro ⟨h1,h2,h3,h4⟩; exact ⟨h1.2,h2.2,h4⟩
  ·rintro ⟨h1,h2,h4⟩;exact ⟨⟨hto,h1⟩,⟨fA.1 (Nat.lt_trans h1 (fA.2 hto)),h2⟩,fun e=>by rw [e] at h1; omega,h4⟩
 constructor
 ·rintro e u hu;obtain ⟨h1,h2,h3⟩:=(hb u).1 hu;rcases hr with ⟨e1,hno⟩ | ⟨v,ev,a1,a2,a3⟩
  ·exact hno u h1 h2
  ·refine h3 ⟨by omega,?_⟩
   rw [← e,ev]
   by_cases huv:u=v
   ·exact .inl (by rw [huv])
   ·right
    refine ⟨?_,?_⟩
    ·exact fA.1 (Nat.lt_trans a1 (fA.2 hto))
    ·rw [Int.toNat_natCast]
     rcases Nat.lt_trichotomy (pos x.Order (u:Int)) (pos x.Order (v:Int)) with h5 | h5 | h5
     ·exact h5
     ·have:=qH (Nat.lt_trans a1 (fA.2 hto)) h5;have h6:=mK (fA.1 (Nat.lt_trans a1 (fA.2 hto)))
      omega
     ·exact absurd h2 (a3 u h5 h1)
 ·intro hno;rcases yT hf hi with hp | ⟨b,eb,hbl,hbb,hbw,hbo⟩
  ·rcases hr with ⟨e1,_⟩ | ⟨v,ev,a1,a2,a3⟩
   ·rw [e1,hp]
   ·exact absurd ((hb v).2 ⟨a1,a2,fun h3=>by omega⟩) (hno v)
  ·rcases hr with ⟨e1,hn⟩ | ⟨v,ev,a1,a2,a3⟩
   ·exact absurd hbw (hn b hbb.2)
   ·have h3:(v:Int)=(b:Int)∨wI x b v:=by
     apply Classical.byContradiction
     intro h4;refine hno v ((hb v).2 ⟨a1,a2,fun h5=>h4 ?_⟩);have h6:=h5.2
     rw [eb,Int.toNat_natCast] at h6
     exact h6
    rw [ev,eb]
    rcases h3 with h3 | h3
    ·exact h3
    ·exact absurd hbw (a3 b h3.2 hbb.2)
theorem CW (hf:oM h x):DU h x↔yQ h x.Order:=by
 have ho:=hf.ord
 constructor
 ·intro hn i j hij hj hst hlt;obtain ⟨b,eb,hbl,hbp⟩:=vJ ho hj;obtain ⟨c,ec,hcl,hcp⟩:=vJ ho (by omega:i < x.Order.length)
  rw [eb] at hst hlt
  rw [ec] at hlt
  exact hn b c hbl hcl ⟨hst,hlt,eb ▸ mJ hj,by omega⟩
 ·rintro hr b c hb hc ⟨h1,h2,h3,h4⟩;have hcm:(c:Int) ∈ x.Order:=fA.1 (Nat.lt_trans h4 (fA.2 h3));refine hr _ _ h4 (fA.2 h3) ?_ ?_
  ·rw [mK h3]; exact h1
  ·rw [mK h3,mK hcm]; exact h2
theorem xY (h:History) (x:Exec) {K:ByteArray→Prop} (g:HG K h) (gx:XG x):au h x=some true:=by
 have hs:=g.small;have g1:=gx.1.2;have g2:=gx.2.2;refine kC.1 ?_;unfold au
 rw [qx]
 refine bF ?_
 rw [Bool.not_true,cond_false]
 refine bH (DN hs (x:=x) (by omega) (by omega)) (fun r hr => ?_);rcases hr with ⟨rfl,hc⟩ | ⟨r0,hS,hc,hw⟩
 ·have hA:dX h=some ([],1):=by unfold dX gT; rw [hc]; rfl
  refine dG hA ?_;refine aj (fun _ => ?_) (fun h=>absurd (by decide) h);unfold cO;exact aj (fun _=>aj (fun _=>af rfl) (fun h=>absurd (by decide) h)) (fun h=>absurd trivial h)
 have hA:dX h=some (fQ h,0):=by unfold dX; rw [uF hs hS hc]; rfl
 refine dG hA ?_;refine aj (fun h=>absurd r0 h) (fun _ => ?_);unfold cO;refine aj (fun h1 => ?_) (fun h1 => ?_)
 ·refine aj (fun _ => ?_) (fun h=>absurd trivial h);refine aj (fun h=>absurd r0 h) (fun _=>af ?_)
  rw [bne_iff_ne]; exact h1
 have hf:=(yR hw).1 (Classical.byContradiction h1);have a6:=hS.len;have ho:=hf.ord;have hol:=ho.len;have hpl:=hf.lA;have n1:=AX hS;refine aj (fun h=>absurd rfl h) (fun _ => ?_);refine aj (fun h2=>absurd (show ((fQ h).length:Int)=(x.Picks.length:Int) by omega) (by exact h2)) (fun _ => ?_);refine df (k0:=0) (fQ h).length (fun i s=>s.2=(i:Int)∧(s.1=true↔∀ j,j < i→∀ u,¬ rQ h x 7 j u)) (Nat.zero_le _) ⟨rfl,fun _ j hj=>absurd hj (Nat.not_lt_zero _),fun _=>rfl⟩ ?_;rintro i ⟨b,z⟩ hi ⟨e,hb⟩
 dsimp only at e hb
 subst e;have hwi:w64 ((i:Int) + 1)=((i + 1:Nat):Int):=bq (by omega);unfold iE
 dsimp only
 refine aj (fun h3 => ?_) (fun h3 => ?_)
 ·have a2:i < (fQ h).length:=by omega
  obtain ⟨et,htl,hto⟩:=uI hf a2;have et':(idx (fQ h) (i:Int)).Txn=(jS h i:Int):=et;have htp:=fA.2 hto;refine df (k0:=0) (pos x.Order (jS h i:Int)) (fun k s=>s.2=(k:Int)∧DV h x i k s.1) (Nat.zero_le _) ⟨rfl,by exact .inl ⟨rfl,fun u hu=>absurd hu (Nat.not_lt_zero _)⟩⟩ ?_
  rintro k ⟨p,z⟩ hk ⟨e,hL⟩
  dsimp only at e hL
  subst e;have hwk:w64 ((k:Int) + 1)=((k + 1:Nat):Int):=bq (by omega);unfold iD fe eZ eY
  dsimp only
  rw [hwk,hwi,et']
  refine aj (fun h4 => ?_) (fun h4=>absurd (by omega) h4);have a1:k < x.Order.length:=by omega
  obtain ⟨n,en,hnl,hnp⟩:=vJ ho a1
  rw [en]
  refine ah (by omega) (ah (by omega) ?_);refine aj (fun h5 => ?_) (fun h5 => ?_)
  ·have a3:k < pos x.Order (jS h i:Int):=by
    have:k≠pos x.Order (jS h i:Int):=fun e=>by
     have h6:(n:Int)=(jS h i:Int):=by rw [← en,e,mK hto]
     exact absurd h6 (by simpa using h5)
    omega
   refine ah (by omega) (ah (by omega) ?_);refine dG (xn hS hc) ?_
   rw [if_pos ⟨by omega,by omega⟩]
   dsimp only
   refine aj (fun h6 => ?_) (fun h6 => ?_)
   ·refine af ⟨a3,rfl,.inr ⟨n,rfl,by omega,h6,fun v h7 h8=>by omega⟩⟩
   ·refine af ⟨a3,rfl,?_⟩;rcases hL with ⟨e1,hno⟩ | ⟨v,ev,v1,v2,v3⟩
    ·refine .inl ⟨e1,fun u hu => ?_⟩
     by_cases e2:pos x.Order (u:Int)=k
     ·have:=qH a1 e2;have:u=n:=by omega
      exact this ▸ h6
     ·exact hno u (by omega)
    ·refine .inr ⟨v,ev,by omega,v2,fun u h7 h8 => ?_⟩
     by_cases e2:pos x.Order (u:Int)=k
     ·have:=qH a1 e2;have:u=n:=by omega
      exact this ▸ h6
     ·exact v3 u h7 (by omega)
  ·have hkt:k=pos x.Order (jS h i:Int):=by
    have h6:(n:Int)=(jS h i:Int):=by simpa using h5
    rw [← hnp,h6]
   subst hkt;have hli:=DW hS hf a2 hL;have nx:∀ b2:Bool,(b2=true↔∀ j,j < i + 1→∀ u,¬ rQ h x 7 j u)→Upm (fQ h).length i (fun i s=>s.2=(i:Int)∧(s.1=true↔∀ j,j < i→∀ u,¬ rQ h x 7 j u)) (fun b:Bool=>b=true) (.inl (b2,((i + 1:Nat):Int))):=fun b2 a4=>⟨a2,rfl,a4⟩;refine aj (fun h7 => ?_) (fun h7 => ?_)
   ·refine ah (by omega) (aA (af (nx _ ?_)))
    rw [beq_iff_eq,hli]
    constructor
    ·intro h8 j hj
     by_cases e2:j=i
     ·rw [e2]; exact h8
     ·exact hb.1 h7 j (by omega)
    ·exact fun h8=>h8 i (by omega)
   ·refine aA (af (nx _ ⟨fun h=>(nomatch h),fun h8=>absurd (hb.2 (fun j hj=>h8 j (by omega))) h7⟩))
 ·have:i=(fQ h).length:=by omega
  subst this;have hno:b=true↔DT h x 7:=hb.trans ⟨fun h4 i u hi=>h4 i hi u,fun h4 i hi u=>h4 i u hi⟩;refine bH (xx hs (x:=x) (by omega) (by omega) 7) (fun a ha => ?_);refine bH (xx hs (x:=x) (by omega) (by omega) 8) (fun c hcc => ?_);rcases ha with ⟨_,hq⟩ | ⟨a0,_,ha⟩
  ·exact absurd ⟨hS,hf,by omega,by omega⟩ hq
  rcases hcc with ⟨_,hq⟩ | ⟨c0,_,hcc⟩
  ·exact absurd ⟨hS,hf,by omega,by omega⟩ hq
  have h7:a.1=b:=by
   rw [Bool.eq_iff_iff,ha,hno]
   exact ⟨fun h4=>h4.1,fun h4=>⟨h4,fun e=>absurd e (by decide)⟩⟩
  refine aj (fun _ => ?_) (fun h=>absurd a0 h);refine aj (fun _ => ?_) (fun h=>absurd c0 h);refine aj (fun _ => ?_) (fun h=>absurd h7 h);have h8:c.1=true↔b=true∧yQ h x.Order:=by
   rw [hcc,hno,← CW hf]
   exact ⟨fun h4=>⟨h4.1,h4.2 rfl⟩,fun h4=>⟨h4.1,fun _=>h4.2⟩⟩
  refine aj (fun h9 => ?_) (fun h9 => ?_)
  ·refine bH (CP hS hc (l:=x.Order) (by omega)) (fun q hq=>aA (af ?_))
   show (c.1 == q)=true
   rw [beq_iff_eq,Bool.eq_iff_iff,h8,hq]
   exact ⟨fun h4=>⟨ho,h4.2⟩,fun h4=>⟨h9,h4.2⟩⟩
  ·refine aA (af ?_)
   show (c.1 == false)=true
   rw [beq_iff_eq]
   cases a5:c.1 with
   | false=>rfl
   | true=>exact absurd (h8.1 a5).1 h9
end
end Go.Proofs.YtmfgddafcgflaaaT
