import Derived.Test.YtnlkggppokcmfaaTPXD
namespace Go.Proofs.YtnlkggppokcmfaaT
open Go Go.Proofs Go.Proofs.YtnlkggppokcmfaaE
set_option linter.unusedVariables false
set_option linter.unusedSimpArgs false
def Stp (O:List Int) (W:Int→List Int) (rest l:List Int):Option (Option Int)→Prop
 | none=>rest.length=0
 | some none=>0 < rest.length∧∀ t ∈ O,W t <+: rest→t ∈ l
 | some (some t)=>0 < rest.length∧t ∈ O∧W t <+: rest∧t ∉ l
section
variable {O:List Int} {W:Int→List Int} {rest l:List Int}
theorem Stp.det (hP:Parts O W) {x y:Option (Option Int)} (hx:Stp O W rest l x) (hy:Stp O W rest l y):x=y:=by
 match x,y,hx,hy with
 | none,none,_,_=>rfl
 | none,some none,h1,h2=>exact absurd (show rest.length=0 from h1) (by have:0 < rest.length:=h2.1; omega)
 | none,some (some t),h1,h2=>exact absurd (show rest.length=0 from h1) (by have:0 < rest.length:=h2.1; omega)
 | some none,none,h1,h2=>exact absurd (show rest.length=0 from h2) (by have:0 < rest.length:=h1.1; omega)
 | some (some t),none,h1,h2=>exact absurd (show rest.length=0 from h2) (by have:0 < rest.length:=h1.1; omega)
 | some none,some none,_,_=>rfl
 | some none,some (some t),h1,h2=>exact absurd (h1.2 t h2.2.1 h2.2.2.1) h2.2.2.2
 | some (some t),some none,h1,h2=>exact absurd (h2.2 t h1.2.1 h1.2.2.1) h1.2.2.2
 | some (some t),some (some u),h1,h2 =>
  rw [oH hP h1.2.1 h2.2.1 (mF h1.2.2.1 (hP.ne t h1.2.1)) (mF h2.2.2.1 (hP.ne u h2.2.1))]
def KQ (W:Int→List Int) (rest l:List Int):Option (Option Int)→(List Int×List Int) ⊕ (List Int×Bool)
 | none => .inr (l,true)
 | some none => .inr ([],false)
 | some (some t) => .inl (rest.drop (W t).length,l++[t])
def KR (W:Int→List Int) (rest l:List Int):Option (Option Int)→(List Int×List Int) ⊕ (List Int×Bool)
 | none => .inr (l,true)
 | some none => .inr ([],false)
 | some (some t) => .inl (l++[t],rest.drop (W t).length)
theorem FD (hP:Parts O W) (hr:rest.length≤64) (hl:l.length≤64):Tri (nA (zu O W) (rest,l)) (fun x=>∃ o,Stp O W rest l o∧x=KQ W rest l o):=by
 have hol:=hP.ol;unfold nA
 dsimp only
 refine aj (fun h0 => ?_) (fun h0 => ?_)
 ·have h0:0 < rest.length:=by omega
  refine dO (FC hP h0) (fun y hy => ?_);unfold jM
  rw [sU]
  rcases hy with ⟨j,hj,rfl,hh⟩ | ⟨rfl,hno⟩
  ·have a0:=hP.wl _ (eH hj);refine aj (fun h1=>absurd h1 (by omega)) (fun _ => ?_);refine ag (by omega) ?_
   rw [ww hj]
   dsimp only
   generalize hg:idx O (j:Int)=t at *;have ht:t ∈ O:=hg ▸ eH hj;refine aj (fun h2 => ?_) (fun h2 => ?_)
   ·refine av (af ⟨some none,⟨h0,fun u hu hp => ?_⟩,rfl⟩);have:=oH hP hu ht (mF hp (hP.ne u hu)) hh;subst this;have:=hp.length_le
    omega
   ·have h2:(W t).length≤rest.length:=by omega
    refine ag (by omega) ?_;refine bU (uf (by omega)) ?_
    rw [jZ h2]
    refine aj (fun h3 => ?_) (fun h3 => ?_)
    ·refine av (af ⟨some none,⟨h0,fun u hu hp => ?_⟩,rfl⟩);have:=oH hP hu ht (mF hp (hP.ne u hu)) hh;subst this;have:=List.prefix_iff_eq_take.1 hp;exact absurd this (by simpa using h3)
    ·have h3:W t=rest.take (W t).length:=by simpa using h3
     refine bU (FB (by omega)) ?_;refine aj (fun h4 => ?_) (fun h4 => ?_)
     ·refine av (af ⟨some none,⟨h0,fun u hu hp => ?_⟩,rfl⟩);have:=oH hP hu ht (mF hp (hP.ne u hu)) hh;subst this;exact h4
     ·refine ag (by omega) (ag (by omega) (ag (by omega) ?_))
      rw [yD]
      exact af ⟨some (some t),⟨h0,ht,List.prefix_iff_eq_take.2 h3,h4⟩,rfl⟩
  ·refine aj (fun h1 => ?_) (fun h1=>absurd h1 (by omega));exact av (af ⟨some none,⟨h0,fun u hu hp=>absurd (mF hp (hP.ne u hu)) (hno u hu)⟩,rfl⟩)
 ·exact av (af ⟨none,by show rest.length=0; omega,rfl⟩)
theorem GD {h:History} {a:Ask} (hP:Parts O W) (hW:∀ t ∈ O,aM h t a.Key=some (W t)) (hr:rest.length≤64) (hl:l.length≤64) :
  Tri (jH h a O (l,rest)) (fun x=>∃ o,Stp O W rest l o∧x=KR W rest l o):=by
 have hol:=hP.ol;unfold jH
 dsimp only
 refine aj (fun h0 => ?_) (fun h0 => ?_)
 ·have h0:0 < rest.length:=by omega
  refine df (k0:=0) O.length (fun k s=>s.2=(k:Int)∧((s.1 = -1∧∀ j:Nat,j < k → ¬ W (idx O (j:Int)) <+: rest)∨(s.1 ∈ O∧W s.1 <+: rest))) (Nat.zero_le _) ⟨rfl,.inl ⟨rfl,fun j h=>absurd h (Nat.not_lt_zero _)⟩⟩ ?_;rintro k ⟨x,y⟩ hk ⟨e,hx⟩
  dsimp only at e hx
  subst e;have hw:w64 ((k:Int) + 1)=((k + 1:Nat):Int):=aS (by omega);unfold qc mi
  dsimp only
  rw [hw]
  refine aj (fun a4 => ?_) (fun a4 => ?_)
  ·have a0:k < O.length:=by omega
   refine ag (by omega) ?_;refine bU (hW _ (eH a0)) ?_;refine bU (CV (by omega)) ?_;refine aj (fun h1 => ?_) (fun h1 => ?_)
   ·exact af ⟨a0,rfl,.inr ⟨eH a0,h1⟩⟩
   ·refine af ⟨a0,rfl,?_⟩;rcases hx with ⟨e,hx⟩ | hx
    ·refine .inl ⟨e,fun j hj => ?_⟩;rcases Nat.lt_or_ge j k with h2 | h2
     ·exact hx j h2
     ·have:j=k:=by omega
      subst this;exact h1
    ·exact .inr hx
  ·have:k=O.length:=by omega
   subst this;rcases hx with ⟨rfl,hx⟩ | ⟨hx,hp⟩
   ·refine aj (fun _ => ?_) (fun h1=>absurd h1 (by omega));refine av (av (af ⟨some none,⟨h0,fun t ht hp => ?_⟩,rfl⟩));obtain ⟨j,hj,rfl⟩:=oU ht;exact absurd hp (hx j hj)
   ·have h2:=hP.pos x hx;have h3:=hp.length_le;refine aj (fun h1=>absurd h1 (by omega)) (fun _ => ?_);refine df (k0:=0) l.length (fun k s=>s=(k:Int)∧∀ j:Nat,j < k→idx l (j:Int)≠x) (Nat.zero_le _) ⟨rfl,fun j h=>absurd h (Nat.not_lt_zero _)⟩ ?_;rintro m s hm ⟨rfl,hno⟩;have a2:w64 ((m:Int) + 1)=((m + 1:Nat):Int):=aS (by omega);unfold qb
    dsimp only
    rw [a2]
    refine aj (fun a3 => ?_) (fun a3 => ?_)
    ·have a1:m < l.length:=by omega
     refine ag (by omega) ?_;refine aj (fun h4 => ?_) (fun h4 => ?_)
     ·refine av (av (av (af ⟨some none,⟨h0,fun u hu hq => ?_⟩,rfl⟩)))
      rw [oH hP hu hx (mF hq (hP.ne u hu)) (mF hp (hP.ne x hx)),← h4]
      exact eH a1
     ·refine af ⟨a1,rfl,fun j hj => ?_⟩;rcases Nat.lt_or_ge j m with h5 | h5
      ·exact hno j h5
      ·have:j=m:=by omega
       subst this;exact h4
    ·have:m=l.length:=by omega
     subst this;refine ag (by omega) ?_;refine bU (hW x hx) ?_;refine ag (by omega) ?_
     rw [yD]
     refine av (av (af ⟨some (some x),⟨h0,hx,hp,fun hmem => ?_⟩,rfl⟩));obtain ⟨j,hj,e⟩:=oU hmem;exact hno j hj e
 ·exact av (af ⟨none,by show rest.length=0; omega,rfl⟩)
end
end Go.Proofs.YtnlkggppokcmfaaT
namespace Go.Proofs.YtnlkggppokcmfaaT
open Go Go.Proofs Go.Proofs.YtnlkggppokcmfaaE
set_option linter.unusedVariables false
set_option linter.unusedSimpArgs false
def yY (O:List Int) (W:Int→List Int) (base m:List Int):Prop:=(∀ t ∈ m,t ∈ O)∧m.Nodup∧base=m.flatMap W
def Af (O:List Int) (W:Int→List Int) (base:List Int) (r:List Int×Bool):Prop:=(r.2=true∧yY O W base r.1)∨(r=([],false)∧∀ m,¬ yY O W base m)
section
variable {O:List Int} {W:Int→List Int} {rest l:List Int}
theorem FE (hP:Parts O W) {m:List Int} (hm:∀ t ∈ m,t ∈ O) (hr:0 < rest.length) (e:rest=m.flatMap W):∃ u m',m=u::m'∧u ∈ O∧W u <+: rest∧idx (W u) 0=idx rest 0:=by
 cases m with
 | nil=>rw [e] at hr; simp at hr
 | cons u m' =>
  have hu:=hm u (by simp);have hp:W u <+: rest:=⟨m'.flatMap W,by rw [e,List.flatMap_cons]⟩
  exact ⟨u,m',rfl,hu,hp,mF hp (hP.ne u hu)⟩
theorem FH (hP:Parts O W) {h:History} {a:Ask} (hW:∀ t ∈ O,aM h t a.Key=some (W t)) (ho:aQ h a=some O) (hb:a.Base.length≤64) :
  ∃ r,dR a.Base (zu O W)=some r∧bK h a=some r∧Af O W a.Base r:=by
 have key:Tri (dR a.Base (zu O W)) (fun r=>Tri (iter (jH h a O) ([],a.Base)) (fun r'=>r=r'∧Af O W a.Base r)):=by
  unfold dR;refine yM (k0:=0) a.Base.length (fun (k:Nat) (s t:List Int×List Int)=>s.1=t.2∧s.2=t.1∧s.1.length + k≤a.Base.length∧s.2.length≤k∧(∀ t ∈ s.2,t ∈ O)∧s.2.Nodup∧a.Base=s.2.flatMap W++s.1∧∀ m,yY O W a.Base m→∃ m',m=s.2++m')
   (Nat.zero_le _) ⟨rfl,rfl,Nat.le_refl _,Nat.le_refl _,fun t h=>(nomatch h),List.nodup_nil,by simp,fun m _=>⟨m,rfl⟩⟩ ?_
  rintro k ⟨rest,l⟩ ⟨l',rest'⟩ hk ⟨e1,e2,i1,i2,i3,i4,i5,i6⟩
  dsimp only at e1 e2 i1 i2 i3 i4 i5 i6
  subst e1 e2;refine dX (FD hP (by omega) (by omega)) ?_;rintro x ⟨o,hs,rfl⟩;refine dX (GD hP hW (by omega) (by omega)) ?_;rintro y ⟨o',hs',rfl⟩;obtain rfl:=Stp.det hP hs hs';have nxt:∀ m,yY O W a.Base m→0 < rest.length→∃ u m',m=l++u::m'∧u ∈ O∧W u <+: rest∧idx (W u) 0=idx rest 0:=by
   intro m hm hr;obtain ⟨m',rfl⟩:=i6 m hm;obtain ⟨h1,h2,h3⟩:=hm
   rw [i5,List.flatMap_append,List.append_cancel_left_eq] at h3
   obtain ⟨u,m2,rfl,q1,q2,q3⟩:=FE hP (fun t ht=>h1 t (List.mem_append_right _ ht)) hr h3;exact ⟨u,m2,rfl,q1,q2,q3⟩
  match o,hs with
  | none,hs =>
   refine ⟨rfl,.inl ⟨rfl,i3,i4,?_⟩⟩
   rw [i5,List.length_eq_zero_iff.1 (show rest.length=0 from hs),List.append_nil]
  | some none,hs =>
   refine ⟨rfl,.inr ⟨rfl,fun m hm => ?_⟩⟩;obtain ⟨u,m',rfl,q1,q2,q3⟩:=nxt m hm hs.1;have:=(List.nodup_append.1 hm.2.1).2.2;exact this u (hs.2 u q1 q2) u (by simp) rfl
  | some (some t),⟨s1,s2,s3,s4⟩ =>
   have h1:=hP.ne t s2;have h2:=s3.length_le;refine ⟨by omega,rfl,rfl,by rw [List.length_drop]; omega,by rw [List.length_append,List.length_singleton]; omega,fun u hu => ?_,?_,?_,fun m hm => ?_⟩
   ·rcases List.mem_append.1 hu with hu | hu
    ·exact i3 u hu
    ·rw [List.mem_singleton.1 hu]; exact s2
   ·rw [List.nodup_append]
    refine ⟨i4,List.nodup_cons.2 ⟨by simp,List.nodup_nil⟩,fun u hu v hv => ?_⟩
    rw [List.mem_singleton.1 hv]
    intro e;exact s4 (e ▸ hu)
   ·dsimp only
    rw [List.flatMap_append,List.append_assoc,i5]
    congr 1
    rw [List.flatMap_cons,List.flatMap_nil,List.append_nil]
    obtain ⟨z,hz⟩:=s3
    rw [← hz,List.drop_left]
   ·obtain ⟨u,m',rfl,q1,q2,q3⟩:=nxt m hm s1;have:=oH hP q1 s2 q3 (mF s3 h1);subst this;exact ⟨m',by simp⟩
 obtain ⟨r,hr,r',hr',rfl,ht⟩:=key;refine ⟨r,hr,?_,ht⟩;unfold bK
 rw [ho]
 exact hr'
end
end Go.Proofs.YtnlkggppokcmfaaT
namespace Go.Proofs.YtnlkggppokcmfaaT
open Go Go.Proofs Go.Proofs.YtnlkggppokcmfaaE
set_option linter.unusedVariables false
set_option linter.unusedSimpArgs false
theorem qj {l:List Int}:∀ {m:List Int},l.Nodup→(∀ x ∈ l,x ∈ m)→l.length≤m.length:=by
 induction l with
 | nil=>intro m _ _; simp
 | cons x l ih =>
  intro m hn hs;obtain ⟨h1,h2⟩:=List.nodup_cons.1 hn;have hx:=hs x (by simp);have:=ih (m:=m.erase x) h2 (fun y hy=>(List.mem_erase_of_ne (fun (e:y=x)=>h1 (e ▸ hy))).2 (hs y (by simp [hy])))
  rw [List.length_erase_of_mem hx] at this
  have:0 < m.length:=List.length_pos_of_mem hx
  simp
  omega
def keysOf (m:List (Int×Unit)):List Int:=m.map (·.1)
theorem Bp {m:List (Int×Unit)} {x:Int}:jr m x=true↔x ∈ keysOf m:=by
 unfold jr keysOf
 simp [List.any_eq_true]
theorem yE {x:Int}:∀ {m:List (Int×Unit)},keysOf (zB m x)=(keysOf m).erase x
 | []=>rfl
 | p::m=>by
  unfold zB keysOf
  rw [List.map_cons,List.erase_cons]
  by_cases e:p.1=x
  ·simp [e]
  ·rw [if_neg e,if_neg (by simpa using e),List.map_cons]
   congr 1
   exact yE
theorem Bq {x:Int}:∀ {m:List (Int×Unit)},x ∉ keysOf m→keysOf (fM m x ())=keysOf m++[x]
 | [],_=>rfl
 | p::m,h=>by
  have h1:¬ p.1=x:=fun e=>h (by simp [keysOf,e]);have h2:x ∉ keysOf m:=fun h'=>h (by simp only [keysOf,List.map_cons,List.mem_cons]; exact .inr h');unfold fM
  rw [if_neg h1]
  show p.1::keysOf (fM m x ())=p.1::keysOf m++[x]
  rw [Bq h2]
  rfl
def cnt (base w:List Int):Nat:=(w.filter (fun v=>decide (v ∈ base))).length
theorem Ag {base w:List Int}:cnt base w≤w.length:=List.length_filter_le _ _
theorem CX {base w:List Int} {i:Nat} (hi:i < w.length):cnt base (w.take (i + 1))=if idx w (i:Int) ∈ base then cnt base (w.take i) + 1 else cnt base (w.take i):=by
 unfold cnt
 rw [List.take_succ_eq_append_getElem hi,List.filter_append,List.length_append,(bR (n:=i) rfl hi:idx w (i:Int)=w[i])]
 by_cases h:w[i] ∈ base <;> simp [h]
def Whole (O:List Int) (W:Int→List Int) (base:List Int):Prop:=(∀ t ∈ O,cnt base (W t)=0∨cnt base (W t)=(W t).length)∧∀ v ∈ base,∃ t ∈ O,v ∈ W t
def rT (O:List Int) (W:Int→List Int) (base:List Int):List Int:=O.filter (fun t=>decide (0 < cnt base (W t)))
def nM (O:List Int) (W:Int→List Int) (base:List Int) (r:List Int×Bool):Prop:=(r=(rT O W base,true)∧Whole O W base)∨(r=([],false) ∧ ¬ Whole O W base)
theorem nM.det {O:List Int} {W:Int→List Int} {base:List Int} {r s:List Int×Bool} (h1:nM O W base r) (h2:nM O W base s):r=s:=by
 rcases h1 with ⟨rfl,h1⟩ | ⟨rfl,h1⟩ <;> rcases h2 with ⟨rfl,h2⟩ | ⟨rfl,h2⟩
 ·rfl
 ·exact absurd h1 h2
 ·exact absurd h2 h1
 ·rfl
section
variable {O:List Int} {W:Int→List Int} {base:List Int}
theorem Ah {k:Nat} (hk:k < O.length):rT (O.take (k + 1)) W base=if 0 < cnt base (W (idx O (k:Int))) then rT (O.take k) W base++[idx O (k:Int)] else rT (O.take k) W base:=by
 unfold rT
 rw [List.take_succ_eq_append_getElem hk,List.filter_append,(bR (n:=k) rfl hk:idx O (k:Int)=O[k])]
 by_cases h:0 < cnt base (W O[k]) <;> simp [h]
theorem Br {k:Nat}:(rT (O.take k) W base).length≤O.length:=Nat.le_trans (List.length_filter_le _ _) (by rw [List.length_take]; omega)
theorem Cb {i j:Nat} (hn:O.Nodup) (hi:i < O.length) (hj:j < O.length) (e:idx O (i:Int)=idx O (j:Int)):i=j:=by
 rw [bR (n:=i) rfl hi,bR (n:=j) rfl hj] at e
 have hp:=List.pairwise_iff_getElem.1 hn;rcases Nat.lt_trichotomy i j with h | h | h
 ·exact absurd e (hp i j hi hj h)
 ·exact h
 ·exact absurd e.symm (hp j i hj hi h)
theorem GG (hP:Parts O W) (hO:O.Nodup) (hb:base.length≤64) (hn:base.Nodup):Tri (bF base (zu O W)) (nM O W base):=by
 have hol:=hP.ol;unfold bF;refine df (k0:=0) base.length (fun k s=>s.2=(k:Int)∧keysOf s.1=base.take k) (Nat.zero_le _) ⟨rfl,rfl⟩ ?_;rintro k ⟨m,x⟩ hk ⟨e,hm⟩
 dsimp only at e hm
 subst e;have hw:w64 ((k:Int) + 1)=((k + 1:Nat):Int):=aS (by omega);unfold sD
 dsimp only
 rw [hw]
 refine aj (fun a2 => ?_) (fun a2 => ?_)
 ·have a0:k < base.length:=by omega
  refine ag (by omega) (af ⟨a0,rfl,?_⟩);have hni:idx base (k:Int) ∉ keysOf m:=by
   rw [hm]
   intro h;obtain ⟨i,hi,e⟩:=List.mem_take_iff_getElem.1 h;have:=Cb (i:=i) (j:=k) hn (by omega) a0 ((bR rfl (by omega)).trans e)
   omega
  dsimp only
  rw [Bq hni,hm,List.take_succ_eq_append_getElem a0,(bR (n:=k) rfl a0:idx base (k:Int)=base[k])]
 ·have:k=base.length:=by omega
  subst this
  rw [List.take_length] at hm
  refine df (k0:=0) O.length (fun k s=>s.1=rT (O.take k) W base∧(keysOf s.2.1).Nodup∧(∀ v,v ∈ keysOf s.2.1↔v ∈ base∧∀ j:Nat,j < k→v ∉ W (idx O (j:Int)))∧s.2.2=(k:Int)∧∀ j:Nat,j < k→cnt base (W (idx O (j:Int)))=0∨cnt base (W (idx O (j:Int)))=(W (idx O (j:Int))).length)
   (Nat.zero_le _) ⟨by simp [rT],by rw [hm]; exact hn,fun v=>by rw [hm]; exact ⟨fun h=>⟨h,fun j h=>absurd h (Nat.not_lt_zero _)⟩,fun h=>h.1⟩,rfl,fun j h=>absurd h (Nat.not_lt_zero _)⟩ ?_
  rintro k ⟨l,m,x⟩ hk ⟨e1,e2,e3,e4,e5⟩
  dsimp only at e1 e2 e3 e4 e5
  subst e1 e4;have hw:w64 ((k:Int) + 1)=((k + 1:Nat):Int):=aS (by omega);have hsl:=Br (O:=O) (W:=W) (base:=base) (k:=k);unfold sw
  dsimp only
  rw [sU]
  refine aj (fun a2 => ?_) (fun a2 => ?_)
  ·have a0:k < O.length:=by omega
   refine ag (by omega) ?_;have ht:=eH a0;have hss:=Ah (W:=W) (base:=base) a0;generalize hg:idx O (k:Int)=t at ht hss;have hwl:=hP.wl t ht;have hwn:=hP.nd t ht;refine df (k0:=0) (W t).length (fun i s=>(keysOf s.1).Nodup∧(∀ v,v ∈ keysOf s.1↔(v ∈ base∧∀ j:Nat,j < k→v ∉ W (idx O (j:Int)))∧v ∉ (W t).take i)∧s.2.1=(cnt base ((W t).take i):Int)∧s.2.2=(i:Int))
    (Nat.zero_le _) ⟨e2,fun v=>⟨fun h=>⟨(e3 v).1 h,by simp⟩,fun h=>(e3 v).2 h.1⟩,by simp [cnt],rfl⟩ ?_
   rintro i ⟨m2,c,x⟩ hi ⟨f1,f2,f3,f4⟩
   dsimp only at f1 f2 f3 f4
   subst f3 f4;have hcl:cnt base ((W t).take i)≤i:=Nat.le_trans Ag (by rw [List.length_take]; omega);have a8:w64 ((i:Int) + 1)=((i + 1:Nat):Int):=aS (by omega);have a4:w64 ((cnt base ((W t).take i):Int) + 1)=((cnt base ((W t).take i) + 1:Nat):Int):=aS (by omega);unfold su oP oQ oO
   dsimp only
   rw [a8,a4,ww a0,hg]
   dsimp only
   refine aj (fun a6 => ?_) (fun a6 => ?_)
   ·have a1:i < (W t).length:=by omega
    refine ag (by omega) ?_;have hct:=CX (base:=base) a1;have hmem:∀ v,v ∈ (W t).take (i + 1)↔v ∈ (W t).take i∨v=idx (W t) (i:Int):=by
     intro v
     rw [List.take_succ_eq_append_getElem a1,(bR (n:=i) rfl a1:idx (W t) (i:Int)=(W t)[i]),List.mem_append,List.mem_singleton]
    have hni:idx (W t) (i:Int) ∉ (W t).take i:=by
     intro h;obtain ⟨j,hj,e⟩:=List.mem_take_iff_getElem.1 h;have:=Cb (i:=j) (j:=i) hwn (by omega) a1 ((bR rfl (by omega)).trans e)
     omega
    have hout:∀ j:Nat,j < k→idx (W t) (i:Int) ∉ W (idx O (j:Int)):=by
     intro j hj h;have:=hP.ap _ (eH (show j < O.length by omega)) t ht _ h (eH a1)
     rw [← hg] at this
     have:=Cb hO (by omega) a0 this
     omega
    have a3:idx (W t) (i:Int) ∈ keysOf m2↔idx (W t) (i:Int) ∈ base:=by
     rw [f2]
     exact ⟨fun h=>h.1.1,fun h=>⟨⟨h,hout⟩,hni⟩⟩
    cases hmh:jr m2 (idx (W t) (i:Int))
    ·have hnb:idx (W t) (i:Int) ∉ base:=fun h=>by rw [Bp.2 (a3.2 h)] at hmh; cases hmh
     rw [cond_false]
     refine af ⟨a1,f1,fun v => ?_,?_,rfl⟩
     ·dsimp only
      rw [f2,hmem]
      constructor
      ·rintro ⟨h1,h2⟩;refine ⟨h1,?_⟩;rintro (h3 | h3)
       ·exact h2 h3
       ·subst h3;exact hnb h1.1
      ·rintro ⟨h1,h2⟩;exact ⟨h1,fun h=>h2 (.inl h)⟩
     ·dsimp only
      rw [hct,if_neg hnb]
    ·have hib:idx (W t) (i:Int) ∈ base:=a3.1 (Bp.1 hmh)
     rw [cond_true]
     refine af ⟨a1,?_,fun v => ?_,?_,rfl⟩
     ·dsimp only
      rw [yE]
      exact f1.erase _
     ·dsimp only
      rw [yE,List.Nodup.mem_erase_iff f1,f2,hmem]
      constructor
      ·rintro ⟨h1,h2,h3⟩;exact ⟨h2,fun h=>h.elim h3 h1⟩
      ·rintro ⟨h1,h2⟩;exact ⟨fun h=>h2 (.inr h),h1,fun h=>h2 (.inl h)⟩
     ·dsimp only
      rw [hct,if_pos hib]
   ·have:i=(W t).length:=by omega
    subst this
    rw [List.take_length] at f2 ⊢
    have hcw:cnt base (W t)≤(W t).length:=Ag;have fin:∀ (hc:cnt base (W t)=0∨cnt base (W t)=(W t).length) (l':List Int),l'=rT (O.take (k + 1)) W base→Upm O.length k (fun k s=>s.1=rT (O.take k) W base∧(keysOf s.2.1).Nodup∧(∀ v,v ∈ keysOf s.2.1↔v ∈ base∧∀ j:Nat,j < k→v ∉ W (idx O (j:Int)))∧s.2.2=(k:Int)∧∀ j:Nat,j < k→cnt base (W (idx O (j:Int)))=0∨cnt base (W (idx O (j:Int)))=(W (idx O (j:Int))).length) (nM O W base) (.inl (l',m2,((k + 1:Nat):Int))):=by
     intro hc l' hl';refine ⟨a0,hl',f1,fun v => ?_,rfl,fun j hj => ?_⟩
     ·dsimp only
      rw [f2]
      constructor
      ·rintro ⟨⟨h1,h2⟩,h3⟩;refine ⟨h1,fun j hj => ?_⟩;rcases Nat.lt_or_ge j k with h4 | h4
       ·exact h2 j h4
       ·have:j=k:=by omega
        subst this
        rw [hg]; exact h3
      ·rintro ⟨h1,h2⟩;exact ⟨⟨h1,fun j hj=>h2 j (by omega)⟩,by have:=h2 k (by omega); rwa [hg] at this⟩
     ·rcases Nat.lt_or_ge j k with h4 | h4
      ·exact e5 j h4
      ·have:j=k:=by omega
       subst this
       rw [hg]; exact hc
    have bad:¬ (cnt base (W t)=0∨cnt base (W t)=(W t).length)→nM O W base ([],false):=fun hc => .inr ⟨rfl,fun hW=>hc (hW.1 t ht)⟩
    rw [hw]
    refine aj (fun h1 => ?_) (fun h1 => ?_)
    ·refine aj (fun h2 => ?_) (fun h2 => ?_)
     ·exact av (av (av (af (bad (by omega)))))
     ·refine aj (fun h3 => ?_) (fun h3 => ?_)
      ·refine ag (by omega) ?_;refine av (af (fin (by omega) _ ?_))
       rw [hss,if_pos (by omega)]
      ·exact absurd h1 h3
    ·rw [cond_false]
     refine aj (fun h3=>absurd h3 h1) (fun h3 => ?_);refine av (af (fin (by omega) _ ?_))
     rw [hss,if_neg (by omega)]
  ·have:k=O.length:=by omega
   subst this
   rw [List.take_length]
   have hml:0 < m.length↔∃ v,v ∈ keysOf m:=by
    unfold keysOf;cases m with
    | nil=>simp
    | cons p m=>exact ⟨fun _=>⟨p.1,by simp⟩,fun _=>by simp⟩
   have hall:(∀ t ∈ O,cnt base (W t)=0∨cnt base (W t)=(W t).length):=by
    intro t ht;obtain ⟨j,hj,rfl⟩:=oU ht;exact e5 j hj
   refine aj (fun h1 => ?_) (fun h1 => ?_)
   ·refine av (av (af (.inr ⟨rfl,fun hW => ?_⟩)));obtain ⟨v,hv⟩:=hml.1 (by omega);obtain ⟨a7,a5⟩:=(e3 v).1 hv;obtain ⟨t,ht,a9⟩:=hW.2 v a7;obtain ⟨j,hj,rfl⟩:=oU ht;exact a5 j hj a9
   ·refine av (av (af (.inl ⟨rfl,hall,fun v hv => ?_⟩)))
    apply Classical.byContradiction
    intro hno;refine h1 ?_;have:=hml.2 ⟨v,(e3 v).2 ⟨hv,fun j hj h=>hno ⟨_,eH hj,h⟩⟩⟩
    omega
end
end Go.Proofs.YtnlkggppokcmfaaT
namespace Go.Proofs.YtnlkggppokcmfaaT
open Go Go.Proofs Go.Proofs.YtnlkggppokcmfaaE
set_option linter.unusedVariables false
set_option linter.unusedSimpArgs false
theorem Ee {l:List Int} {v:Int} (hl:l.length < 2 ^ 60):gP l v=some (decide (v ∈ l)):=by
 refine eX.1 ?_;unfold gP;refine df (k0:=0) l.length (fun k s=>s=(k:Int)∧∀ j:Nat,j < k→idx l (j:Int)≠v) (Nat.zero_le _) ⟨rfl,fun j h=>absurd h (Nat.not_lt_zero _)⟩ ?_;rintro k s hk ⟨rfl,hno⟩;have hw:w64 ((k:Int) + 1)=((k + 1:Nat):Int):=aS (by omega);unfold pJ
 dsimp only
 rw [hw]
 refine aj (fun a1 => ?_) (fun a1 => ?_)
 ·have a0:k < l.length:=by omega
  refine ag (by omega) ?_;refine aj (fun h1 => ?_) (fun h1 => ?_)
  ·refine av (af ?_)
   show true=decide (v ∈ l)
   rw [eq_comm,decide_eq_true_iff,← h1]
   exact eH a0
  ·refine af ⟨a0,rfl,fun j hj => ?_⟩;rcases Nat.lt_or_ge j k with h2 | h2
   ·exact hno j h2
   ·have:j=k:=by omega
    subst this;exact h1
 ·have:k=l.length:=by omega
  subst this;refine av (af ?_)
  show false=decide (v ∈ l)
  rw [eq_comm,decide_eq_false_iff_not]
  intro h;obtain ⟨j,hj,e⟩:=oU h;exact hno j hj e
section
variable {O:List Int} {W:Int→List Int} {base:List Int}
def hits (O:List Int) (W:Int→List Int) (base:List Int):List Int:=O.flatMap (fun t=>(W t).filter (fun v=>decide (v ∈ base)))
theorem Bt {k:Nat} (hk:k < O.length):(hits (O.take (k + 1)) W base).length=(hits (O.take k) W base).length + cnt base (W (idx O (k:Int))):=by
 unfold hits cnt
 rw [List.take_succ_eq_append_getElem hk,List.flatMap_append,List.length_append,(bR (n:=k) rfl hk:idx O (k:Int)=O[k])]
 simp
theorem Ef (hP:Parts O W):∀ k,k≤O.length→(hits (O.take k) W base).length≤16 * k:=by
 intro k
 induction k with
 | zero=>intro _; simp [hits]
 | succ k ih =>
  intro hk
  rw [Bt (by omega)]
  have:=ih (by omega);have h1:=hP.wl _ (eH (show k < O.length by omega));have h2:cnt base (W (idx O (k:Int)))≤_:=Ag
  omega
theorem Ai {v:Int}:v ∈ hits O W base↔∃ t ∈ O,v ∈ W t∧v ∈ base:=by
 unfold hits
 simp only [List.mem_flatMap,List.mem_filter,decide_eq_true_eq]
theorem Eg (hP:Parts O W) (hO:O.Nodup):(hits O W base).Nodup:=by
 unfold hits List.Nodup
 rw [List.pairwise_flatMap]
 refine ⟨fun t ht=>(hP.nd t ht).filter _,List.Pairwise.imp_of_mem (fun {t u} ht hu hne => ?_) hO⟩;intro x hx y hy e;subst e
 rw [List.mem_filter] at hx hy
 exact hne (hP.ap t ht u hu x hx.1 hy.1)
theorem FI (hP:Parts O W) (hO:O.Nodup) (hn:base.Nodup):(hits O W base).length=base.length↔∀ v ∈ base,∃ t ∈ O,v ∈ W t:=by
 have hN:=Eg (base:=base) hP hO;have hS:∀ v ∈ hits O W base,v ∈ base:=fun v hv=>by obtain ⟨_,_,_,h⟩:=Ai.1 hv; exact h
 constructor
 ·intro e v hv
  apply Classical.byContradiction
  intro hno;have h1:v ∉ hits O W base:=fun h=>by
   obtain ⟨t,ht,h2,_⟩:=Ai.1 h;exact hno ⟨t,ht,h2⟩
  have:=qj (l:=v::hits O W base) (m:=base) (List.nodup_cons.2 ⟨h1,hN⟩) (fun x hx=>by
   rcases List.mem_cons.1 hx with rfl | hx
   ·exact hv
   ·exact hS x hx)
  simp at this
  omega
 ·intro hc;refine Nat.le_antisymm (qj hN hS) (qj hn (fun v hv => ?_));obtain ⟨t,ht,h⟩:=hc v hv;exact Ai.2 ⟨t,ht,h,hv⟩
theorem Jk {h:History} {a:Ask} (hP:Parts O W) (hO:O.Nodup) (hW:∀ t ∈ O,aM h t a.Key=some (W t)) (ho:aQ h a=some O) (hb:a.Base.length≤64) (hn:a.Base.Nodup) :
  Tri (bA h a) (nM O W a.Base):=by
 have hol:=hP.ol;unfold bA;refine bU ho ?_;refine df (k0:=0) O.length (fun k s=>s.1=rT (O.take k) W a.Base∧s.2.1=((hits (O.take k) W a.Base).length:Int)∧s.2.2=(k:Int)∧∀ j:Nat,j < k→cnt a.Base (W (idx O (j:Int)))=0∨cnt a.Base (W (idx O (j:Int)))=(W (idx O (j:Int))).length)
  (Nat.zero_le _) ⟨by simp [rT],by simp [hits],rfl,fun j h=>absurd h (Nat.not_lt_zero _)⟩ ?_
 rintro k ⟨l,n,x⟩ hk ⟨e1,e2,e4,e5⟩
 dsimp only at e1 e2 e4 e5
 subst e1 e2 e4;have hw:w64 ((k:Int) + 1)=((k + 1:Nat):Int):=aS (by omega);have hsl:=Br (O:=O) (W:=W) (base:=a.Base) (k:=k);have hsm:=Ef (base:=a.Base) hP k hk;unfold qE
 dsimp only
 refine aj (fun a5 => ?_) (fun a5 => ?_)
 ·have a0:k < O.length:=by omega
  refine ag (by omega) ?_;have ht:=eH a0;have hss:=Ah (W:=W) (base:=a.Base) a0;have hhs:=Bt (W:=W) (base:=a.Base) a0;refine bU (hW _ ht) ?_;generalize hg:idx O (k:Int)=t at ht hss hhs;have hwl:=hP.wl t ht;refine df (k0:=0) (W t).length (fun i s=>s.1=(cnt a.Base ((W t).take i):Int)∧s.2=(i:Int)) (Nat.zero_le _) ⟨by simp [cnt],rfl⟩ ?_
  rintro i ⟨c,x⟩ hi ⟨f3,f4⟩
  dsimp only at f3 f4
  subst f3 f4;have hcl:cnt a.Base ((W t).take i)≤i:=Nat.le_trans Ag (by rw [List.length_take]; omega);have a4:w64 ((i:Int) + 1)=((i + 1:Nat):Int):=aS (by omega);have a2:w64 ((cnt a.Base ((W t).take i):Int) + 1)=((cnt a.Base ((W t).take i) + 1:Nat):Int):=aS (by omega);unfold qD mQ mR mP
  dsimp only
  rw [a4,a2,hg]
  refine aj (fun a3 => ?_) (fun a3 => ?_)
  ·have a1:i < (W t).length:=by omega
   refine ag (by omega) ?_;have hct:=CX (base:=a.Base) a1;refine bU (Ee (by omega)) ?_;refine aj (fun h1 => ?_) (fun h1 => ?_)
   ·refine af ⟨a1,?_,rfl⟩
    dsimp only
    rw [hct,if_pos h1]
   ·refine af ⟨a1,?_,rfl⟩
    dsimp only
    rw [hct,if_neg h1]
  ·have:i=(W t).length:=by omega
   subst this
   rw [List.take_length]
   have hcw:cnt a.Base (W t)≤(W t).length:=Ag;have a6:w64 (((hits (O.take k) W a.Base).length:Int) + (cnt a.Base (W t):Int))=(((hits (O.take k) W a.Base).length + cnt a.Base (W t):Nat):Int):=by rw [pY (by omega) (by omega)]; omega
   have bad:¬ (cnt a.Base (W t)=0∨cnt a.Base (W t)=(W t).length)→nM O W a.Base ([],false):=fun hc => .inr ⟨rfl,fun hW=>hc (hW.1 t ht)⟩;have five:(cnt a.Base (W t)=0∨cnt a.Base (W t)=(W t).length)→∀ j:Nat,j < k + 1→cnt a.Base (W (idx O (j:Int)))=0∨cnt a.Base (W (idx O (j:Int)))=(W (idx O (j:Int))).length:=by
    intro hc j hj;rcases Nat.lt_or_ge j k with h4 | h4
    ·exact e5 j h4
    ·have:j=k:=by omega
     subst this
     rw [hg]; exact hc
   rw [hw,a6]
   refine aj (fun h1 => ?_) (fun h1 => ?_)
   ·refine aj (fun h2 => ?_) (fun h2 => ?_)
    ·exact av (av (af (bad (by omega))))
    ·refine aj (fun h3 => ?_) (fun h3=>absurd h1 h3);refine ag (by omega) ?_;refine av (af ⟨a0,?_,?_,rfl,five (by omega)⟩)
     ·dsimp only
      rw [hss,if_pos (by omega)]
     ·dsimp only
      rw [hhs]
   ·rw [cond_false]
    refine aj (fun h3=>absurd h3 h1) (fun h3 => ?_);refine av (af ⟨a0,?_,?_,rfl,five (by omega)⟩)
    ·dsimp only
     rw [hss,if_neg (by omega)]
    ·dsimp only
     rw [hhs]
     omega
 ·have:k=O.length:=by omega
  subst this
  rw [List.take_length]
  have hall:(∀ t ∈ O,cnt a.Base (W t)=0∨cnt a.Base (W t)=(W t).length):=by
   intro t ht;obtain ⟨j,hj,rfl⟩:=oU ht;exact e5 j hj
  have hfull:=FI hP hO hn;refine aj (fun h1 => ?_) (fun h1 => ?_)
  ·refine av (af (.inr ⟨rfl,fun hW => ?_⟩));have:=hfull.2 hW.2
   omega
  ·exact av (af (.inl ⟨rfl,hall,hfull.1 (by omega)⟩))
theorem GH {h:History} {a:Ask} (hP:Parts O W) (hO:O.Nodup) (hW:∀ t ∈ O,aM h t a.Key=some (W t)) (ho:aQ h a=some O) (hb:a.Base.length≤64) (hn:a.Base.Nodup) :
  ∃ r,bF a.Base (zu O W)=some r∧bA h a=some r∧nM O W a.Base r:=by
 obtain ⟨r,hr,h1⟩:=GG hP hO hb hn;obtain ⟨s,hs,h2⟩:=Jk hP hO hW ho hb hn;obtain rfl:=h1.det h2;exact ⟨r,hr,hs,h1⟩
end
theorem Ba {h:History} {key:Int} {k:Nat}:(gz h key k).Nodup:=by
 unfold gz List.Nodup
 rw [List.pairwise_map]
 refine ((List.nodup_range (n:=k)).filter _).imp (fun {a b} hne e=>hne (by omega))
theorem xN {h:History} {a:Ask} {k:Nat}:(iG h a k).Nodup:=Ba.filter _
end Go.Proofs.YtnlkggppokcmfaaT
namespace Go.Proofs.YtnlkggppokcmfaaT
open Go Go.Proofs Go.Proofs.YtnlkggppokcmfaaE
set_option linter.unusedVariables false
set_option linter.unusedSimpArgs false
def ui (s:Int) (w:List Int):Int:=w.foldl (fun x v=>w64 (x + v)) s
theorem yF {s:Int} {w:List Int} {k:Nat} (hk:k < w.length):ui s (w.take (k + 1))=w64 (ui s (w.take k) + idx w (k:Int)):=by
 unfold ui
 rw [List.take_succ_eq_append_getElem hk,List.foldl_append,(bR (n:=k) rfl hk:idx w (k:Int)=w[k])]
 rfl
def Win (want:Int):List (List Int)→Int→(Nat→Prop)→Nat→Nat→Prop
 | [],s,p,_,j=>s=want∧p j
 | w::ls,s,p,i,j=>Win want ls s p (i + 1) j∨Win want ls (ui s w) (fun j=>p j∨j=i) (i + 1) j
section
variable {O:List Int} {W:Int→List Int} {want:Int}
theorem yG (hol:O.length≤32) (hwl:∀ t ∈ O,(W t).length≤16):∀ (k i:Nat),i≤O.length→O.length - i < k→∀ (sum tk wi:Int) (p q:Nat→Prop),Wd tk p→Wd wi q →
  Tri (fq k (i:Int) sum tk (zu O W) want wi) (fun r=>Wd r (fun j=>q j∨Win want ((O.drop i).map W) sum p i j))
 | 0,i,_,hk=>by omega
 | k + 1,i,hi,hk=>by
  intro sum tk wi p q hp hq;have hw:w64 ((i:Int) + 1)=((i + 1:Nat):Int):=aS (by omega);unfold fq iP
  rw [sU,hw]
  refine aj (fun h1 => ?_) (fun h1 => ?_)
  ·have:i=O.length:=by omega
   subst this
   rw [List.drop_length,List.map_nil]
   refine aj (fun h2 => ?_) (fun h2 => ?_)
   ·exact af ((hq.or hp).congr fun j=>by show q j∨p j↔q j∨(sum=want∧p j); simp [h2])
   ·exact af (hq.congr fun j=>by show q j↔q j∨(sum=want∧p j); simp [h2])
  ·have a0:i < O.length:=by omega
   have hd:(O.drop i).map W=W (idx O (i:Int))::(O.drop (i + 1)).map W:=by
    rw [List.drop_eq_getElem_cons a0,List.map_cons,(bR (n:=i) rfl a0:idx O (i:Int)=O[i])]
   have a3:=hwl _ (eH a0);refine dO (yG hol hwl k (i + 1) (by omega) (by omega) sum tk wi p q hp hq) (fun y hy => ?_);refine ag (by omega) ?_;refine df (k0:=0) (W (idx O (i:Int))).length (fun m s=>s.1=ui sum ((W (idx O (i:Int))).take m)∧s.2=(m:Int)) (Nat.zero_le _) ⟨by simp [ui],rfl⟩ ?_
   rintro m ⟨s,x⟩ hm ⟨f1,f2⟩
   dsimp only at f1 f2
   subst f1 f2;have a2:w64 ((m:Int) + 1)=((m + 1:Nat):Int):=aS (by omega);unfold mh
   dsimp only
   rw [ww a0,a2,hw]
   dsimp only
   refine aj (fun h2 => ?_) (fun h2 => ?_)
   ·have a1:m < (W (idx O (i:Int))).length:=by omega
    refine ag (by omega) (af ⟨a1,?_,rfl⟩)
    dsimp only
    rw [yF a1]
   ·have:m=(W (idx O (i:Int))).length:=by omega
    subst this
    rw [List.take_length]
    refine ag (by unfold far; omega) ?_;refine dO (yG hol hwl k (i + 1) (by omega) (by omega) _ _ y _ _ (hp.or (Wd.bit (n:=i) rfl (by omega))) hy) (fun z hz => ?_);refine av (af (hz.congr fun j => ?_))
    rw [hd]
    show (q j∨Win want _ sum p (i + 1) j)∨_↔q j∨Win want _ sum p (i + 1) j∨_
    exact or_assoc
def picks (O:List Int) (f:Nat→Prop) [DecidablePred f] (k:Nat):List Int:=((List.range k).filter (fun j=>decide (f j))).map (fun j:Nat=>idx O (j:Int))
theorem Aj {f:Nat→Prop} [DecidablePred f] {k:Nat}:picks O f (k + 1)=if f k then picks O f k++[idx O (k:Int)] else picks O f k:=by
 unfold picks
 rw [List.range_succ,List.filter_append,List.map_append]
 by_cases h:f k <;> simp [h]
theorem wy {f:Nat→Prop} [DecidablePred f] {k:Nat}:(picks O f k).length≤k:=by
 unfold picks
 rw [List.length_map]
 exact Nat.le_trans (List.length_filter_le _ _) (by simp)
open Classical in
theorem Cc (hol:O.length≤32) (hwl:∀ t ∈ O,(W t).length≤16):dN want (zu O W)=some (picks O (Win want (O.map W) 0 (fun _=>False) 0) O.length):=by
 refine eX.1 ?_;unfold dN aW;have:=yG (want:=want) hol hwl 64 0 (Nat.zero_le _) (by omega) 0 0 0 _ _ Wd.zero Wd.zero;refine dO this (fun y hy => ?_)
 rw [List.drop_zero] at hy
 replace hy:Wd y (Win want (O.map W) 0 (fun _=>False) 0):=hy.congr fun j=>by simp
 generalize Win want (O.map W) 0 (fun _=>False) 0=f at hy ⊢;refine df (k0:=0) O.length (fun k s=>s=(picks O f k,(k:Int))) (Nat.zero_le _) (by simp [picks]) ?_;rintro k s hk rfl;have hw:w64 ((k:Int) + 1)=((k + 1:Nat):Int):=aS (by omega);have hl:=wy (O:=O) (f:=f) (k:=k);have hs:=Aj (O:=O) (f:=f) (k:=k);unfold nD kX
 dsimp only
 rw [sU,hw]
 refine aj (fun h1 => ?_) (fun h1 => ?_)
 ·have a0:k < O.length:=by omega
  refine ag (by omega) (ag (by unfold far; omega) ?_)
  rw [ww a0]
  rcases hy.look (i:=(k:Int)) (n:=k) rfl (by omega) with ⟨e,hf⟩ | ⟨e,hf⟩
  ·rw [e]
   refine aj (fun _ => ?_) (fun h=>absurd rfl h);refine ag (by omega) (af ⟨a0,?_⟩)
   dsimp only
   rw [hs,if_pos hf]
  ·rw [e]
   refine aj (fun h=>absurd h (by decide)) (fun _ => ?_);refine af ⟨a0,?_⟩
   dsimp only
   rw [hs,if_neg hf]
 ·have:k=O.length:=by omega
  subst this;exact av (af rfl)
end
end Go.Proofs.YtnlkggppokcmfaaT
namespace Go.Proofs.YtnlkggppokcmfaaT
open Go Go.Proofs Go.Proofs.YtnlkggppokcmfaaE
set_option linter.unusedVariables false
set_option linter.unusedSimpArgs false
theorem wbm (x:Int):w64 x=Int.bmod x 18446744073709551616:=by
 unfold w64 IntKind.wrap
 simp only [IntKind.bits,IntKind.signed,Bool.true_and,Int.bmod_def]
 have h1:(2 ^ 64:Int)=18446744073709551616:=by decide
 have h2:=Int.emod_nonneg x (show (18446744073709551616:Int)≠0 by decide);have h3:=Int.emod_lt_of_pos x (show (0:Int) < 18446744073709551616 by decide)
 simp only [h1]
 by_cases h:x % 18446744073709551616 < 9223372036854775808
 ·rw [if_neg (by simp; omega),if_pos (by simp; omega)]
  rfl
 ·rw [if_pos (by simp; omega),if_neg (by simp; omega)]
  rfl
theorem GI (x y:Int):w64 (w64 x + y)=w64 (x + y):=by rw [wbm,wbm,wbm,Int.bmod_add_bmod]
theorem JY (x y:Int):w64 (x + w64 y)=w64 (x + y):=by rw [Int.add_comm,GI,Int.add_comm]
theorem yH:∀ (w:List Int) (s:Int),ui (w64 s) w=w64 (s + w.sum)
 | [],s=>by simp [ui]
 | v::w,s=>by
  show ui (w64 (w64 s + v)) w=_
  rw [GI,yH w,List.sum_cons,Int.add_assoc]
theorem yI (w:List Int):ui 0 w=w64 w.sum:=by
 have h:=yH w 0
 rw [Int.zero_add] at h
 exact h
theorem EM {m i:Nat} (hm:m < 2 ^ 62) (hi:i < 62):yN .i64 (um .i64 (m:Int) (i:Int)) 1=if m.testBit i then 1 else 0:=by
 have h1:um .i64 (m:Int) (i:Int)=((m >>> i:Nat):Int):=by
  unfold um
  rw [show IntKind.bits .i64=64 from rfl,Int.toNat_natCast,Nat.min_eq_left (by omega),Nat.shiftRight_eq_div_pow]
  have:(2:Int) ^ i=((2 ^ i:Nat):Int):=(Int.natCast_pow 2 i).symm
  rw [this,Int.fdiv_eq_ediv_of_nonneg _ (Int.natCast_nonneg _)]
  exact (Int.natCast_ediv m (2 ^ i)).symm
 have h2:m >>> i < 2 ^ 62:=Nat.lt_of_le_of_lt (Nat.shiftRight_le _ _) hm;have h3:yN .i64 ((m >>> i:Nat):Int) ((1:Nat):Int)=(((m >>> i) &&& 1:Nat):Int):=by
  unfold yN
  rw [show IntKind.bits .i64=64 from rfl,BitVec.ofInt_natCast,BitVec.ofInt_natCast,BitVec.toNat_and,BitVec.toNat_ofNat,BitVec.toNat_ofNat,Nat.mod_eq_of_lt (by omega),Nat.mod_eq_of_lt (by decide)]
  have h4:(m >>> i) &&& 1≤1:=Nat.and_le_right;exact pY (by omega) (by omega)
 rw [h1,show (1:Int)=((1:Nat):Int) from rfl,h3,EQ]
 cases m.testBit i <;> rfl
theorem Jl {n:Nat} (hn:n≤32):zy .i64 1 (n:Int)=((2 ^ n:Nat):Int):=by
 unfold zy
 rw [show IntKind.bits .i64=64 from rfl,Int.toNat_natCast,Nat.min_eq_left (by omega)]
 have h1:(1:Int) * 2 ^ n=((2 ^ n:Nat):Int):=by rw [Int.one_mul]; exact (Int.natCast_pow 2 n).symm
 rw [h1]
 have h2:2 ^ n≤2 ^ 32:=Nat.pow_le_pow_right (by decide) hn;generalize 2 ^ n=q at h2;exact pY (by omega) (by omega)
section
variable {O:List Int} {W:Int→List Int} {want:Int}
def nN (O:List Int) (W:Int→List Int) (f:Nat→Bool):Nat→Int
 | 0=>0
 | k + 1=>if f k then w64 (nN O W f k + ui 0 (W (idx O (k:Int)))) else nN O W f k
theorem sV {f:Nat→Bool} {k:Nat}:nN O W f (k + 1)=if f k then w64 (nN O W f k + ui 0 (W (idx O (k:Int)))) else nN O W f k:=rfl
theorem GJ {f:Nat→Bool}:∀ k,w64 (nN O W f k)=nN O W f k
 | 0=>rfl
 | k + 1=>by
  unfold nN
  split
  ·have h:=GI (nN O W f k + ui 0 (W (idx O (k:Int)))) 0
   rw [Int.add_zero,Int.add_zero] at h
   exact h
  ·exact GJ k
theorem uj {f g:Nat→Bool}:∀ k,(∀ a,a < k→f a=g a)→nN O W f k=nN O W g k
 | 0,_=>rfl
 | k + 1,h=>by
  unfold nN
  rw [h k (by omega),uj k (fun a ha=>h a (by omega))]
theorem zJ (f:Nat→Bool):∀ (d i j:Nat) (f:Nat→Bool) (p:Nat→Prop),i + d=O.length→(∀ a,p a↔a < i∧f a=true) →
  (Win want ((O.drop i).map W) (nN O W f i) p i j↔∃ g:Nat→Bool,(∀ a,a < i→g a=f a)∧nN O W g O.length=want∧j < O.length∧g j=true)
 | 0,i,j,f,p,e,hp=>by
  have:i=O.length:=by omega
  subst this
  rw [List.drop_length,List.map_nil]
  show (nN O W f O.length=want∧p j)↔_
  rw [hp j]
  constructor
  ·rintro ⟨h1,h2,h3⟩; exact ⟨f,fun a _=>rfl,h1,h2,h3⟩
  ·rintro ⟨g,h1,h2,h3,h4⟩
   rw [uj O.length h1] at h2
   exact ⟨h2,h3,(h1 j h3) ▸ h4⟩
 | d + 1,i,j,f,p,e,hp=>by
  have hi:i < O.length:=by omega
  have hd:(O.drop i).map W=W (idx O (i:Int))::(O.drop (i + 1)).map W:=by
   rw [List.drop_eq_getElem_cons hi,List.map_cons,(bR (n:=i) rfl hi:idx O (i:Int)=O[i])]
  rw [hd]
  show Win want _ (nN O W f i) p (i + 1) j∨Win want _ (ui (nN O W f i) (W (idx O (i:Int)))) (fun j=>p j∨j=i) (i + 1) j↔_
  have hag:∀ b:Bool,nN O W (fun a=>if a=i then b else f a) i=nN O W f i:=fun b=>uj i (fun a ha=>if_neg (by omega));have e0:nN O W (fun a=>if a=i then false else f a) (i + 1)=nN O W f i:=by
   rw [sV,hag]
   simp
  have e1:nN O W (fun a=>if a=i then true else f a) (i + 1)=ui (nN O W f i) (W (idx O (i:Int))):=by
   rw [sV,hag,if_pos (if_pos rfl),← GJ i,yH,yI,JY,GI]
  have i0:=zJ f d (i + 1) j (fun a=>if a=i then false else f a) p (by omega) (fun a=>by
   rw [hp a]
   by_cases h:a=i
   ·subst h; simp
   ·simp only [if_neg h]
    constructor
    ·rintro ⟨h1,h2⟩; exact ⟨by omega,h2⟩
    ·rintro ⟨h1,h2⟩; exact ⟨by omega,h2⟩)
  have i1:=zJ f d (i + 1) j (fun a=>if a=i then true else f a) (fun j=>p j∨j=i) (by omega) (fun a=>by
   rw [hp a]
   by_cases h:a=i
   ·subst h; simp
   ·simp only [if_neg h,or_iff_left h]
    constructor
    ·rintro ⟨h1,h2⟩; exact ⟨by omega,h2⟩
    ·rintro ⟨h1,h2⟩; exact ⟨by omega,h2⟩)
  rw [e0] at i0
  rw [e1] at i1
  rw [i0,i1]
  constructor
  ·rintro (⟨g,h1,h2⟩ | ⟨g,h1,h2⟩)
   ·exact ⟨g,fun a ha=>by rw [h1 a (by omega),if_neg (by omega)],h2⟩
   ·exact ⟨g,fun a ha=>by rw [h1 a (by omega),if_neg (by omega)],h2⟩
  ·rintro ⟨g,h1,h2⟩;cases hgi:g i
   ·refine .inl ⟨g,fun a ha => ?_,h2⟩
    by_cases h:a=i
    ·subst h; rw [if_pos rfl,hgi]
    ·rw [if_neg h,h1 a (by omega)]
   ·refine .inr ⟨g,fun a ha => ?_,h2⟩
    by_cases h:a=i
    ·subst h; rw [if_pos rfl,hgi]
    ·rw [if_neg h,h1 a (by omega)]
theorem EN (g:Nat→Bool):∀ n:Nat,∃ m:Nat,m < 2 ^ n∧∀ a,a < n→m.testBit a=g a
 | 0=>⟨0,by decide,fun a h=>absurd h (Nat.not_lt_zero _)⟩
 | n + 1=>by
  obtain ⟨m,h1,h2⟩:=EN g n;have hp:2 ^ (n + 1)=2 ^ n + 2 ^ n:=by rw [Nat.pow_succ]; omega
  cases hg:g n
  ·refine ⟨m,by omega,fun a ha => ?_⟩
   by_cases h:a=n
   ·subst h; rw [hg]; exact Nat.testBit_lt_two_pow h1
   ·exact h2 a (by omega)
  ·refine ⟨2 ^ n + m,by omega,fun a ha => ?_⟩
   by_cases h:a=n
   ·subst h
    rw [Nat.testBit_two_pow_add_eq,hg,Nat.testBit_lt_two_pow h1]
    rfl
   ·rw [Nat.testBit_two_pow_add_gt (by omega)]
    exact h2 a (by omega)
def Msk (O:List Int) (W:Int→List Int) (want:Int) (m j:Nat):Prop:=nN O W m.testBit O.length=want∧m.testBit j=true
theorem GK {j:Nat} (hj:j < O.length):Win want (O.map W) 0 (fun _=>False) 0 j↔∃ m:Nat,1≤m∧m < 2 ^ O.length∧Msk O W want m j:=by
 have h:=zJ (O:=O) (W:=W) (want:=want) (fun _=>false) O.length 0 j (fun _=>false) (fun _=>False) (by omega) (fun a=>by simp)
 rw [List.drop_zero] at h
 refine Iff.trans h ?_
 constructor
 ·rintro ⟨g,_,h2,h3,h4⟩;obtain ⟨m,m1,m2⟩:=EN g O.length;refine ⟨m,?_,m1,?_,?_⟩
  ·apply Nat.lt_of_not_le
   intro h0;have:m=0:=by omega
   subst this
   rw [← m2 j hj,Nat.zero_testBit] at h4
   cases h4
  ·rw [uj O.length m2]; exact h2
  ·rw [m2 j hj]; exact h4
 ·rintro ⟨m,_,m1,m2,m3⟩;exact ⟨m.testBit,fun a ha=>absurd ha (Nat.not_lt_zero _),m2,hj,m3⟩
end
end Go.Proofs.YtnlkggppokcmfaaT
namespace Go.Proofs.YtnlkggppokcmfaaT
open Go Go.Proofs Go.Proofs.YtnlkggppokcmfaaE
set_option linter.unusedVariables false
set_option linter.unusedSimpArgs false
theorem GL {h:History} {t key:Int} {w:List Int} (hW:aM h t key=some w) (hl:w.length≤16):jb h t key=some (ui 0 w):=by
 refine eX.1 ?_;unfold jb;refine bU hW ?_;refine df (k0:=0) w.length (fun m s=>s.1=ui 0 (w.take m)∧s.2=(m:Int)) (Nat.zero_le _) ⟨by simp [ui],rfl⟩ ?_
 rintro m ⟨s,x⟩ hm ⟨f1,f2⟩
 dsimp only at f1 f2
 subst f1 f2;have a1:w64 ((m:Int) + 1)=((m + 1:Nat):Int):=aS (by omega);unfold qC
 dsimp only
 rw [a1]
 refine aj (fun h2 => ?_) (fun h2 => ?_)
 ·have a0:m < w.length:=by omega
  refine ag (by omega) (af ⟨a0,?_,rfl⟩)
  dsimp only
  rw [yF a0]
 ·have:m=w.length:=by omega
  subst this;exact av (af (by rw [List.take_length]; rfl))
section
variable {O:List Int} {W:Int→List Int}
open Classical in
theorem CY (hol:O.length≤32) (hwl:∀ t ∈ O,(W t).length≤16) {h:History} {a:Ask} (hW:∀ t ∈ O,aM h t a.Key=some (W t)) (ho:aQ h a=some O) (hb:0 < a.Base.length) :
  aI h a=some (picks O (Win (idx a.Base 0) (O.map W) 0 (fun _=>False) 0) O.length):=by
 refine eX.1 ?_;have a5:2 ^ O.length≤2 ^ 32:=Nat.pow_le_pow_right (by decide) hol;have a3:0 < 2 ^ O.length:=Nat.two_pow_pos _;unfold aI;refine bU ho ?_;refine ag (by omega) ?_;have hfin:∀ j,j < O.length→(Win (idx a.Base 0) (O.map W) 0 (fun _=>False) 0 j↔∃ m:Nat,1≤m∧m < 2 ^ O.length∧Msk O W (idx a.Base 0) m j):=fun j hj=>GK hj;generalize Win (idx a.Base 0) (O.map W) 0 (fun _=>False) 0=f at hfin ⊢;have hshl:=Jl hol;generalize 2 ^ O.length=N at a5 a3 hfin hshl;refine df (k0:=1) N (fun m s=>s.1.length=O.length∧s.2=(m:Int)∧∀ j,j < O.length→(idx s.1 (j:Int)=true↔∃ m':Nat,1≤m'∧m' < m∧Msk O W (idx a.Base 0) m' j)) a3 ⟨by simp,rfl,fun j hj => ?_⟩ ?_
 ·dsimp only
  rw [Int.toNat_natCast,bR (n:=j) rfl (by simpa using hj)]
  simp
  intro m' h1 h2
  omega
 rintro m ⟨ok,x⟩ hm ⟨e1,e2,e3⟩
 dsimp only at e1 e2 e3
 subst e2;unfold ou
 dsimp only
 rw [hshl]
 refine ag (by unfold far; omega) ?_;refine aj (fun h1 => ?_) (fun h1 => ?_)
 ·have a4:m < N:=by omega
  have hwm:w64 ((m:Int) + 1)=((m + 1:Nat):Int):=aS (by omega);refine df (k0:=0) O.length (fun i s=>s.1=nN O W m.testBit i∧s.2=(i:Int)) (Nat.zero_le _) ⟨rfl,rfl⟩ ?_;rintro i ⟨s,x⟩ hi ⟨f1,f2⟩
  dsimp only at f1 f2
  subst f1 f2;have hwi:w64 ((i:Int) + 1)=((i + 1:Nat):Int):=aS (by omega);unfold oo kR
  dsimp only
  rw [hwi]
  refine aj (fun h2 => ?_) (fun h2 => ?_)
  ·have a0:i < O.length:=by omega
   refine ag (by unfold far; omega) ?_
   rw [EM (by omega) (by omega)]
   cases hbit:m.testBit i
   ·refine aj (fun h3=>absurd h3 (by simp)) (fun _ => ?_);refine af ⟨a0,?_,rfl⟩
    dsimp only
    rw [sV,hbit]
    rfl
   ·refine aj (fun _ => ?_) (fun h3=>absurd (by simp) h3);refine ag (by omega) ?_;refine bU (GL (hW _ (eH a0)) (hwl _ (eH a0))) (af ⟨a0,?_,rfl⟩)
    dsimp only
    rw [sV,hbit]
    rfl
  ·have:i=O.length:=by omega
   subst this;have fin:∀ l:List Bool,l.length=O.length→(∀ j,j < O.length→(idx l (j:Int)=true↔idx ok (j:Int)=true∨Msk O W (idx a.Base 0) m j)) →
     Upm N m (fun m s=>s.1.length=O.length∧s.2=(m:Int)∧∀ j,j < O.length→(idx s.1 (j:Int)=true↔∃ m':Nat,1≤m'∧m' < m∧Msk O W (idx a.Base 0) m' j)) (fun b=>b=picks O f O.length) (.inl (l,((m + 1:Nat):Int))):=by
    intro l hl hj;refine ⟨a4,hl,rfl,fun j a2 => ?_⟩
    dsimp only
    rw [hj j a2,e3 j a2]
    constructor
    ·rintro (⟨m',h1,h2,h3⟩ | h3)
     ·exact ⟨m',h1,by omega,h3⟩
     ·refine ⟨m,?_,by omega,h3⟩
      apply Nat.lt_of_not_le
      intro h0;have:m=0:=by omega
      subst this;have:=h3.2
      rw [Nat.zero_testBit] at this
      cases this
    ·rintro ⟨m',h1,h2,h3⟩;rcases Nat.lt_or_ge m' m with h4 | h4
     ·exact .inl ⟨m',h1,h4,h3⟩
     ·have:m'=m:=by omega
      subst this;exact .inr h3
   refine df (k0:=0) O.length (fun i s=>s.1.length=O.length∧s.2=(i:Int)∧∀ j,j < O.length→(idx s.1 (j:Int)=true↔idx ok (j:Int)=true∨(nN O W m.testBit O.length=idx a.Base 0∧j < i∧m.testBit j=true))) (Nat.zero_le _)
    ⟨e1,rfl,fun j hj=>⟨fun h => .inl h,fun h=>h.elim id (fun h=>absurd h.2.1 (Nat.not_lt_zero _))⟩⟩ ?_
   rintro i ⟨l,x⟩ hi ⟨f1,f2,f3⟩
   dsimp only at f1 f2 f3
   subst f2;have hwi:w64 ((i:Int) + 1)=((i + 1:Nat):Int):=aS (by omega);unfold om kT kS
   dsimp only
   rw [hwi,hwm]
   refine aj (fun h3 => ?_) (fun h3 => ?_)
   ·have a0:i < O.length:=by omega
    refine ag (by omega) ?_;refine aj (fun h4 => ?_) (fun h4 => ?_)
    ·refine ag (by omega) ?_
     rw [Int.toNat_natCast,EM (by omega) (by omega)]
     have step:∀ v:Bool,(v=true↔idx l (i:Int)=true∨m.testBit i=true)→∀ j,j < O.length→(idx (l.set i v) (j:Int)=true↔idx ok (j:Int)=true∨(nN O W m.testBit O.length=idx a.Base 0∧j < i + 1∧m.testBit j=true)):=by
      intro v hv j hj
      rw [mG (by omega)]
      by_cases e:j=i
      ·subst e
       rw [if_pos rfl,hv,f3 j hj]
       constructor
       ·rintro ((h | ⟨_,h,_⟩) | h)
        ·exact .inl h
        ·omega
        ·exact .inr ⟨h4,by omega,h⟩
       ·rintro (h | ⟨_,_,h⟩)
        ·exact .inl (.inl h)
        ·exact .inr h
      ·rw [if_neg e,f3 j hj]
       constructor
       ·rintro (h | ⟨h,h',h''⟩)
        ·exact .inl h
        ·exact .inr ⟨h,by omega,h''⟩
       ·rintro (h | ⟨h,h',h''⟩)
        ·exact .inl h
        ·exact .inr ⟨h,by omega,h''⟩
     cases hli:idx l (i:Int)
     ·rw [cond_false]
      refine ag (by unfold far; omega) (af ⟨a0,by simp [f1],rfl,step _ ?_⟩)
      rw [hli]
      cases m.testBit i <;> simp
     ·rw [cond_true]
      refine af ⟨a0,by simp [f1],rfl,step _ ?_⟩
      rw [hli]
      simp
    ·refine av (av (af (fin l f1 fun j hj => ?_)))
     rw [f3 j hj]
     unfold Msk;exact or_congr Iff.rfl ⟨fun h=>absurd h.1 h4,fun h=>absurd h.1 h4⟩
   ·have:i=O.length:=by omega
    subst this
    rw [cond_false]
    refine av (av (af (fin l f1 fun j hj => ?_)))
    rw [f3 j hj]
    unfold Msk;exact or_congr Iff.rfl ⟨fun h=>⟨h.1,h.2.2⟩,fun h=>⟨h.1,hj,h.2⟩⟩
 ·have hmN:m=N:=by omega
  subst hmN;have e4:∀ j,j < O.length→(idx ok (j:Int)=true↔f j):=fun j hj=>(e3 j hj).trans (hfin j hj).symm;refine df (k0:=0) O.length (fun k s=>s=(picks O f k,(k:Int))) (Nat.zero_le _) (by simp [picks]) ?_;rintro k s hk rfl;have hw:w64 ((k:Int) + 1)=((k + 1:Nat):Int):=aS (by omega);have hl:=wy (O:=O) (f:=f) (k:=k);have hs:=Aj (O:=O) (f:=f) (k:=k);unfold oq kU
  dsimp only
  rw [hw]
  refine aj (fun h1 => ?_) (fun h1 => ?_)
  ·have a1:k < O.length:=by omega
   refine ag (by omega) ?_;cases hok:idx ok (k:Int)
   ·rw [cond_false]
    refine af ⟨a1,?_⟩
    dsimp only
    rw [hs,if_neg (fun hf=>by rw [(e4 k a1).2 hf] at hok; cases hok)]
   ·rw [cond_true]
    refine ag (by omega) (ag (by omega) (af ⟨a1,?_⟩))
    dsimp only
    rw [hs,if_pos ((e4 k a1).1 hok)]
  ·have:k=O.length:=by omega
   subst this;exact av (av (af rfl))
end
end Go.Proofs.YtnlkggppokcmfaaT
namespace Go.Proofs.YtnlkggppokcmfaaT
open Go Go.Proofs Go.Proofs.YtnlkggppokcmfaaE
set_option linter.unusedVariables false
set_option linter.unusedSimpArgs false
def sW (w:List Int):Int:=idx w ((w.length - 1:Nat):Int)
section
variable {O:List Int} {W:Int→List Int}
def lasts (O:List Int) (W:Int→List Int) (v:Int):List Int:=O.filter (fun t=>decide (sW (W t)=v))
theorem Ak {v:Int} {k:Nat} (hk:k < O.length):lasts (O.take (k + 1)) W v=if sW (W (idx O (k:Int)))=v then lasts (O.take k) W v++[idx O (k:Int)] else lasts (O.take k) W v:=by
 unfold lasts
 rw [List.take_succ_eq_append_getElem hk,List.filter_append,(bR (n:=k) rfl hk:idx O (k:Int)=O[k])]
 by_cases h:sW (W O[k])=v <;> simp [h]
theorem Bu {v:Int} {k:Nat}:(lasts (O.take k) W v).length≤O.length:=Nat.le_trans (List.length_filter_le _ _) (by rw [List.length_take]; omega)
theorem GM (hol:O.length≤32) (hne:∀ t ∈ O,0 < (W t).length) (hwl:∀ t ∈ O,(W t).length≤16) {a:Ask} (hb:0 < a.Base.length) :
  iter (lc a (zu O W)) ([],0)=some (lasts O W (idx a.Base 0)):=by
 refine eX.1 ?_;refine df (k0:=0) O.length (fun k s=>s.1=lasts (O.take k) W (idx a.Base 0)∧s.2=(k:Int)) (Nat.zero_le _) ⟨by simp [lasts],rfl⟩ ?_
 rintro k ⟨l,x⟩ hk ⟨e1,e2⟩
 dsimp only at e1 e2
 subst e1 e2;have hw:w64 ((k:Int) + 1)=((k + 1:Nat):Int):=aS (by omega);have hl:=Bu (O:=O) (W:=W) (v:=idx a.Base 0) (k:=k);unfold lc kZ eG
 dsimp only
 rw [sU,hw]
 refine aj (fun h1 => ?_) (fun h1 => ?_)
 ·have a0:k < O.length:=by omega
  have h0:=hne _ (eH a0);have a1:=hwl _ (eH a0);have hs:=Ak (W:=W) (v:=idx a.Base 0) a0
  rw [ww a0]
  dsimp only
  have hp:w64 (((W (idx O (k:Int))).length:Int) - 1)=(((W (idx O (k:Int))).length - 1:Nat):Int):=kE (by omega) (by omega)
  rw [hp]
  refine ag (by omega) (ag (by omega) (ag (by omega) ?_));refine aj (fun h2 => ?_) (fun h2 => ?_)
  ·refine ag (by omega) (af ⟨a0,?_,rfl⟩)
   dsimp only
   rw [hs,if_pos (show sW _=_ from h2)]
  ·refine af ⟨a0,?_,rfl⟩
   dsimp only
   rw [hs,if_neg (show ¬ sW _=_ from h2)]
 ·have:k=O.length:=by omega
  subst this;exact av (af (by rw [List.take_length]; rfl))
theorem Jm (hol:O.length≤32) (hne:∀ t ∈ O,0 < (W t).length) (hwl:∀ t ∈ O,(W t).length≤16) {h:History} {a:Ask} (hW:∀ t ∈ O,aM h t a.Key=some (W t)) (hb:0 < a.Base.length) :
  iter (nI h a O) ([],0)=some (lasts O W (idx a.Base 0)):=by
 refine eX.1 ?_;refine df (k0:=0) O.length (fun k s=>s.1=lasts (O.take k) W (idx a.Base 0)∧s.2=(k:Int)) (Nat.zero_le _) ⟨by simp [lasts],rfl⟩ ?_
 rintro k ⟨l,x⟩ hk ⟨e1,e2⟩
 dsimp only at e1 e2
 subst e1 e2;have hw:w64 ((k:Int) + 1)=((k + 1:Nat):Int):=aS (by omega);have hl:=Bu (O:=O) (W:=W) (v:=idx a.Base 0) (k:=k);unfold nI nH gQ
 dsimp only
 rw [hw]
 refine aj (fun h1 => ?_) (fun h1 => ?_)
 ·have a0:k < O.length:=by omega
  have h0:=hne _ (eH a0);have a1:=hwl _ (eH a0);have hs:=Ak (W:=W) (v:=idx a.Base 0) a0;refine ag (by omega) (bU (hW _ (eH a0)) ?_);have hp:w64 (((W (idx O (k:Int))).length:Int) - 1)=(((W (idx O (k:Int))).length - 1:Nat):Int):=kE (by omega) (by omega)
  rw [hp]
  refine ag (by omega) (ag (by omega) ?_);refine aj (fun h2 => ?_) (fun h2 => ?_)
  ·refine ag (by omega) (af ⟨a0,?_,rfl⟩)
   dsimp only
   rw [hs,if_pos (show sW _=_ from h2)]
  ·refine af ⟨a0,?_,rfl⟩
   dsimp only
   rw [hs,if_neg (show ¬ sW _=_ from h2)]
 ·have:k=O.length:=by omega
  subst this;exact av (af (by rw [List.take_length]; rfl))
end
abbrev oth (h:History) (a:Ask):List Int:=iG h a h.Txns.length
abbrev wro (h:History) (a:Ask):Int→List Int:=fun t=>eP h t a.Key
open Classical in
def uD (h:History) (a:Ask) (ty:Int) (s:List Int):Prop :=
 if ty=4 then s=(if idx a.Base 0=0 then [-1] else [])++picks (oth h a) (Win (idx a.Base 0) ((oth h a).map (wro h a)) 0 (fun _=>False) 0) (oth h a).length
 else if a.Base.length=0 then s=[-1]
 else if ty=1 then s=lasts (oth h a) (wro h a) (idx a.Base 0)
 else if ty=2 then ∃ r,Af (oth h a) (wro h a) a.Base r∧s=if r.2=true then [sW r.1] else []
 else ∃ r,nM (oth h a) (wro h a) a.Base r∧s=r.1
theorem uk {h:History} (hS:fT h) (hc:aA h=some 0) {a:Ask} {t p:Nat} (ha:CU h a t p) :
  ∃ s,aO h a=some s∧bE h a=some s∧uD h a (typ (opAt h (t:Int) (p:Int)).Kind) s:=by
 have a6:=hS.len;obtain ⟨k1,k8⟩:=wu hS ha.tl ha.pl;have hT:eB h a.Key=some (typ (opAt h (t:Int) (p:Int)).Kind):=Bl hS hc ha.tl ha.pl ha.e3.symm;have hK:=Fz hS ha.tl ha.pl ha.e1 ha.e2;have hF:bM h a=some (zu (oth h a) (wro h a)):=CO hS hc;have hO:aQ h a=some (oth h a):=CL hS;have hol:(oth h a).length≤32:=Nat.le_trans qi a6;have hmem:∀ u ∈ oth h a,∃ n:Nat,u=(n:Int)∧n < h.Txns.length∧0 < (wro h a u).length:=fun u hu=>by
  obtain ⟨⟨h0,h1,_,h3⟩,_⟩:=uh.1 hu;exact ⟨u.toNat,by omega,by omega,h3⟩
 have hwl:∀ u ∈ oth h a,(wro h a u).length≤16:=fun u hu=>by
  obtain ⟨n,rfl,hn,_⟩:=hmem u hu;exact Nat.le_trans vJ (hS.txn n hn).ops.1
 have hne:∀ u ∈ oth h a,0 < (wro h a u).length:=fun u hu=>by obtain ⟨n,_,_,h3⟩:=hmem u hu; exact h3
 have hW:∀ u ∈ oth h a,aM h u a.Key=some (wro h a u):=fun u hu=>by
  obtain ⟨n,rfl,hn,_⟩:=hmem u hu;exact Ac ⟨by omega,by omega⟩ (hS.txn n hn).ops.1
 have hP:=fun a7=>CW (a:=a) hS ha a7;have a5:=ha.b64;have a3:=ha.b4;have a4:=ha.b3;have hty:typ (opAt h (t:Int) (p:Int)).Kind=1∨typ (opAt h (t:Int) (p:Int)).Kind=2∨typ (opAt h (t:Int) (p:Int)).Kind=3∨typ (opAt h (t:Int) (p:Int)).Kind=4:=by unfold typ; omega
 generalize typ (opAt h (t:Int) (p:Int)).Kind=ty at hT hK a3 a4 hty hP;have bz:0 < a.Base.length→((a.Base.length:Int) == 0)=false:=fun h=>by rw [beq_eq_false_iff_ne]; omega
 have b0:a.Base.length=0→((a.Base.length:Int) == 0)=true:=fun h=>by rw [beq_iff_eq]; omega
 unfold aO bE nC
 simp only [hT,hK,hF,hO,Option.bind_some]
 by_cases h0:a.Base.length=0∧ty≠4
 ·obtain ⟨h0,h4⟩:=h0;refine ⟨[-1],?_,?_,?_⟩
  ·rw [b0 h0,beq_eq_false_iff_ne.2 h4]; rfl
  ·rw [b0 h0,beq_eq_false_iff_ne.2 h4]; rfl
  ·unfold uD; rw [if_neg h4,if_pos h0]
 ·rcases hty with rfl | rfl | rfl | rfl
  ·have hb:0 < a.Base.length:=by omega
   rw [bz hb]
   refine ⟨lasts (oth h a) (wro h a) (idx a.Base 0),GM (W:=wro h a) hol hne hwl (a:=a) hb,Jm (W:=wro h a) hol hne hwl hW hb,?_⟩;unfold uD
   rw [if_neg (by decide),if_neg (by omega),if_pos rfl]
  ·have hb:0 < a.Base.length:=by omega
   rw [bz hb]
   obtain ⟨⟨l,b⟩,a2,a1,a0⟩:=FH (hP (.inl rfl)) hW hO a5;have hsrc:uD h a 2 (if b=true then [sW l] else []):=by
    unfold uD
    rw [if_neg (by decide),if_neg (by omega),if_neg (by decide),if_pos rfl]
    exact ⟨_,a0,rfl⟩
   refine ⟨_,?_,?_,hsrc⟩
   ·rw [a2]
    refine eX.1 ?_
    show Tri (bif b then _ else _) _
    cases b
    ·exact af rfl
    ·have hl:0 < l.length∧l.length≤32:=by
      rcases a0 with ⟨_,h1,h2,h3⟩ | ⟨h1,_⟩
      ·refine ⟨?_,Nat.le_trans (qj h2 h1) hol⟩
       apply Nat.lt_of_not_le
       intro hle;have:l=[]:=List.length_eq_zero_iff.1 (by omega);subst this
       rw [h3] at hb
       simp at hb
      ·cases h1
     have hp:w64 ((l.length:Int) - 1)=((l.length - 1:Nat):Int):=kE (by omega) (by omega)
     dsimp only
     rw [hp]
     refine ag (by omega) (af ?_)
     rw [yD]
     show l.drop (l.length - 1)=[sW l]
     rw [List.drop_eq_getElem_cons (by omega),List.drop_eq_nil_of_le (by omega)]
     unfold sW
     rw [bR (n:=l.length - 1) rfl (by omega)]
   ·rw [a1]
    refine eX.1 ?_
    show Tri (bif b then _ else _) _
    cases b
    ·exact af rfl
    ·have hl:0 < l.length∧l.length≤32:=by
      rcases a0 with ⟨_,h1,h2,h3⟩ | ⟨h1,_⟩
      ·refine ⟨?_,Nat.le_trans (qj h2 h1) hol⟩
       apply Nat.lt_of_not_le
       intro hle;have:l=[]:=List.length_eq_zero_iff.1 (by omega);subst this
       rw [h3] at hb
       simp at hb
      ·cases h1
     have hp:w64 ((l.length:Int) - 1)=((l.length - 1:Nat):Int):=kE (by omega) (by omega)
     dsimp only
     rw [hp]
     exact ag (by omega) (ag (by omega) (af rfl))
  ·have hb:0 < a.Base.length:=by omega
   rw [bz hb]
   obtain ⟨⟨l,b⟩,a2,a1,a0⟩:=GH (hP (.inr rfl)) xN hW hO a5 (a4 rfl);have hsrc:uD h a 3 l:=by
    unfold uD
    rw [if_neg (by decide),if_neg (by omega),if_neg (by decide),if_neg (by decide)]
    exact ⟨_,a0,rfl⟩
   refine ⟨_,?_,?_,hsrc⟩
   ·rw [a2]; rfl
   ·rw [a1]
    refine eX.1 ?_
    show Tri (bif b then _ else _) _
    cases b
    ·refine af ?_;rcases a0 with ⟨h1,_⟩ | ⟨h1,_⟩
     ·cases h1
     ·cases h1; rfl
    ·exact af rfl
  ·classical
   have hb:0 < a.Base.length:=by have:=a3 rfl; omega
   have hcc:=Cc (W:=wro h a) (want:=idx a.Base 0) hol hwl;have hcr:=CY (W:=wro h a) hol hwl hW hO hb;generalize hpk:picks (oth h a) (Win (idx a.Base 0) ((oth h a).map (wro h a)) 0 (fun _=>False) 0) (oth h a).length=pk at hcc hcr;have hpl:pk.length≤32:=by rw [← hpk]; exact Nat.le_trans wy hol
   have hsrc:uD h a 4 ((if idx a.Base 0=0 then [-1] else [])++pk):=by
    unfold uD
    rw [if_pos rfl,← hpk]
   refine ⟨_,?_,?_,hsrc⟩
   ·refine eX.1 ?_;unfold kY eG
    simp only [hF,hcc,Option.bind_some]
    refine ag (by omega) ?_;refine aj (fun h1 => ?_) (fun h1 => ?_)
    ·refine ag (by omega) (ag (by omega) (ag ?_ (af ?_)))
     ·simp only [List.length_append,List.length_singleton,List.length_nil]; omega
     ·rw [if_pos h1]; rfl
    ·refine ag (by omega) (ag ?_ (af ?_))
     ·simp only [List.length_nil]; omega
     ·rw [if_neg h1]
   ·refine eX.1 ?_;unfold nG
    simp only [hcr,Option.bind_some]
    refine ag (by omega) ?_;refine aj (fun h1 => ?_) (fun h1 => ?_)
    ·refine ag (by omega) (af ?_)
     rw [if_pos h1]
    ·refine af ?_
     rw [if_neg h1]; rfl
end Go.Proofs.YtnlkggppokcmfaaT
namespace Go.Proofs.YtnlkggppokcmfaaT
open Go Go.Proofs Go.Proofs.YtnlkggppokcmfaaE
set_option linter.unusedVariables false
set_option linter.unusedSimpArgs false
noncomputable def zw (h:History) (a:Ask):List Int:=(aO h a).getD []
theorem FJ {h:History} (hS:fT h) (hc:aA h=some 0) {a:Ask} (ha:a ∈ dh h h.Txns.length):aO h a=some (zw h a)∧bE h a=some (zw h a):=by
 obtain ⟨t,p,hk⟩:=yC hS ha;obtain ⟨s,h1,h2,_⟩:=uk hS hc hk;unfold zw
 rw [h1,h2]
 exact ⟨rfl,rfl⟩
theorem Al {l:List Ask} {j:Nat} (hj:j < l.length):idx l (j:Int) ∈ l:=by rw [bR (n:=j) rfl hj]; exact List.getElem_mem _
section
variable {h:History}
end
end Go.Proofs.YtnlkggppokcmfaaT
namespace Go.Proofs.YtnlkggppokcmfaaT
open Go Go.Proofs Go.Proofs.YtnlkggppokcmfaaE
set_option linter.unusedVariables false
set_option linter.unusedSimpArgs false
theorem CZ {b a:Ask} (ha:a.Base.length < 2 ^ 60):Tri (lI b a) (fun r=>r=true↔a=b):=by
 unfold lI
 rw [uf (by omega)]
 obtain ⟨a1,a2,a3,a4⟩:=a;obtain ⟨b1,b2,b3,b4⟩:=b
 dsimp only
 refine aj (fun e1 => ?_) (fun e1=>af ?_)
 ·refine aj (fun e2 => ?_) (fun e2=>af ?_)
  ·refine aj (fun e3=>af ?_) (fun e3=>af ?_)
   ·simp [e1,e2,e3]
   ·simp [e3]
  ·simp [e2]
 ·simp [e1]
theorem Bb {l:List Ask} {a:Ask} (ha:a.Base.length < 2 ^ 60) (hl:l.length < 2 ^ 60):Tri (dm l a) (fun r=>r=true↔a ∈ l):=by
 have h1:Tri (bf l a) (fun r=>0≤r↔a ∈ l):=by
  unfold bf;refine df (k0:=0) l.length (fun k s=>s=(k:Int)∧∀ j:Nat,j < k→a≠idx l (j:Int)) (Nat.zero_le _) ⟨rfl,fun j h=>absurd h (Nat.not_lt_zero _)⟩ ?_;rintro k s hk ⟨rfl,hno⟩;have hw:w64 ((k:Int) + 1)=((k + 1:Nat):Int):=aS (by omega);unfold eU
  dsimp only
  rw [hw]
  refine aj (fun h1 => ?_) (fun h1 => ?_)
  ·have a0:k < l.length:=by omega
   refine ag (by omega) (dO (CZ ha) (fun r hr => ?_));refine aj (fun h2 => ?_) (fun h2 => ?_)
   ·refine av (af ⟨fun _ => ?_,fun _=>by omega⟩)
    rw [hr.1 h2]
    exact Al a0
   ·refine af ⟨a0,rfl,fun j hj => ?_⟩;rcases Nat.lt_or_ge j k with h3 | h3
    ·exact hno j h3
    ·have:j=k:=by omega
     subst this;exact fun e=>h2 (hr.2 e)
  ·have:k=l.length:=by omega
   subst this;refine av (af ⟨fun h=>absurd h (by decide),fun h => ?_⟩);obtain ⟨j,hj,e⟩:=List.getElem_of_mem h;exact absurd (e.symm.trans (bR rfl hj).symm) (hno j hj)
 unfold dm;refine dO h1 (fun r hr=>af ?_)
 rw [decide_eq_true_iff]
 exact hr
theorem Eh {h:History} (hs:sI h) (hS:fT h) (hc:aA h=some 0) {a:Ask} (ha:a.Base.length < 2 ^ 60) :
  Tri (nE h a) (fun r=>(r=0∧a ∈ dh h h.Txns.length)∨(r=1∧a ∉ dh h h.Txns.length)):=by
 have a0:=hS.len;obtain ⟨i1,_,_⟩:=wo hS h.Txns.length (Nat.le_refl _);have hA:gY h=some (dh h h.Txns.length,0):=by unfold gY; rw [xM hs hS hc]; rfl
 unfold nE;refine bU hA ?_;refine aj (fun h1=>absurd rfl h1) (fun _ => ?_);refine dO (Bb ha (by dsimp only; omega)) (fun r hr => ?_);refine aj (fun h1 => ?_) (fun h1 => ?_)
 ·exact af (.inl ⟨rfl,hr.1 h1⟩)
 ·exact af (.inr ⟨rfl,fun h2=>h1 (hr.2 h2)⟩)
theorem Da {h:History} (hS:fT h) {a:Ask} (ha:a ∈ dh h h.Txns.length):a.Base.length < 2 ^ 60:=by
 obtain ⟨t,p,hk⟩:=yC hS ha;have:=hk.b64
 omega
theorem Ce {h:History} (hs:sI h) (hS:fT h) (hc:aA h=some 0) {a:Ask} (ha:a ∈ dh h h.Txns.length):lJ h a=some (zw h a,0):=by
 refine eX.1 ?_;unfold lJ;refine dO (Eh hs hS hc (Da hS ha)) (fun r hr => ?_);rcases hr with ⟨rfl,_⟩ | ⟨_,h1⟩
 ·refine aj (fun h1=>absurd rfl h1) (fun _ => ?_);exact bU (FJ hS hc ha).1 (af rfl)
 ·exact absurd ha h1
end Go.Proofs.YtnlkggppokcmfaaT
namespace Go.Proofs.YtnlkggppokcmfaaT
open Go Go.Proofs Go.Proofs.YtnlkggppokcmfaaE
set_option linter.unusedVariables false
set_option linter.unusedSimpArgs false
end Go.Proofs.YtnlkggppokcmfaaT
namespace Go.Proofs.YtnlkggppokcmfaaT
open Go Go.Proofs Go.Proofs.YtnlkggppokcmfaaE
set_option linter.unusedVariables false
set_option linter.unusedSimpArgs false
theorem FK {O:List Int} {W:Int→List Int} {base:List Int}:(rT O W base).length≤O.length:=List.length_filter_le _ _
theorem FL {O:List Int} {W:Int→List Int} {base:List Int} {r:List Int×Bool} (h:nM O W base r):r.1.length≤O.length:=by
 rcases h with ⟨rfl,_⟩ | ⟨rfl,_⟩
 ·exact FK
 ·exact Nat.zero_le _
theorem Jn {h:History} (hS:fT h) {a:Ask}:(oth h a).length≤32:=Nat.le_trans qi hS.len
theorem FM {h:History} (hS:fT h) (hc:aA h=some 0) {a:Ask} (ha:a ∈ dh h h.Txns.length):(zw h a).length≤33:=by
 classical
 obtain ⟨t,p,hk⟩:=yC hS ha;obtain ⟨s,h1,_,h3⟩:=uk hS hc hk;have e:zw h a=s:=by unfold zw; rw [h1]; rfl
 rw [e]
 have hol:=Jn hS (a:=a);unfold uD at h3
 split at h3
 ·rw [h3,List.length_append]
  have:=wy (O:=oth h a) (f:=Win (idx a.Base 0) ((oth h a).map (wro h a)) 0 (fun _=>False) 0) (k:=(oth h a).length)
  split <;> simp <;> omega
 ·split at h3
  ·rw [h3]; simp
  ·split at h3
   ·rw [h3]
    exact Nat.le_trans (List.length_filter_le _ _) (by omega)
   ·split at h3
    ·obtain ⟨r,h4,rfl⟩:=h3
     split <;> simp
    ·obtain ⟨r,h4,rfl⟩:=h3;have:=FL h4
     omega
section
variable {h:History}
end
end Go.Proofs.YtnlkggppokcmfaaT
namespace Go.Proofs.YtnlkggppokcmfaaT
open Go Go.Proofs Go.Proofs.YtnlkggppokcmfaaE
set_option linter.unusedVariables false
set_option linter.unusedSimpArgs false
def pos (l:List Int) (t:Int):Nat:=l.findIdx (fun x=>decide (x=t))
theorem Am {l:List Int} {t:Int}:pos l t < l.length↔t ∈ l:=by
 unfold pos
 rw [List.findIdx_lt_length]
 constructor
 ·rintro ⟨x,hx,h⟩;have:x=t:=by simpa using h
  exact this ▸ hx
 ·intro h;exact ⟨t,h,by simp⟩
theorem xO {l:List Int} {t:Int} (h:t ∈ l):idx l (pos l t:Int)=t:=by
 have hl:=Am.2 h
 rw [bR (n:=pos l t) rfl hl]
 have:=List.findIdx_getElem (xs:=l) (p:=fun x=>decide (x=t)) (w:=hl);exact of_decide_eq_true this
theorem Db {l:List Int} {i j:Nat} (hn:l.Nodup) (hi:i < l.length) (hj:j < l.length) (e:idx l (i:Int)=idx l (j:Int)):i=j:=by
 rw [bR (n:=i) rfl hi,bR (n:=j) rfl hj] at e
 have hp:=List.pairwise_iff_getElem.1 hn;rcases Nat.lt_trichotomy i j with h | h | h
 ·exact absurd e (hp i j hi hj h)
 ·exact h
 ·exact absurd e.symm (hp j i hj hi h)
theorem Kh {l:List Int} (hn:l.Nodup) {j:Nat} (hj:j < l.length):pos l (idx l (j:Int))=j:=by
 have hm:idx l (j:Int) ∈ l:=eH hj;exact Db hn (Am.2 hm) hj (xO hm)
theorem Ki {l:List Int} (hn:l.Nodup) {t:Int} {j:Nat} (hj:j < l.length) (e:idx l (j:Int)=t):pos l t=j:=by rw [← e]; exact Kh hn hj
theorem GN {l:List Int} {k:Nat} {t:Int}:t ∈ l.take k↔∃ j:Nat,j < k∧j < l.length∧idx l (j:Int)=t:=by
 constructor
 ·intro h;obtain ⟨j,hj,e⟩:=List.getElem_of_mem h
  rw [List.length_take] at hj
  refine ⟨j,by omega,by omega,?_⟩
  rw [bR (n:=j) rfl (by omega),← e,List.getElem_take]
 ·rintro ⟨j,h1,h2,e⟩
  rw [bR (n:=j) rfl h2] at e
  rw [← e]
  exact List.mem_iff_getElem.2 ⟨j,by rw [List.length_take]; omega,by rw [List.getElem_take]⟩
structure lZ (h:History) (l:List Int):Prop where
 nd:l.Nodup
 rg:∀ t ∈ l,0≤t∧t < (h.Txns.length:Int)∧(idx h.Txns t).Status≠2
 dn:∀ t:Nat,t < h.Txns.length→(idx h.Txns (t:Int)).Status=1→(t:Int) ∈ l
theorem lZ.len {h:History} {l:List Int} (ho:lZ h l):l.length≤h.Txns.length:=by
 have h1:∀ x ∈ l,x ∈ (List.range h.Txns.length).map (fun j:Nat=>(j:Int)):=fun x hx=>by
  have:=ho.rg x hx;exact List.mem_map.2 ⟨x.toNat,List.mem_range.2 (by omega),by omega⟩
 have:=qj ho.nd h1
 simpa using this
section
variable {h:History} {l:List Int}
abbrev uE (m:List (Int×Int)):List Int:=m.map (·.1)
theorem xc {x v:Int}:∀ {m:List (Int×Int)},uE (fM m x v)=if x ∈ uE m then uE m else uE m++[x]
 | []=>by simp [fM]
 | p::m=>by
  unfold fM
  by_cases e:p.1=x
  ·simp [e]
  ·rw [if_neg e]
   show p.1::uE (fM m x v)=_
   rw [xc]
   have e':¬ x=p.1:=fun h=>e h.symm
   by_cases hx:x ∈ uE m
   ·simp [hx]
   ·simp [hx,e']
theorem EO {x:Int} {m:List (Int×Int)}:jr m x=true↔x ∈ uE m:=by
 unfold jr
 simp [List.any_eq_true]
structure vM (l:List Int) (k:Nat) (m:List (Int×Int)):Prop where
 nd:(uE m).Nodup
 mem:∀ x,x ∈ uE m↔x ∈ l.take k
 at_:∀ j:Nat,j < k→(∀ i:Nat,j < i→i < k→idx l (i:Int)≠idx l (j:Int))→mat m (idx l (j:Int))=(j:Int)
theorem vM.zero:vM l 0 []:=⟨List.nodup_nil,fun x=>by simp,fun j hj=>absurd hj (Nat.not_lt_zero _)⟩
theorem vM.put {k:Nat} {m:List (Int×Int)} (hm:vM l k m) (hk:k < l.length):vM l (k + 1) (fM m (idx l (k:Int)) (k:Int)):=by
 refine ⟨?_,fun x => ?_,fun j hj hno => ?_⟩
 ·rw [xc]
  split
  ·exact hm.nd
  ·rename_i hx
   rw [List.nodup_append]
   exact ⟨hm.nd,by simp,by intro a ha b hb; rw [List.mem_singleton.1 hb]; intro e; exact hx (e ▸ ha)⟩
 ·rw [xc,lW hk,List.mem_append,List.mem_singleton]
  split
  ·rename_i hx
   rw [hm.mem]
   constructor
   ·exact .inl
   ·rintro (h | rfl)
    ·exact h
    ·exact (hm.mem _).1 hx
  ·rw [List.mem_append,List.mem_singleton,hm.mem]
 ·rw [oW]
  split
  ·rename_i e
   rcases Nat.lt_or_ge j k with h1 | h1
   ·exact absurd e.symm (hno k h1 (by omega))
   ·have:j=k:=by omega
    rw [this]
  ·rename_i e
   rcases Nat.lt_or_ge j k with h1 | h1
   ·exact hm.at_ j h1 (fun i h2 h3=>hno i h2 (by omega))
   ·have:j=k:=by omega
    subst this;exact absurd rfl e
theorem vM.len {m:List (Int×Int)} (hm:vM l l.length m):m.length=l.length↔l.Nodup:=by
 have hmem:∀ x,x ∈ uE m↔x ∈ l:=fun x=>by rw [hm.mem,List.take_length]
 have hl:(uE m).length=m.length:=List.length_map _
 constructor
 ·intro he
  apply Classical.byContradiction
  intro hn;have:∃ i j:Nat,i < j∧j < l.length∧idx l (i:Int)=idx l (j:Int):=by
   apply Classical.byContradiction
   intro hno;refine hn (List.pairwise_iff_getElem.2 fun i j hi hj hij e=>hno ⟨i,j,hij,hj,?_⟩)
   rw [bR (n:=i) rfl hi,bR (n:=j) rfl hj,e]
  obtain ⟨i,j,hij,hj,e⟩:=this;have hsub:∀ x ∈ uE m,x ∈ l.eraseIdx j:=fun x hx=>by
   have hx:=(hmem x).1 hx;obtain ⟨q,hq,rfl⟩:=oU hx
   rw [List.mem_eraseIdx_iff_getElem]
   by_cases hqj:q=j
   ·subst hqj;exact ⟨i,by omega,by omega,by rw [← bR (n:=i) rfl (by omega:i < l.length)]; exact e⟩
   ·exact ⟨q,by omega,by omega,(bR (n:=q) rfl hq).symm⟩
  have:=qj hm.nd hsub
  rw [List.length_eraseIdx,if_pos hj] at this
  omega
 ·intro hn;have h1:=qj hm.nd (fun x hx=>(hmem x).1 hx);have h2:=qj hn (fun x hx=>(hmem x).2 hx)
  omega
structure vN (l:List Int) (m:List (Int×Int)):Prop where
 has:∀ x,jr m x=true↔x ∈ l
 at_:∀ x ∈ l,mat m x=(pos l x:Int)
theorem vM.ord {m:List (Int×Int)} (hm:vM l l.length m) (hn:l.Nodup):vN l m:=by
 refine ⟨fun x=>by rw [EO,hm.mem,List.take_length],fun x hx => ?_⟩
 have hl:=Am.2 hx;have:=hm.at_ (pos l x) hl (fun i h1 h2 e=>by have:=Db hn h2 hl e; omega)
 rwa [xO hx] at this
theorem vN.hasB {m:List (Int×Int)} (hm:vN l m) (x:Int):jr m x=decide (x ∈ l):=by
 by_cases hx:x ∈ l
 ·rw [(hm.has x).2 hx,decide_eq_true hx]
 ·rw [decide_eq_false hx]
  cases e:jr m x with
  | false=>rfl
  | true=>exact absurd ((hm.has x).1 e) hx
theorem Bv (a2:h.Txns.length≤32) (hl:l.length < 2 ^ 60):Tri (dU h l) (fun r=>r.1.h=h∧r.1.order=l∧(r.2=true↔lZ h l)∧(r.2=true→vN l r.1.at_)):=by
 unfold dU;refine df (k0:=0) l.length (fun k s=>s.2=(k:Int)∧vM l k s.1∧∀ t ∈ l.take k,0≤t∧t < (h.Txns.length:Int)∧(idx h.Txns t).Status≠2) (Nat.zero_le _) ⟨rfl,vM.zero,fun t ht=>by simp at ht⟩ ?_
 rintro k ⟨m,x⟩ hk ⟨rfl,hm,hrg⟩;have hw:w64 ((k:Int) + 1)=((k + 1:Nat):Int):=aS (by omega);unfold uY pq
 dsimp only at hm ⊢
 rw [hw]
 have bad:∀ t ∈ l,¬ (0≤t∧t < (h.Txns.length:Int)∧(idx h.Txns t).Status≠2) → ¬ lZ h l:=fun t ht hn ho=>hn (ho.rg t ht);have no:∀ {m:List (Int×Int)},¬ lZ h l→(⟨h,l,m⟩:bN).h=h∧(⟨h,l,m⟩:bN).order=l∧((false:Bool)=true↔lZ h l)∧((false:Bool)=true→vN l (⟨h,l,m⟩:bN).at_):=fun hn=>⟨rfl,rfl,⟨fun h=>(nomatch h),fun h=>absurd h hn⟩,fun h=>(nomatch h)⟩;refine aj (fun h1 => ?_) (fun h1 => ?_)
 ·have a0:k < l.length:=by omega
  have hmem:idx l (k:Int) ∈ l:=eH a0;refine ag (by omega) ?_;refine aj (fun h2 => ?_) (fun h2 => ?_)
  ·exact aj (fun _=>av (af (no (bad _ hmem (fun h3=>by omega))))) (fun h3=>absurd trivial h3)
  ·refine aj (fun h3 => ?_) (fun h3 => ?_)
   ·exact aj (fun _=>av (af (no (bad _ hmem (fun h3=>by omega))))) (fun h3=>absurd trivial h3)
   ·refine ag (by omega) ?_;refine aj (fun h4=>av (af (no (bad _ hmem (fun h5=>h5.2.2 h4))))) (fun h4 => ?_);refine af ⟨a0,rfl,hm.put a0,fun t ht => ?_⟩
    rw [lW a0,List.mem_append,List.mem_singleton] at ht
    rcases ht with ht | rfl
    ·exact hrg t ht
    ·exact ⟨by omega,by omega,h4⟩
 ·have:k=l.length:=by omega
  subst this
  rw [List.take_length] at hrg
  refine aj (fun h2 => ?_) (fun h2 => ?_)
  ·exact av (af (no (fun ho=>h2 (by have:=hm.len.2 ho.nd; omega))))
  ·have hnd:l.Nodup:=hm.len.1 (by omega);have hom:=hm.ord hnd;have hb:=hom.hasB
   suffices hs:Tri (iter (rF h l m) 0) (fun y:(List (Int×Int)×Int) ⊕ (bN×Bool)=>∃ b,y = .inr (⟨h,l,m⟩,b)∧(b=true↔lZ h l)) from
    dX hs (by rintro y ⟨b,rfl,hb⟩; exact ⟨rfl,rfl,hb,fun _=>hom⟩)
   refine df (k0:=0) h.Txns.length (fun j s=>s=(j:Int)∧∀ t:Nat,t < j→(idx h.Txns (t:Int)).Status=1→(t:Int) ∈ l) (Nat.zero_le _) ⟨rfl,fun t ht=>absurd ht (Nat.not_lt_zero _)⟩ ?_;rintro j s hj ⟨rfl,hdn⟩;have hw:w64 ((j:Int) + 1)=((j + 1:Nat):Int):=aS (by omega);unfold rF rE
   dsimp only
   rw [hw,hb]
   refine aj (fun h3 => ?_) (fun h3 => ?_)
   ·have a1:j < h.Txns.length:=by omega
    have next:((idx h.Txns (j:Int)).Status=1→(j:Int) ∈ l)→Upm h.Txns.length j (fun j s=>s=(j:Int)∧∀ t:Nat,t < j→(idx h.Txns (t:Int)).Status=1→(t:Int) ∈ l) (fun y:(List (Int×Int)×Int) ⊕ (bN×Bool)=>∃ b,y = .inr (⟨h,l,m⟩,b)∧(b=true↔lZ h l)) (.inl ((j + 1:Nat):Int)):=fun h4=>⟨a1,rfl,fun t ht hst=>by
     rcases Nat.lt_or_ge t j with h5 | h5
     ·exact hdn t h5 hst
     ·have:t=j:=by omega
      subst this;exact h4 hst⟩
    refine ag (by omega) ?_;refine aj (fun h4 => ?_) (fun h4 => ?_)
    ·refine aj (fun h5 => ?_) (fun h5=>af (next (fun h6=>absurd h6 h5)));refine av (av (af ⟨false,rfl,fun h=>(nomatch h),fun ho=>absurd (ho.dn j a1 h5) h4⟩))
    ·refine aj (fun h5=>absurd h5 (by simp)) (fun h5=>af (next (fun _=>Classical.byContradiction h4)))
   ·have:j=h.Txns.length:=by omega
    subst this;exact av (av (af ⟨true,rfl,fun _=>⟨hnd,hrg,hdn⟩,fun _=>rfl⟩))
structure KS (h:History) (l:List Int) (at_:List Int):Prop where
 len:at_.length=h.Txns.length
 at_:∀ t:Nat,t < h.Txns.length→idx at_ (t:Int)=if (t:Int) ∈ l then (pos l (t:Int):Int) + 1 else 0
end
end Go.Proofs.YtnlkggppokcmfaaT
namespace Go.Proofs.YtnlkggppokcmfaaT
open Go Go.Proofs Go.Proofs.YtnlkggppokcmfaaE
set_option linter.unusedVariables false
set_option linter.unusedSimpArgs false
abbrev srt (l:List Int):List Int:=l.mergeSort fun x y=>decide (x≤y)
def But (s:List Int) (k:Nat):Prop:=(∀ i j:Nat,i < j→j < s.length→i≠k→j≠k→idx s (i:Int)≤idx s (j:Int))∧∀ j:Nat,k < j→j < s.length→idx s (k:Int)≤idx s (j:Int)
theorem But.swap {s:List Int} {k:Nat} (hb:But s k) (hk:0 < k) (hl:k < s.length) (h:idx s (k:Int) < idx s ((k - 1:Nat):Int)):But ((s.set k (idx s ((k - 1:Nat):Int))).set (k - 1) (idx s (k:Int))) (k - 1):=by
 have at_:∀ q:Nat,idx ((s.set k (idx s ((k - 1:Nat):Int))).set (k - 1) (idx s (k:Int))) (q:Int)=if q=k - 1 then idx s (k:Int) else if q=k then idx s ((k - 1:Nat):Int) else idx s (q:Int):=fun q=>by
  rw [mG (by rw [List.length_set]; omega),mG hl]
 constructor
 ·intro i j hij hj hi a0
  simp only [List.length_set] at hj
  rw [at_,at_,if_neg hi,if_neg a0]
  by_cases hik:i=k
  ·rw [if_pos hik,if_neg (by omega)]
   exact hb.1 (k - 1) j (by omega) hj (by omega) (by omega)
  ·rw [if_neg hik]
   by_cases hjk:j=k
   ·rw [if_pos hjk]
    exact hb.1 i (k - 1) (by omega) (by omega) hik (by omega)
   ·rw [if_neg hjk]
    exact hb.1 i j hij hj hik hjk
 ·intro j a1 hj
  simp only [List.length_set] at hj
  rw [at_,at_,if_pos rfl,if_neg (by omega)]
  by_cases hjk:j=k
  ·rw [if_pos hjk]; omega
  ·rw [if_neg hjk]; exact hb.2 j (by omega) hj
def fin (ty:Int) (w:List Int):List Int:=if ty=1 then w.drop (w.length - 1) else if ty=3 then srt w else if ty=4 then [w64 w.sum] else w
theorem Jo {ty:Int} {w:List Int}:(fin ty w).length≤w.length + 1:=by
 unfold fin
 split
 ·rw [List.length_drop]; omega
 ·split
  ·rw [List.length_mergeSort]; omega
  ·split
   ·simp
   ·omega
theorem GQ {α:Type} (l:List α) {n:Nat} (hn:n≤l.length):dA l (n:Int) (l.length:Int)=l.drop n:=by
 unfold dA
 rw [Int.toNat_natCast,Int.toNat_natCast,List.take_length]
theorem Dc {st:bN} {key ty:Int} {w:List Int} (hT:eB st.h key=some ty) (hw:w.length < 2 ^ 40):gq st key w=some (fin ty w):=by
 refine eX.1 ?_;unfold gq;refine bU hT ?_;unfold fin;refine aj (fun h1 => ?_) (fun h1 => ?_)
 ·rw [if_pos h1]
  have e:zz 0 (w64 ((w.length:Int) - 1))=((w.length - 1:Nat):Int):=by
   rw [pY (by omega) (by omega)]
   unfold zz
   split <;> omega
  rw [e]
  refine ag (by omega) (af ?_);exact GQ w (by omega)
 ·rw [if_neg h1]
  refine aj (fun h2 => ?_) (fun h2 => ?_)
  ·rw [if_pos h2]
   unfold ny iK
   rw [jv _ (by omega)]
   exact bJ (af rfl)
  ·rw [if_neg h2]
   refine aj (fun h3 => ?_) (fun h3 => ?_)
   ·rw [if_pos h3]
    refine df (k0:=0) w.length (fun k s=>s.2=(k:Int)∧s.1=ui 0 (w.take k)) (Nat.zero_le _) ⟨rfl,rfl⟩ ?_;rintro k ⟨x,i⟩ hk ⟨rfl,hx⟩
    dsimp only at hx
    have hw:w64 ((k:Int) + 1)=((k + 1:Nat):Int):=aS (by omega);unfold kJ
    dsimp only
    rw [hw]
    refine aj (fun h4 => ?_) (fun h4 => ?_)
    ·have a0:k < w.length:=by omega
     exact ag (by omega) (af ⟨a0,rfl,by dsimp only; rw [yF a0,hx]⟩)
    ·have:k=w.length:=by omega
     subst this;refine av (af ?_)
     rw [hx,List.take_length,yI]
     rfl
   ·rw [if_neg h3]
    exact af rfl
def wrs (h:History) (l:List Int) (key:Int):List Int:=l.flatMap (fun o=>eP h o key)
def qO (h:History) (l:List Int) (key t:Int):List Int:=if 0≤t then wrs h (l.take (pos l t + 1)) key else []
section
variable {h:History} {l:List Int}
theorem De {key:Int} {k:Nat} (hk:k < l.length):wrs h (l.take (k + 1)) key=wrs h (l.take k) key++eP h (idx l (k:Int)) key:=by
 unfold wrs
 rw [lW hk,List.flatMap_append]
 simp
theorem KI (hS:fT h) {o key:Int} (ho:0≤o∧o < (h.Txns.length:Int)):(eP h o key).length≤16:=by
 obtain ⟨n,rfl⟩:∃ n:Nat,o=(n:Int):=⟨o.toNat,by omega⟩
 exact Nat.le_trans vJ (hS.txn n (by omega)).ops.1
theorem zK (hS:fT h) (ho:lZ h l) {key:Int}:∀ k,k≤l.length→(wrs h (l.take k) key).length≤16 * k
 | 0,_=>by simp [wrs]
 | k + 1,hk=>by
  have h1:=zK hS ho (key:=key) k (by omega);have h2:=ho.rg _ (eH (show k < l.length by omega));have h3:=KI hS (key:=key) ⟨h2.1,h2.2.1⟩
  rw [De (by omega),List.length_append]
  omega
theorem Df (hS:fT h) (ho:lZ h l) {key t:Int}:(qO h l key t).length≤512:=by
 unfold qO
 split
 ·have h1:=ho.len;have h2:=hS.len;rcases Nat.lt_or_ge (pos l t) l.length with h3 | h3
  ·have:=zK hS ho (key:=key) (pos l t + 1) (by omega)
   omega
  ·have:=zK hS ho (key:=key) l.length (Nat.le_refl _)
   rw [List.take_of_length_le (by omega)]
   rw [List.take_length] at this
   omega
 ·simp
theorem xP (hS:fT h) (ho:lZ h l) {m:List (Int×Int)} (hm:vN l m) {key ty t:Int} (hT:eB h key=some ty) (ht:t < 0∨t ∈ l) :
  ax ⟨h,l,m⟩ key t=some (fin ty (qO h l key t)):=by
 have hll:=ho.len;have a4:=hS.len;have ha:=Df hS ho (key:=key) (t:=t);refine eX.1 ?_;unfold ax;refine aj (fun h1 => ?_) (fun h1 => ?_)
 ·have htm:t ∈ l:=by rcases ht with h | h; omega; exact h
  have hp:=Am.2 htm;have e:w64 (mat m t + 1)=((pos l t + 1:Nat):Int):=by rw [hm.at_ t htm]; exact aS (by omega)
  dsimp only
  rw [e]
  refine ag (by omega) ?_;have haa:qO h l key t=wrs h (l.take (pos l t + 1)) key:=if_pos (by omega)
  rw [haa] at ha ⊢
  refine df (k0:=0) (pos l t + 1) (fun k s=>s=(wrs h (l.take k) key,(k:Int))) (Nat.zero_le _) rfl ?_;rintro k s hk rfl;have hw:w64 ((k:Int) + 1)=((k + 1:Nat):Int):=aS (by omega);have hkl:=zK hS ho (key:=key) k (by omega);have hsub:dA l (0:Int) ((pos l t + 1:Nat):Int)=l.take (pos l t + 1):=jZ (by omega);unfold kM
  dsimp only
  rw [e,hsub,List.length_take,Nat.min_eq_left (by omega)]
  refine aj (fun h2 => ?_) (fun h2 => ?_)
  ·have a1:k < pos l t + 1:=by omega
   rw [qP a1]
   have hr:=ho.rg _ (eH (show k < l.length by omega));refine ag (by omega) (ag ⟨hr.1,hr.2.1⟩ ?_);have a3:(idx h.Txns (idx l (k:Int))).Ops.length≤16:=by
    obtain ⟨n,hn⟩:∃ n:Nat,idx l (k:Int)=(n:Int):=⟨(idx l (k:Int)).toNat,by omega⟩
    rw [hn] at hr ⊢
    exact (hS.txn n (by omega)).ops.1
   refine df (k0:=0) (idx h.Txns (idx l (k:Int))).Ops.length (fun p s=>s=(wrs h (l.take k) key++qM (idx h.Txns (idx l (k:Int))).Ops key p,(p:Int))) (Nat.zero_le _) (by rw [Fx,List.append_nil]; rfl) ?_;rintro p s a5 rfl;have a2:w64 ((p:Int) + 1)=((p + 1:Nat):Int):=aS (by omega);have hol:=vH (ops:=(idx h.Txns (idx l (k:Int))).Ops) (key:=key) (p:=p);unfold kK iM iL
   dsimp only
   rw [e,hsub,qP a1,a2]
   refine aj (fun h3 => ?_) (fun h3 => ?_)
   ·have a0:p < (idx h.Txns (idx l (k:Int))).Ops.length:=by omega
    have hos:=wh (key:=key) a0;refine ag (by omega) ?_;refine aj (fun h4 => ?_) (fun h4 => ?_)
    ·refine aj (fun h5 => ?_) (fun h5 => ?_)
     ·refine ag (by rw [List.length_append]; omega) (af ⟨a0,?_⟩)
      rw [if_pos ⟨h4,h5⟩] at hos
      rw [hos,List.append_assoc]
     ·refine af ⟨a0,?_⟩
      rw [if_neg (fun h=>h5 h.2)] at hos
      rw [hos]
    ·refine aj (fun h5=>absurd h5 (by simp)) (fun h5=>af ⟨a0,?_⟩)
     rw [if_neg (fun h=>h4 h.1)] at hos
     rw [hos]
   ·have:p=(idx h.Txns (idx l (k:Int))).Ops.length:=by omega
    subst this;refine av (af ⟨a1,?_⟩)
    dsimp only
    rw [hw,De (by omega)]
    rfl
  ·have:k=pos l t + 1:=by omega
   subst this;exact av (eX.2 (Dc hT (by omega)))
 ·have haa:qO h l key t=[]:=if_neg (by omega)
  rw [haa]
  exact eX.2 (Dc hT (by simp))
end
end Go.Proofs.YtnlkggppokcmfaaT
namespace Go.Proofs.YtnlkggppokcmfaaT
open Go Go.Proofs Go.Proofs.YtnlkggppokcmfaaE
set_option linter.unusedVariables false
set_option linter.unusedSimpArgs false
theorem GR {m:List (Int×Int)} {x:Int} (h:jr m x=false):mat m x=0 :=
 (tC (fun k hk e=>by
  have:=EO.2 (e ▸ hk)
  rw [h] at this
  cases this)).1
theorem GU {h:History} {a:Ask} (ha:a ∈ dh h h.Txns.length):∃ t:Nat,a.Txn=(t:Int)∧t < h.Txns.length∧(idx h.Txns (t:Int)).Status=1:=by
 unfold dh at ha;obtain ⟨t,ht,ha⟩:=List.mem_flatMap.1 ha;have ht:=List.mem_range.1 ht;unfold sJ at ha
 split at ha
 case isFalse=>cases ha
 case isTrue hst =>
 unfold qN at ha;obtain ⟨p,hp,ha⟩:=List.mem_flatMap.1 ha;refine ⟨t,?_,ht,hst⟩;unfold yT at ha
 dsimp only at ha
 split at ha
 ·cases ha
 ·split at ha
  ·rw [List.mem_singleton] at ha
   rw [ha]
  ·split at ha
   ·rw [List.mem_singleton] at ha
    rw [ha]
   ·cases ha
def GV (h:History) (l:List Int):Prop:=∀ i k:Nat,k < i→i < h.Txns.length→(idx h.Txns (i:Int)).Proc=(idx h.Txns (k:Int)).Proc→(i:Int) ∈ l→(k:Int) ∈ l→pos l (k:Int) < pos l (i:Int)
def Ahead (h:History) (l:List Int) (a:Ask) (p:Int):Prop:=p ∈ l∧pos l p < pos l a.Txn∧0 < (eP h p a.Key).length
def kd (h:History) (a:Ask):Int:=typ (opAt h a.Txn a.Place).Kind
def ver (h:History) (l:List Int) (a:Ask) (p:Int):List Int:=fin (kd h a) (qO h l a.Key p)
open Classical in
noncomputable def pQ (h:History) (l:List Int) (a:Ask) (p:Int):Int:=if p ≠ -1 ∧ ¬ Ahead h l a p then 5 else if ver h l a p≠a.Base then 6 else 0
def First (n:Nat) (v:Nat→Int) (r:Int):Prop:=(r=0∧∀ i,i < n→v i=0)∨(∃ i,i < n∧v i=r∧r≠0∧∀ j,j < i→v j=0)
theorem First.det {n:Nat} {v:Nat→Int} {r s:Int} (h1:First n v r) (h2:First n v s):r=s:=by
 rcases h1 with ⟨rfl,h1⟩ | ⟨i,hi,e1,n1,b1⟩ <;> rcases h2 with ⟨rfl,h2⟩ | ⟨j,hj,e2,n2,b2⟩
 ·rfl
 ·exact absurd (e2.symm.trans (h1 j hj)) n2
 ·exact absurd (e1.symm.trans (h2 i hi)) n1
 ·rcases Nat.lt_trichotomy i j with h | h | h
  ·exact absurd (e1.symm.trans (b2 i h)) n1
  ·subst h; exact e1.symm.trans e2
  ·exact absurd (e2.symm.trans (b1 j h)) n2
theorem First.congr {n:Nat} {v u:Nat→Int} {r:Int} (h:First n v r) (e:∀ i,i < n→v i=u i):First n u r:=by
 rcases h with ⟨h1,h2⟩ | ⟨i,hi,e1,n1,b1⟩
 ·exact .inl ⟨h1,fun i hi=>(e i hi).symm.trans (h2 i hi)⟩
 ·exact .inr ⟨i,hi,(e i hi).symm.trans e1,n1,fun j hj=>(e j (by omega)).symm.trans (b1 j hj)⟩
inductive Why (h:History) (x:Exec):Int→Prop
 | bad:iF h h.Txns.length≠[]→Why h x 1
 | order:iF h h.Txns.length=[] → ¬ lZ h x.Order→Why h x 2
 | picks:iF h h.Txns.length=[]→lZ h x.Order→x.Picks.length≠(dh h h.Txns.length).length→Why h x 3
 | sess:iF h h.Txns.length=[]→lZ h x.Order→x.Picks.length=(dh h h.Txns.length).length → ¬ GV h x.Order→Why h x 4
 | pick {r:Int}:iF h h.Txns.length=[]→lZ h x.Order→x.Picks.length=(dh h h.Txns.length).length→GV h x.Order →
   First (dh h h.Txns.length).length (fun i=>pQ h x.Order (idx (dh h h.Txns.length) (i:Int)) (idx x.Picks (i:Int))) r→Why h x r
theorem Why.det {h:History} {x:Exec} {r s:Int} (h1:Why h x r) (h2:Why h x s):r=s:=by
 cases h1 <;> cases h2 <;> first | rfl | contradiction | exact First.det ‹_› ‹_›
section
variable {h:History} {l:List Int} {m:List (Int×Int)}
theorem Ei (hS:fT h) (hc:aA h=some 0) (ho:lZ h l) (hm:vN l m) {a:Ask} (ha:a ∈ dh h h.Txns.length) {p:Int}:Tri (eD ⟨h,l,m⟩ a p) (fun r=>r=true↔Ahead h l a p):=by
 obtain ⟨t,et,ht,hst⟩:=GU ha;have htl:=ho.dn t ht hst;unfold eD jF
 dsimp only
 rw [hm.hasB]
 refine aj (fun h1 => ?_) (fun h1 => ?_)
 ·rw [cond_true]
  exact af ⟨fun h=>(nomatch h),fun h2=>absurd h2.1 h1⟩
 ·have hp:p ∈ l:=Classical.byContradiction h1
  rw [hm.at_ p hp,et,hm.at_ _ htl]
  refine aj (fun h2=>af ⟨fun h=>(nomatch h),fun h3 => ?_⟩) (fun h2 => ?_)
  ·have:=h3.2.1
   rw [et] at this
   omega
  ·refine bU (Ad hS hc) (af ?_);have hr:=ho.rg p hp
   rw [if_pos ⟨hr.1,hr.2.1⟩]
   dsimp only
   rw [decide_eq_true_iff]
   exact ⟨fun h3=>⟨hp,by rw [et]; omega,h3⟩,fun h3=>h3.2.2⟩
theorem FN (ho:lZ h l) (a1:h.Txns.length≤32) (hm:vN l m):Tri (aX ⟨h,l,m⟩) (fun r=>r=true↔GV h l):=by
 unfold aX;refine df (k0:=0) h.Txns.length (fun k s=>s.2=(k:Int)∧(∀ t:Nat,t < k→(t:Int) ∈ l→jr s.1 (idx h.Txns (t:Int)).Proc=true∧(pos l (t:Int):Int)≤mat s.1 (idx h.Txns (t:Int)).Proc) ∧
  (∀ q,jr s.1 q=true→∃ t:Nat,t < k∧(t:Int) ∈ l∧(idx h.Txns (t:Int)).Proc=q∧mat s.1 q=(pos l (t:Int):Int)) ∧
  ∀ i j:Nat,j < i→i < k→(idx h.Txns (i:Int)).Proc=(idx h.Txns (j:Int)).Proc→(i:Int) ∈ l→(j:Int) ∈ l→pos l (j:Int) < pos l (i:Int)) (Nat.zero_le _)
  ⟨rfl,fun t ht=>absurd ht (Nat.not_lt_zero _),fun q hq=>(by rw [Dk] at hq; cases hq),fun i j h1 h2=>absurd h2 (Nat.not_lt_zero _)⟩ ?_
 rintro k ⟨s,x⟩ hk ⟨rfl,i1,i2,i3⟩;have hw:w64 ((k:Int) + 1)=((k + 1:Nat):Int):=aS (by omega)
 dsimp only at i1 i2 i3
 unfold jS iA iy
 dsimp only
 rw [hw,hm.hasB]
 refine aj (fun h1 => ?_) (fun h1 => ?_)
 ·have a0:k < h.Txns.length:=by omega
  refine ag (by omega) ?_;refine aj (fun h2 => ?_) (fun h2 => ?_)
  ·refine af ⟨a0,rfl,fun t ht htl => ?_,fun q hq => ?_,fun i j hij hi hp hil hjl => ?_⟩
   ·have:t≠k:=fun e=>h2 (e ▸ htl);exact i1 t (by omega) htl
   ·obtain ⟨t,q1,q2⟩:=i2 q hq;exact ⟨t,by omega,q2⟩
   ·have:i≠k:=fun e=>h2 (e ▸ hil);exact i3 i j hij (by omega) hp hil hjl
  ·have hkl:(k:Int) ∈ l:=Classical.byContradiction h2
   rw [hm.at_ _ hkl]
   have go:(∀ t:Nat,t < k→(t:Int) ∈ l→(idx h.Txns (k:Int)).Proc=(idx h.Txns (t:Int)).Proc→pos l (t:Int) < pos l (k:Int)) →
     Upm h.Txns.length k (fun k s=>s.2=(k:Int)∧(∀ t:Nat,t < k→(t:Int) ∈ l→jr s.1 (idx h.Txns (t:Int)).Proc=true∧(pos l (t:Int):Int)≤mat s.1 (idx h.Txns (t:Int)).Proc) ∧
      (∀ q,jr s.1 q=true→∃ t:Nat,t < k∧(t:Int) ∈ l∧(idx h.Txns (t:Int)).Proc=q∧mat s.1 q=(pos l (t:Int):Int)) ∧
      ∀ i j:Nat,j < i→i < k→(idx h.Txns (i:Int)).Proc=(idx h.Txns (j:Int)).Proc→(i:Int) ∈ l→(j:Int) ∈ l→pos l (j:Int) < pos l (i:Int)) (fun r=>r=true↔GV h l)
      (.inl (fM s (idx h.Txns (k:Int)).Proc (zz (pos l (k:Int):Int) (mat s (idx h.Txns (k:Int)).Proc)),((k + 1:Nat):Int))):=fun hno=>by
    have hmax:zz (pos l (k:Int):Int) (mat s (idx h.Txns (k:Int)).Proc)=(pos l (k:Int):Int):=by
     unfold zz
     split
     ·rename_i hlt
      by_cases hh:jr s (idx h.Txns (k:Int)).Proc=true
      ·obtain ⟨t,q1,q2,q3,q4⟩:=i2 _ hh;have:=hno t q1 q2 q3.symm
       omega
      ·have e0:mat s (idx h.Txns (k:Int)).Proc=0:=GR (by simpa using hh)
       omega
     ·rfl
    rw [hmax]
    refine ⟨a0,rfl,fun t ht htl => ?_,fun q hq => ?_,fun i j hij hi hp hil hjl => ?_⟩
    ·dsimp only
     rw [vQ,oW]
     by_cases hp:(idx h.Txns (t:Int)).Proc=(idx h.Txns (k:Int)).Proc
     ·rw [if_pos hp]
      refine ⟨.inl hp,?_⟩
      by_cases htk:t=k
      ·rw [htk]; omega
      ·have:=hno t (by omega) htl hp.symm
       omega
     ·rw [if_neg hp]
      have htk:t≠k:=fun e=>hp (by rw [e]);obtain ⟨q1,q2⟩:=i1 t (by omega) htl;exact ⟨.inr q1,q2⟩
    ·dsimp only at hq ⊢
     rw [vQ] at hq
     rw [oW]
     by_cases hp:q=(idx h.Txns (k:Int)).Proc
     ·rw [if_pos hp]
      exact ⟨k,by omega,hkl,hp.symm,rfl⟩
     ·rw [if_neg hp]
      rcases hq with hq | hq
      ·exact absurd hq hp
      ·obtain ⟨t,q1,q2⟩:=i2 q hq;exact ⟨t,by omega,q2⟩
    ·rcases Nat.lt_or_ge i k with h5 | h5
     ·exact i3 i j hij h5 hp hil hjl
     ·have:i=k:=by omega
      subst this;exact hno j hij hjl hp
   refine aj (fun h3 => ?_) (fun h3 => ?_)
   ·obtain ⟨t,q1,q2,q3,q4⟩:=i2 _ h3;refine aj (fun h4 => ?_) (fun h4=>af (go (fun u hu hul hpu => ?_)))
    ·refine av (af ⟨fun h=>(nomatch h),fun hs => ?_⟩);have:=hs k t q1 a0 q3.symm hkl q2
     omega
    ·have h5:=(i1 u hu hul).2
     rw [← hpu] at h5
     have h6:pos l (u:Int)≠pos l (k:Int):=fun e=>by
      have h7:=xO hul
      rw [e,xO hkl] at h7
      omega
     omega
   ·refine aj (fun h4=>absurd h4 (by simp)) (fun h4=>af (go (fun u hu hul hpu => ?_)));have h5:=(i1 u hu hul).1
    rw [← hpu] at h5
    exact absurd h5 h3
 ·have:k=h.Txns.length:=by omega
  subst this;exact av (af ⟨fun _=>i3,fun _=>rfl⟩)
theorem JZ {a:Ask} {t p:Nat} (hk:CU h a t p):kd h a=typ (opAt h (t:Int) (p:Int)).Kind:=by
 unfold kd
 rw [hk.e1,hk.e2]
theorem Dg (hS:fT h) (hc:aA h=some 0) {a:Ask} (ha:a ∈ dh h h.Txns.length):eB h a.Key=some (kd h a):=by
 obtain ⟨t,p,hk⟩:=yC hS ha
 rw [JZ hk]
 exact Bl hS hc hk.tl hk.pl hk.e3.symm
theorem Jp (hS:fT h) (ho:lZ h l) {a:Ask} {p:Int}:(ver h l a p).length≤513:=by
 have h1:=Jo (ty:=kd h a) (w:=qO h l a.Key p);have h2:=Df hS ho (key:=a.Key) (t:=p);unfold ver
 omega
theorem GX (hs:sI h) (hS:fT h) (hc:aA h=some 0) {x:Exec} (hl:x.Order.length < 2 ^ 50) (hpl:x.Picks.length < 2 ^ 50):Tri (eF h x) (fun r=>r.2=0∧Why h x r.1):=by
 have a1:=hS.len;obtain ⟨n1,n2,_⟩:=wo hS h.Txns.length (Nat.le_refl _);have hA:gY h=some (dh h h.Txns.length,0):=by unfold gY; rw [xM hs hS hc]; rfl
 have hB:sO h=some (iF h h.Txns.length,0):=by unfold sO; rw [xM hs hS hc]; rfl
 unfold eF;refine bU hA ?_;refine aj (fun h1=>absurd rfl h1) (fun _ => ?_);refine bU hB ?_;refine aj (fun h1 => ?_) (fun h1 => ?_)
 ·exact af ⟨rfl,.bad (fun e=>by dsimp only at h1; rw [e] at h1; simp at h1)⟩
 have hsp:iF h h.Txns.length=[]:=List.length_eq_zero_iff.1 (by dsimp only at h1; omega);refine dO (Bv a1 (by omega)) (fun r hr => ?_);obtain ⟨⟨rh,ro,rm⟩,rb⟩:=r;obtain ⟨e1,e2,e3,e4⟩:=hr
 dsimp only at e1 e2 e3 e4
 subst e1 e2;refine aj (fun h2 => ?_) (fun h2 => ?_)
 ·exact af ⟨rfl,.order hsp (fun ho=>h2 (e3.2 ho))⟩
 have ho:=e3.1 (by simpa using h2);have hm:=e4 (by simpa using h2)
 dsimp only
 refine aj (fun h3 => ?_) (fun h3 => ?_)
 ·exact af ⟨rfl,.picks hsp ho (fun e=>h3 (by rw [e]))⟩
 have hpe:x.Picks.length=(dh rh rh.Txns.length).length:=by
  have:¬ ¬ ((x.Picks.length:Int)=((dh rh rh.Txns.length).length:Int)):=h3
  omega
 refine dO (FN ho a1 hm) (fun b hb => ?_);refine aj (fun h4 => ?_) (fun h4 => ?_)
 ·exact af ⟨rfl,.sess hsp ho hpe (fun hq=>h4 (hb.2 hq))⟩
 have hq:=hb.1 (by simpa using h4);generalize hAs:dh rh rh.Txns.length=aL at hpe n1 hA
 suffices hloop:Tri (iter (rH x (aL,0) (⟨rh,x.Order,rm⟩,rb)) 0) (fun r=>r.2=0∧First aL.length (fun i=>pQ rh x.Order (idx aL (i:Int)) (idx x.Picks (i:Int))) r.1) from
  dX hloop (fun r hr=>⟨hr.1,.pick hsp ho (by rw [hAs]; exact hpe) hq (by rw [hAs]; exact hr.2)⟩)
 refine df (k0:=0) aL.length (fun k s=>s=(k:Int)∧∀ i,i < k→pQ rh x.Order (idx aL (i:Int)) (idx x.Picks (i:Int))=0) (Nat.zero_le _) ⟨rfl,fun i hi=>absurd hi (Nat.not_lt_zero _)⟩ ?_;rintro k s hk ⟨rfl,hz⟩;have hw:w64 ((k:Int) + 1)=((k + 1:Nat):Int):=aS (by omega);unfold rH rG
 dsimp only
 rw [hw]
 refine aj (fun h5 => ?_) (fun h5 => ?_)
 ·have a0:k < aL.length:=by omega
  have ham:idx aL (k:Int) ∈ dh rh rh.Txns.length:=by rw [hAs]; exact Al a0
  refine ag (by omega) (ag (by omega) ?_);generalize hpv:idx x.Picks (k:Int)=p;have tail:(p ≠ -1→Ahead rh x.Order (idx aL (k:Int)) p)→Tri (must (0≤(k:Int)∧(k:Int) < (x.Picks.length:Int)) ((ax ⟨rh,x.Order,rm⟩ ((idx aL (k:Int)).Key) p).bind fun y=>(dB y ((idx aL (k:Int)).Base)).bind fun z=>bif !z then out (some (6,0)) else (some (.inl ((k + 1:Nat):Int)))))
    (Upm aL.length k (fun k s=>s=(k:Int)∧∀ i,i < k→pQ rh x.Order (idx aL (i:Int)) (idx x.Picks (i:Int))=0) (fun r:Int×Int=>r.2=0∧First aL.length (fun i=>pQ rh x.Order (idx aL (i:Int)) (idx x.Picks (i:Int))) r.1)):=fun hah=>by
   have hv:ax ⟨rh,x.Order,rm⟩ ((idx aL (k:Int)).Key) p=some (ver rh x.Order (idx aL (k:Int)) p) :=
    xP hS ho hm (Dg hS hc ham) (by
     by_cases hp:p = -1
     ·left; omega
     ·exact .inr (hah hp).1)
   have hvl:=Jp hS ho (a:=idx aL (k:Int)) (p:=p);refine ag (by omega) (bU hv (bU (uf (by omega)) ?_));refine aj (fun h6 => ?_) (fun h6 => ?_)
   ·refine av (af ⟨rfl,.inr ⟨k,a0,?_,by decide,hz⟩⟩)
    show pQ rh x.Order (idx aL (k:Int)) (idx x.Picks (k:Int))=6
    rw [hpv]
    unfold pQ
    rw [if_neg (fun h=>h.2 (hah h.1)),if_pos h6]
   ·refine af ⟨a0,rfl,fun i hi => ?_⟩;rcases Nat.lt_or_ge i k with h7 | h7
    ·exact hz i h7
    ·have:i=k:=by omega
     subst this
     rw [hpv]
     unfold pQ
     rw [if_neg (fun h=>h.2 (hah h.1)),if_neg h6]
  refine aj (fun h6 => ?_) (fun h6 => ?_)
  ·refine dO (Ei hS hc ho hm ham) (fun b hb => ?_);refine aj (fun h7 => ?_) (fun h7 => ?_)
   ·refine av (af ⟨rfl,.inr ⟨k,a0,?_,by decide,hz⟩⟩)
    show pQ rh x.Order (idx aL (k:Int)) (idx x.Picks (k:Int))=5
    rw [hpv]
    unfold pQ
    rw [if_pos ⟨h6,fun h=>h7 (hb.2 h)⟩]
   ·exact tail (fun _=>hb.1 (by simpa using h7))
  ·rw [cond_false]
   exact tail (fun h=>absurd h h6)
 ·have:k=aL.length:=by omega
  subst this;exact av (af ⟨rfl,.inl ⟨rfl,hz⟩⟩)
theorem Jq (hc:aA h=some 1) {x:Exec}:eF h x=some (0,1):=by
 unfold eF gY jJ
 rw [hc]
 rfl
end
end Go.Proofs.YtnlkggppokcmfaaT
namespace Go.Proofs.YtnlkggppokcmfaaT
open Go Go.Proofs Go.Proofs.YtnlkggppokcmfaaE
set_option linter.unusedVariables false
set_option linter.unusedSimpArgs false
section
variable {h:History} {l:List Int}
end
end Go.Proofs.YtnlkggppokcmfaaT
namespace Go.Proofs.YtnlkggppokcmfaaT
open Go Go.Proofs Go.Proofs.YtnlkggppokcmfaaE
set_option linter.unusedVariables false
set_option linter.unusedSimpArgs false
abbrev XG (x:Exec):Prop:=((∀ y ∈ (x).Order,(Lit.int .i64 y).wf=true)∧((x).Order).length * 8≤140737488351232)∧((∀ y ∈ (x).Picks,(Lit.int .i64 y).wf=true)∧((x).Picks).length * 8≤140737488351232)
section
variable {h:History} {x:Exec}
structure KT (h:History) (x:Exec):Prop where
 sp:iF h h.Txns.length=[]
 ord:lZ h x.Order
 len:x.Picks.length=(dh h h.Txns.length).length
 sess:GV h x.Order
 pick:∀ i,i < (dh h h.Txns.length).length→pQ h x.Order (idx (dh h h.Txns.length) (i:Int)) (idx x.Picks (i:Int))=0
theorem Jr {r:Int} (hw:Why h x r):r=0↔KT h x:=by
 constructor
 ·intro e;cases hw with
  | bad=>cases e
  | order=>cases e
  | picks=>cases e
  | sess=>cases e
  | pick h1 h2 h3 h4 h5 =>
   rcases h5 with ⟨_,h5⟩ | ⟨_,_,_,n,_⟩
   ·exact ⟨h1,h2,h3,h4,h5⟩
   ·exact absurd e n
 ·intro hf;exact Why.det hw (.pick hf.sp hf.ord hf.len hf.sess (.inl ⟨rfl,hf.pick⟩))
theorem FO {l:List Int} {a:Ask} {p:Int}:pQ h l a p=0↔(p = -1∨Ahead h l a p)∧ver h l a p=a.Base:=by
 unfold pQ
 by_cases h1:p ≠ -1 ∧ ¬ Ahead h l a p
 ·rw [if_pos h1]
  exact ⟨fun e=>(nomatch e),fun h2=>absurd h2.1 (fun h3=>h3.elim h1.1 h1.2)⟩
 ·rw [if_neg h1]
  have h1':p = -1∨Ahead h l a p:=by
   by_cases hp:p = -1
   ·exact .inl hp
   ·exact .inr (Classical.byContradiction fun h2=>h1 ⟨hp,h2⟩)
  by_cases h2:ver h l a p≠a.Base
  ·rw [if_pos h2]
   exact ⟨fun e=>(nomatch e),fun h3=>absurd h3.2 h2⟩
  ·rw [if_neg h2]
   exact ⟨fun _=>⟨h1',Classical.byContradiction h2⟩,fun _=>rfl⟩
theorem Kj (hs:sI h) (hl:x.Order.length < 2 ^ 50) (hpl:x.Picks.length < 2 ^ 50):Tri (eF h x) (fun r=>(r=(0,1)∧aA h=some 1)∨(r.2=0∧fT h∧aA h=some 0∧Why h x r.1)):=by
 obtain ⟨v,hv,hv',a0,hiff⟩:=Ed hs;rcases a0 with rfl | rfl
 ·exact dX (GX hs (hiff.1 rfl) hv hl hpl) (fun r hr => .inr ⟨hr.1,hiff.1 rfl,hv,hr.2⟩)
 ·exact JF (Jq hv) (.inl ⟨rfl,hv⟩)
theorem yJ {l:List Int} {x:Int} (hl:l.length < 2 ^ 60):dD l x=some (decide (x ∈ l)):=by
 refine ER.1 ?_;unfold dD;refine df (k0:=0) l.length (fun k s=>s=(k:Int)∧∀ j:Nat,j < k→idx l (j:Int)≠x) (Nat.zero_le _) ⟨rfl,fun j h=>absurd h (Nat.not_lt_zero _)⟩ ?_;rintro k s hk ⟨rfl,hno⟩;have hw:w64 ((k:Int) + 1)=((k + 1:Nat):Int):=aS (by omega);unfold nz
 dsimp only
 rw [hw]
 refine aj (fun h1 => ?_) (fun h1 => ?_)
 ·have a0:k < l.length:=by omega
  refine ag (by omega) ?_;refine aj (fun h2 => ?_) (fun h2 => ?_)
  ·refine av (af ⟨fun _ => ?_,fun _=>rfl⟩)
   rw [← h2]
   exact eH a0
  ·refine af ⟨a0,rfl,fun j hj => ?_⟩;rcases Nat.lt_or_ge j k with h3 | h3
   ·exact hno j h3
   ·have:j=k:=by omega
    subst this;exact h2
 ·have:k=l.length:=by omega
  subst this;refine av (af ⟨fun h=>(nomatch h),fun h => ?_⟩);obtain ⟨j,hj,e⟩:=oU h;exact absurd e (hno j hj)
theorem GY {a b:List Int} (hb:0 < b.length):(a++b).drop ((a++b).length - 1)=b.drop (b.length - 1):=by
 rw [List.length_append,List.drop_append,List.drop_eq_nil_of_le (by omega),List.nil_append]
 congr 1
 omega
end
end Go.Proofs.YtnlkggppokcmfaaT
namespace Go.Proofs.YtnlkggppokcmfaaT
open Go Go.Proofs Go.Proofs.YtnlkggppokcmfaaE
set_option linter.unusedVariables false
set_option linter.unusedSimpArgs false
theorem yY.one {O:List Int} {W:Int→List Int} (hP:Parts O W):∀ {m n:List Int},(∀ t ∈ m,t ∈ O)→(∀ t ∈ n,t ∈ O)→m.flatMap W=n.flatMap W→m=n
 | [],[],_,_,_=>rfl
 | [],u::n,_,h2,e=>by
  have:=hP.ne u (h2 u (by simp));have e2:=congrArg List.length e
  rw [List.flatMap_nil,List.flatMap_cons,List.length_append,List.length_nil] at e2
  omega
 | u::m,[],h1,_,e=>by
  have:=hP.ne u (h1 u (by simp));have e2:=congrArg List.length e
  rw [List.flatMap_nil,List.flatMap_cons,List.length_append,List.length_nil] at e2
  omega
 | u::m,v::n,h1,h2,e=>by
  have hu:=hP.ne u (h1 u (by simp));have hv:=hP.ne v (h2 v (by simp))
  rw [List.flatMap_cons,List.flatMap_cons] at e
  have e0:(W u)[0]=(W v)[0]:=by
   have:=congrArg (fun l=>l[0]?) e
   simp only [List.getElem?_append_left hu,List.getElem?_append_left hv] at this
   rw [List.getElem?_eq_getElem hu,List.getElem?_eq_getElem hv] at this
   exact Option.some.inj this
  have huv:u=v:=hP.ap u (h1 u (by simp)) v (h2 v (by simp)) (W u)[0] (List.getElem_mem _) (by rw [e0]; exact List.getElem_mem _);subst huv
  rw [List.append_cancel_left_eq] at e
  rw [yY.one hP (fun t ht=>h1 t (by simp [ht])) (fun t ht=>h2 t (by simp [ht])) e]
section
variable {h:History} {x:Exec}
theorem Js (hS:fT h) (hc:aA h=some 0) {a:Ask} {t p:Nat} (hk:CU h a t p):uD h a (typ (opAt h (t:Int) (p:Int)).Kind) (zw h a):=by
 obtain ⟨s,h1,_,h3⟩:=uk hS hc hk;have e:zw h a=s:=by unfold zw; rw [h1]; rfl
 rw [e]
 exact h3
theorem GZ {W:Int→List Int} {l m:List Int} (hp:l.Perm m):(l.flatMap W).sum=(m.flatMap W).sum:=by
 induction hp with
 | nil=>rfl
 | cons y _ ih=>rw [List.flatMap_cons,List.flatMap_cons,List.sum_append,List.sum_append,ih]
 | swap y z l=>simp only [List.flatMap_cons,List.sum_append]; omega
 | trans _ _ h1 h2=>exact h1.trans h2
theorem Bw {O M:List Int} {W:Int→List Int}:∀ k:Nat,k≤O.length→nN O W (fun j=>decide (idx O (j:Int) ∈ M)) k=w64 (((O.take k).filter (fun u=>decide (u ∈ M))).flatMap W).sum
 | 0,_=>by simp [nN,pY]
 | k + 1,hk=>by
  rw [sV,Bw k (by omega),lW (by omega),List.filter_append]
  by_cases hm:idx O (k:Int) ∈ M
  ·rw [if_pos (decide_eq_true hm)]
   have e:[idx O (k:Int)].filter (fun u=>decide (u ∈ M))=[idx O (k:Int)]:=by simp [hm]
   rw [e,yI,JY,GI,List.flatMap_append,List.sum_append]
   simp
  ·rw [if_neg (by simp [hm])]
   have e:[idx O (k:Int)].filter (fun u=>decide (u ∈ M))=[]:=by simp [hm]
   rw [e,List.append_nil]
def upto (h:History) (l:List Int) (a:Ask) (p:Int):List Int:=(l.take (pos l p + 1)).filter (fun u=>decide (0 < (eP h u a.Key).length))
theorem FP {l:List Int} {a:Ask} {p:Int}:(upto h l a p).flatMap (wro h a)=wrs h (l.take (pos l p + 1)) a.Key:=by
 unfold upto wrs;generalize l.take (pos l p + 1)=m
 induction m with
 | nil=>rfl
 | cons y m ih =>
  by_cases hy:0 < (eP h y a.Key).length
  ·rw [List.filter_cons_of_pos (by simpa using hy),List.flatMap_cons,List.flatMap_cons,ih]
  ·rw [List.filter_cons_of_neg (by simpa using hy),List.flatMap_cons,ih]
   have:eP h y a.Key=[]:=List.length_eq_zero_iff.1 (by omega)
   rw [this]; rfl
theorem Bz {l:List Int} {a:Ask} {p:Int} (hp:Ahead h l a p):∃ m,upto h l a p=m++[p]:=by
 obtain ⟨h1,h2,h3⟩:=hp;unfold upto
 rw [lW (Am.2 h1),xO h1,List.filter_append]
 exact ⟨_,congrArg _ (by simp [h3])⟩
theorem Ha {l:List Int} {a:Ask} {p:Int} (ho:lZ h l) (ha:a ∈ dh h h.Txns.length) (hp:Ahead h l a p):(∀ u ∈ upto h l a p,u ∈ oth h a)∧(upto h l a p).Nodup∧p ∈ upto h l a p:=by
 obtain ⟨m,hm⟩:=Bz hp;refine ⟨fun u hu => ?_,(ho.nd.sublist (List.take_sublist _ _)).filter _,by rw [hm]; simp⟩
 unfold upto at hu
 rw [List.mem_filter,decide_eq_true_eq] at hu
 obtain ⟨h1,h2⟩:=hu;obtain ⟨j,hj,hjl,e⟩:=GN.1 h1;have hul:u ∈ l:=by rw [← e]; exact eH hjl
 have hr:=ho.rg u hul;refine uh.2 ⟨⟨hr.1,hr.2.1,hr.2.2,h2⟩,fun e2 => ?_⟩;have h3:=Ki ho.nd hjl e;have h4:=hp.2.1
 rw [← e2] at h4
 omega
theorem Hd (hS:fT h) (hc:aA h=some 0) (ho:lZ h x.Order) {a:Ask} (ha:a ∈ dh h h.Txns.length) {p:Int} (hp:p = -1∨Ahead h x.Order a p) (hv:ver h x.Order a p=a.Base):p ∈ zw h a:=by
 classical
 obtain ⟨t,pl,hk⟩:=yC hS ha;have hs:=Js hS hc hk;have hP:=fun a0=>CW (a:=a) hS hk a0;have hks:1≤typ (opAt h (t:Int) (pl:Int)).Kind∧typ (opAt h (t:Int) (pl:Int)).Kind≤4:=by
  obtain ⟨k1,k8⟩:=wu hS hk.tl hk.pl;unfold typ
  omega
 unfold ver at hv
 rw [JZ hk] at hv
 generalize typ (opAt h (t:Int) (pl:Int)).Kind=ty at hs hv hP hks;generalize zw h a=s at hs;unfold uD at hs;rcases hp with rfl | hp
 ·have e0:qO h x.Order a.Key (-1)=[]:=by unfold qO; rw [if_neg (by decide)]
  rw [e0] at hv
  by_cases h4:ty=4
  ·subst h4
   rw [if_pos rfl] at hs
   have:idx a.Base 0=0:=by rw [← hv]; rfl
   rw [if_pos this] at hs
   rw [hs]; simp
  ·rw [if_neg h4] at hs
   have:a.Base.length=0:=by
    rw [← hv]
    unfold fin
    rw [if_neg h4]
    split
    ·rfl
    ·split
     ·simp [srt]
     ·rfl
   rw [if_pos this] at hs
   rw [hs]; simp
 ·obtain ⟨u1,u2,u3⟩:=Ha ho ha hp;obtain ⟨m,hm⟩:=Bz hp;have hfl:=FP (h:=h) (l:=x.Order) (a:=a) (p:=p);have h0p:0≤p:=(ho.rg p hp.1).1;have ea:qO h x.Order a.Key p=(upto h x.Order a p).flatMap (wro h a):=by unfold qO; rw [if_pos h0p,hfl]
  rw [ea] at hv
  generalize upto h x.Order a p=M at u1 u2 u3 hm hv;clear hfl ea;have hpo:=u1 p u3;have hwp:0 < (wro h a p).length:=hp.2.2;have hlen:0 < (M.flatMap (wro h a)).length:=by
   rw [hm,List.flatMap_append,List.length_append]
   simp only [List.flatMap_cons,List.flatMap_nil,List.append_nil]
   omega
  by_cases h4:ty=4
  ·rw [if_pos h4] at hs
   subst h4;have hb:idx a.Base 0=w64 (M.flatMap (wro h a)).sum:=by rw [← hv]; rfl
   rw [hs]
   refine List.mem_append_right _ ?_;unfold picks
   simp only [List.mem_map,List.mem_filter,List.mem_range,decide_eq_true_eq]
   obtain ⟨j,hj,ej⟩:=oU hpo;refine ⟨j,⟨hj,?_⟩,ej⟩;have hw:=zJ (O:=oth h a) (W:=wro h a) (want:=idx a.Base 0) (fun _=>false) (oth h a).length 0 j (fun _=>false) (fun _=>False) (by omega) (fun a=>by simp)
   rw [List.drop_zero] at hw
   refine hw.2 ⟨fun j=>decide (idx (oth h a) (j:Int) ∈ M),fun a h=>absurd h (Nat.not_lt_zero _),?_,hj,by dsimp only; rw [ej]; exact decide_eq_true u3⟩
   rw [Bw _ (Nat.le_refl _),List.take_length,hb]
   congr 1
   refine GZ ((List.perm_ext_iff_of_nodup (xN.filter _) u2).2 fun u => ?_)
   rw [List.mem_filter,decide_eq_true_eq]
   exact ⟨fun h=>h.2,fun h=>⟨u1 u h,h⟩⟩
  ·rw [if_neg h4] at hs
   by_cases e1:ty=1
   ·subst e1;have hb:a.Base=(wro h a p).drop ((wro h a p).length - 1):=by
     rw [← hv]
     unfold fin
     rw [if_pos rfl,hm,List.flatMap_append]
     simp only [List.flatMap_cons,List.flatMap_nil,List.append_nil]
     exact GY hwp
    have hbl:a.Base.length≠0:=by rw [hb,List.length_drop]; omega
    rw [if_neg hbl,if_pos rfl] at hs
    rw [hs]
    unfold lasts
    rw [List.mem_filter]
    refine ⟨hpo,decide_eq_true ?_⟩;unfold sW
    rw [hb,bR (n:=(wro h a p).length - 1) rfl (by omega),show (0:Int)=((0:Nat):Int) from rfl,bR (n:=0) rfl (by rw [List.length_drop]; omega),List.getElem_drop]
    rfl
   ·by_cases e2:ty=2
    ·subst e2;have hb:M.flatMap (wro h a)=a.Base:=hv;have hbl:a.Base.length≠0:=by rw [← hb]; omega
     rw [if_neg hbl,if_neg (by decide),if_pos rfl] at hs
     obtain ⟨r,hr,rfl⟩:=hs;have hmk:yY (oth h a) (wro h a) a.Base M:=⟨u1,u2,hb.symm⟩;rcases hr with ⟨p1,p2,p3,p4⟩ | ⟨_,p2⟩
     ·rw [if_pos p1,yY.one (hP (.inl rfl)) p2 u1 (p4.symm.trans hb.symm),hm]
      rw [List.mem_singleton]
      unfold sW
      rw [bR (n:=(m++[p]).length - 1) rfl (by simp)]
      simp
     ·exact absurd hmk (p2 _)
    ·have e3:ty=3:=by omega
     subst e3;have hb:srt (M.flatMap (wro h a))=a.Base:=hv;have hpm:(M.flatMap (wro h a)).Perm a.Base:=by rw [← hb]; exact (List.mergeSort_perm _ _).symm
     have hbl:a.Base.length≠0:=by rw [← hpm.length_eq]; omega
     rw [if_neg hbl,if_neg (by decide),if_neg (by decide)] at hs
     obtain ⟨r,hr,rfl⟩:=hs;have full:∀ u ∈ M,cnt a.Base (wro h a u)=(wro h a u).length:=fun u hu=>by
      unfold cnt
      rw [List.filter_eq_self.2 (fun v hv=>decide_eq_true (hpm.mem_iff.1 (List.mem_flatMap.2 ⟨u,hu,hv⟩)))]
     have hW:Whole (oth h a) (wro h a) a.Base:=by
      refine ⟨fun u hu => ?_,fun v hv => ?_⟩
      ·by_cases huM:u ∈ M
       ·exact .inr (full u huM)
       ·left
        unfold cnt
        rw [List.length_eq_zero_iff,List.filter_eq_nil_iff]
        intro v hv hvb;obtain ⟨w,hw,hvw⟩:=List.mem_flatMap.1 (hpm.mem_iff.2 (of_decide_eq_true hvb));exact huM ((hP (.inr rfl)).ap u hu w (u1 w hw) v hv hvw ▸ hw)
      ·obtain ⟨w,hw,hvw⟩:=List.mem_flatMap.1 (hpm.mem_iff.2 hv);exact ⟨w,u1 w hw,hvw⟩
     rcases hr with ⟨rfl,_⟩ | ⟨_,p2⟩
     ·dsimp only
      unfold rT
      rw [List.mem_filter]
      exact ⟨hpo,decide_eq_true (by rw [full p u3]; exact hwp)⟩
     ·exact absurd hW p2
theorem Cf (hS:fT h) (hc:aA h=some 0) (ho:lZ h x.Order) (hl:x.Order.length < 2 ^ 50) {a:Ask} (ha:a ∈ dh h h.Txns.length) {p:Int} (hp:p = -1∨Ahead h x.Order a p):dG h x.Order a.Key p=some (ver h x.Order a p,true):=by
 have a1:=hS.len;obtain ⟨t,pl,hk⟩:=yC hS ha;have hkr:0≤a.Key∧a.Key < (h.Keys.length:Int):=by
  obtain ⟨_,hky,_⟩:=hS.txn t hk.tl;have:=hky pl hk.pl;have e3:=hk.e3;unfold opAt at e3
  rw [e3]
  exact ⟨by omega,by omega⟩
 have hT:=Dg hS hc ha;refine eX.1 ?_;unfold dG;refine bU hc ?_;refine aj (fun h1=>absurd rfl h1) (fun _ => ?_);have hpr:p = -1∨(0≤p∧p ∈ x.Order):=hp.imp id (fun h=>⟨(ho.rg p h.1).1,h.1⟩);refine aj (fun h1=>by omega) (fun _ => ?_);refine aj (fun h1=>by omega) (fun _ => ?_);unfold ja
 rw [decide_eq_false (by omega),cond_false]
 refine dO (Bv a1 (h:=h) (l:=x.Order) (by omega)) (fun r hr => ?_);obtain ⟨⟨rh,ro,rm⟩,rb⟩:=r;obtain ⟨e1,e2,e3,e4⟩:=hr
 dsimp only at e1 e2 e3 e4
 have eb:=e3.2 ho;subst e1 eb;have hm:=e4 rfl;subst e2;refine aj (fun h=>absurd h (by simp)) (fun _ => ?_);unfold kz
 dsimp only
 have h2:p < 0∨p ∈ x.Order:=hpr.imp (fun h=>by omega) (fun h=>h.2);have hlast:Tri (bif false then some (([]:List Int),false) else (ax ⟨rh,x.Order,rm⟩ a.Key p).bind fun a0=>some (a0,true)) (fun b=>b=(ver rh x.Order a p,true)):=by
  rw [cond_false]
  exact bU (xP hS ho hm hT h2) (af rfl)
 refine aj (fun h3 => ?_) (fun h3=>hlast);have:p ∈ x.Order:=(hpr.resolve_left (by omega)).2
 rw [hm.hasB,decide_eq_true this]
 exact hlast
theorem zx (h:History) (x:Exec) {K:ByteArray→Prop} (g:HG K h) (gx:XG x):ai h x=some true:=by
 have hs:=g.small;have g1:=gx.1.2;have g2:=gx.2.2;refine eX.1 ?_;unfold ai
 rw [tO]
 refine bJ ?_
 rw [Bool.not_true,cond_false]
 refine dO (Kj hs (x:=x) (by omega) (by omega)) (fun r hr => ?_);have a4:∀ r:Int×Int,((r=(0,1)∧aA h=some 1)∨(r.2=0∧fT h∧aA h=some 0∧Why h x r.1))→0≤r.1∧r.1≤6:=by
  rintro r (⟨rfl,_⟩ | ⟨_,_,_,hw⟩)
  ·exact ⟨by decide,by decide⟩
  ·have pv:∀ a p,pQ h x.Order a p=0∨pQ h x.Order a p=5∨pQ h x.Order a p=6:=fun a p=>by
    unfold pQ
    split
    ·exact .inr (.inl rfl)
    ·split
     ·exact .inr (.inr rfl)
     ·exact .inl rfl
   generalize r.1=v at hw;cases hw with
   | bad=>exact ⟨by decide,by decide⟩
   | order=>exact ⟨by decide,by decide⟩
   | picks=>exact ⟨by decide,by decide⟩
   | sess=>exact ⟨by decide,by decide⟩
   | pick _ _ _ _ h5 =>
    rcases h5 with ⟨rfl,_⟩ | ⟨i,_,e,_,_⟩
    ·exact ⟨by decide,by decide⟩
    ·subst e
     dsimp only
     rcases pv (idx (dh h h.Txns.length) (i:Int)) (idx x.Picks (i:Int)) with h | h | h <;> rw [h] <;> exact ⟨by decide,by decide⟩
 have odd:Tri (dW h x r true) (fun b=>b=true):=by
  have:=a4 r hr;unfold dW
  rw [cond_true]
  refine aj (fun _=>af ?_) (fun h1=>absurd this.1 (by omega));exact decide_eq_true this.2
 refine aj (fun _=>odd) (fun h1 => ?_);rcases hr with ⟨rfl,_⟩ | ⟨_,hS,hc,hw⟩
 ·exact absurd (show ((0:Int),(1:Int)).2≠0 by decide) h1
 by_cases a0:r.1=0
 rotate_left
 ·rw [show (r.1 != 0)=true by simpa using a0]; exact odd
 rw [show (r.1 != 0)=false by simpa using a0]
 clear odd;have hf:=(Jr hw).1 a0;have a8:=hS.len;have hA:gY h=some (dh h h.Txns.length,0):=by unfold gY; rw [xM hs hS hc]; rfl
 obtain ⟨i1,_,_⟩:=wo hS h.Txns.length (Nat.le_refl _);unfold dW
 rw [cond_false]
 refine bU hA ?_;refine aj (fun h2=>absurd rfl h2) (fun _ => ?_);have hlp:=hf.len;unfold fK;refine aj (fun h2=>by dsimp only at h2; omega) (fun _ => ?_);refine df (k0:=0) (dh h h.Txns.length).length (fun k s=>s=(k:Int)) (Nat.zero_le _) rfl ?_;rintro k s hk rfl;have a6:w64 ((k:Int) + 1)=((k + 1:Nat):Int):=aS (by omega);unfold iE
 dsimp only
 refine aj (fun h2 => ?_) (fun h2 => ?_)
 ·have a1:k < (dh h h.Txns.length).length:=by omega
  have ha:idx (dh h h.Txns.length) (k:Int) ∈ dh h h.Txns.length:=Al a1;obtain ⟨p1,p2⟩:=FO.1 (hf.pick k a1);have hsrc:=Hd hS hc hf.ord ha p1 p2;have hsl:=FM hS hc ha;refine ag (by omega) (bU (Ce hs hS hc ha) ?_);refine ag (by omega) (bU (Cf hS hc hf.ord (by omega) ha p1) ?_);refine aj (fun h3=>absurd rfl h3) (fun _ => ?_);refine bU (yJ (by dsimp only; omega)) ?_
  dsimp only
  rw [decide_eq_true hsrc]
  refine aj (fun h3=>absurd h3 (by simp)) (fun _ => ?_);refine aj (fun h3=>absurd h3 (by simp)) (fun _ => ?_);have hb:=Da hS ha
  rw [p2]
  refine bU (Bh (by omega)) ?_
  rw [decide_eq_true rfl]
  unfold dV
  rw [a6]
  exact af ⟨a1,rfl⟩
 ·suffices a7:Tri (iter (fJ h x) 0) (fun y:Int ⊕ Bool=>y = .inr true) from dX a7 (by rintro y rfl; rfl)
  refine df (k0:=0) h.Txns.length (fun q s=>s=(q:Int)) (Nat.zero_le _) rfl ?_;rintro q s hq rfl;have a3:w64 ((q:Int) + 1)=((q + 1:Nat):Int):=aS (by omega);unfold fJ dE
  dsimp only
  rw [a3]
  refine aj (fun h3 => ?_) (fun h3=>av (av (af rfl)));have a2:q < h.Txns.length:=by omega
  refine ag (by omega) ?_;have a5:(idx h.Txns (q:Int)).Status=2→(q:Int) ∉ x.Order:=fun e hm=>(hf.ord.rg _ hm).2.2 e;have nx:∀ b:Bool,b=false→Tri (bif b then out (out (some false)) else some (.inl ((q + 1:Nat):Int))) (Upm h.Txns.length q (fun q s=>s=(q:Int)) (fun y:Int ⊕ Bool=>y = .inr true)):=by
   rintro b rfl;exact af ⟨a2,rfl⟩
  have tail:Tri (bif ((idx h.Txns (q:Int)).Status == 2) then (dD x.Order (q:Int)).bind fun y=>bif y then out (out (some false)) else some (.inl ((q + 1:Nat):Int)) else (bif false then out (out (some false)) else some (.inl ((q + 1:Nat):Int)))) (Upm h.Txns.length q (fun q s=>s=(q:Int)) (fun y:Int ⊕ Bool=>y = .inr true)):=by
   refine aj (fun h5 => ?_) (fun h5=>nx _ rfl);refine bU (yJ (by omega)) ?_;exact nx _ (decide_eq_false (a5 h5))
  refine aj (fun h4 => ?_) (fun h4=>tail);refine bU (yJ (by omega)) ?_
  rw [decide_eq_true (hf.ord.dn q a2 h4),Bool.not_true,cond_false]
  exact tail
end
end Go.Proofs.YtnlkggppokcmfaaT
