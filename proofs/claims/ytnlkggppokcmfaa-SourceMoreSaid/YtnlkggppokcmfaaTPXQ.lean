import Derived.Test.YtnlkggppokcmfaaTPXD
namespace Go.Proofs.YtnlkggppokcmfaaT
open Go Go.Proofs Go.Proofs.YtnlkggppokcmfaaE
set_option linter.unusedVariables false
set_option linter.unusedSimpArgs false
def Stp (O:List Int) (W:Int→List Int) (rest l:List Int):Option (Option Int)→Prop
 | none=>rest.length=0
 | some none=>0 < rest.length∧∀ t ∈ O,W t <+: rest→t ∈ l
 | some (some t)=>0 < rest.length∧t ∈ O∧W t <+: rest∧t ∉ l
section
variable {O:List Int} {W:Int→List Int} {rest l:List Int}
theorem Stp.det (hP:Parts O W) {x y:Option (Option Int)} (hx:Stp O W rest l x) (hy:Stp O W rest l y):x=y:=by
 match x,y,hx,hy with
 | none,none,_,_=>rfl
 | none,some none,h1,h2=>exact absurd (show rest.length=0 from h1) (by have:0 < rest.length:=h2.1; omega)
 | none,some (some t),h1,h2=>exact absurd (show rest.length=0 from h1) (by have:0 < rest.length:=h2.1; omega)
 | some none,none,h1,h2=>exact absurd (show rest.length=0 from h2) (by have:0 < rest.length:=h1.1; omega)
 | some (some t),none,h1,h2=>exact absurd (show rest.length=0 from h2) (by have:0 < rest.length:=h1.1; omega)
 | some none,some none,_,_=>rfl
 | some none,some (some t),h1,h2=>exact absurd (h1.2 t h2.2.1 h2.2.2.1) h2.2.2.2
 | some (some t),some none,h1,h2=>exact absurd (h2.2 t h1.2.1 h1.2.2.1) h1.2.2.2
 | some (some t),some (some u),h1,h2 =>
  rw [nz hP h1.2.1 h2.2.1 (lg h1.2.2.1 (hP.ne t h1.2.1)) (lg h2.2.2.1 (hP.ne u h2.2.1))]
def Jh (W:Int→List Int) (rest l:List Int):Option (Option Int)→(List Int×List Int) ⊕ (List Int×Bool)
 | none => .inr (l,true)
 | some none => .inr ([],false)
 | some (some t) => .inl (rest.drop (W t).length,l++[t])
def Ji (W:Int→List Int) (rest l:List Int):Option (Option Int)→(List Int×List Int) ⊕ (List Int×Bool)
 | none => .inr (l,true)
 | some none => .inr ([],false)
 | some (some t) => .inl (l++[t],rest.drop (W t).length)
theorem Em (hP:Parts O W) (hr:rest.length≤64) (hl:l.length≤64):Tri (ma (xZ O W) (rest,l)) (fun x=>∃ o,Stp O W rest l o∧x=Jh W rest l o):=by
 have hol:=hP.ol;unfold ma
 dsimp only
 refine ax (fun h0 => ?_) (fun h0 => ?_)
 ·have h0:0 < rest.length:=by omega
  refine dN (El hP h0) (fun y hy => ?_);unfold ja
  rw [qY]
  rcases hy with ⟨j,hj,rfl,hh⟩ | ⟨rfl,hno⟩
  ·have a0:=hP.wl _ (eH hj);refine ax (fun h1=>absurd h1 (by omega)) (fun _ => ?_);refine ah (by omega) ?_
   rw [uo hj]
   dsimp only
   generalize hg:idx O (j:Int)=t at *;have ht:t ∈ O:=hg ▸ eH hj;refine ax (fun h2 => ?_) (fun h2 => ?_)
   ·refine av (af ⟨some none,⟨h0,fun u hu hp => ?_⟩,rfl⟩);have:=nz hP hu ht (lg hp (hP.ne u hu)) hh;subst this;have:=hp.length_le
    omega
   ·have h2:(W t).length≤rest.length:=by omega
    refine ah (by omega) ?_;refine cO (uZ (by omega)) ?_
    rw [kE h2]
    refine ax (fun h3 => ?_) (fun h3 => ?_)
    ·refine av (af ⟨some none,⟨h0,fun u hu hp => ?_⟩,rfl⟩);have:=nz hP hu ht (lg hp (hP.ne u hu)) hh;subst this;have:=List.prefix_iff_eq_take.1 hp;exact absurd this (by simpa using h3)
    ·have h3:W t=rest.take (W t).length:=by simpa using h3
     refine cO (Ej (by omega)) ?_;refine ax (fun h4 => ?_) (fun h4 => ?_)
     ·refine av (af ⟨some none,⟨h0,fun u hu hp => ?_⟩,rfl⟩);have:=nz hP hu ht (lg hp (hP.ne u hu)) hh;subst this;exact h4
     ·refine ah (by omega) (ah (by omega) (ah (by omega) ?_))
      rw [wY]
      exact af ⟨some (some t),⟨h0,ht,List.prefix_iff_eq_take.2 h3,h4⟩,rfl⟩
  ·refine ax (fun h1 => ?_) (fun h1=>absurd h1 (by omega));exact av (af ⟨some none,⟨h0,fun u hu hp=>absurd (lg hp (hP.ne u hu)) (hno u hu)⟩,rfl⟩)
 ·exact av (af ⟨none,by show rest.length=0; omega,rfl⟩)
theorem Fg {h:History} {a:Ask} (hP:Parts O W) (hW:∀ t ∈ O,aJ h t a.Key=some (W t)) (hr:rest.length≤64) (hl:l.length≤64) :
  Tri (iX h a O (l,rest)) (fun x=>∃ o,Stp O W rest l o∧x=Ji W rest l o):=by
 have hol:=hP.ol;unfold iX
 dsimp only
 refine ax (fun h0 => ?_) (fun h0 => ?_)
 ·have h0:0 < rest.length:=by omega
  refine dz (k0:=0) O.length (fun k s=>s.2=(k:Int)∧((s.1 = -1∧∀ j:Nat,j < k → ¬ W (idx O (j:Int)) <+: rest)∨(s.1 ∈ O∧W s.1 <+: rest))) (Nat.zero_le _) ⟨rfl,.inl ⟨rfl,fun j h=>absurd h (Nat.not_lt_zero _)⟩⟩ ?_;rintro k ⟨x,y⟩ hk ⟨e,hx⟩
  dsimp only at e hx
  subst e;have hw:w64 ((k:Int) + 1)=((k + 1:Nat):Int):=aZ (by omega);unfold oF kX
  dsimp only
  rw [hw]
  refine ax (fun a4 => ?_) (fun a4 => ?_)
  ·have a0:k < O.length:=by omega
   refine ah (by omega) ?_;refine cO (hW _ (eH a0)) ?_;refine cO (BC (by omega)) ?_;refine ax (fun h1 => ?_) (fun h1 => ?_)
   ·exact af ⟨a0,rfl,.inr ⟨eH a0,h1⟩⟩
   ·refine af ⟨a0,rfl,?_⟩;rcases hx with ⟨e,hx⟩ | hx
    ·refine .inl ⟨e,fun j hj => ?_⟩;rcases Nat.lt_or_ge j k with h2 | h2
     ·exact hx j h2
     ·have:j=k:=by omega
      subst this;exact h1
    ·exact .inr hx
  ·have:k=O.length:=by omega
   subst this;rcases hx with ⟨rfl,hx⟩ | ⟨hx,hp⟩
   ·refine ax (fun _ => ?_) (fun h1=>absurd h1 (by omega));refine av (av (af ⟨some none,⟨h0,fun t ht hp => ?_⟩,rfl⟩));obtain ⟨j,hj,rfl⟩:=qp ht;exact absurd hp (hx j hj)
   ·have h2:=hP.pos x hx;have h3:=hp.length_le;refine ax (fun h1=>absurd h1 (by omega)) (fun _ => ?_);refine dz (k0:=0) l.length (fun k s=>s=(k:Int)∧∀ j:Nat,j < k→idx l (j:Int)≠x) (Nat.zero_le _) ⟨rfl,fun j h=>absurd h (Nat.not_lt_zero _)⟩ ?_;rintro m s hm ⟨rfl,hno⟩;have a2:w64 ((m:Int) + 1)=((m + 1:Nat):Int):=aZ (by omega);unfold oD
    dsimp only
    rw [a2]
    refine ax (fun a3 => ?_) (fun a3 => ?_)
    ·have a1:m < l.length:=by omega
     refine ah (by omega) ?_;refine ax (fun h4 => ?_) (fun h4 => ?_)
     ·refine av (av (av (af ⟨some none,⟨h0,fun u hu hq => ?_⟩,rfl⟩)))
      rw [nz hP hu hx (lg hq (hP.ne u hu)) (lg hp (hP.ne x hx)),← h4]
      exact eH a1
     ·refine af ⟨a1,rfl,fun j hj => ?_⟩;rcases Nat.lt_or_ge j m with h5 | h5
      ·exact hno j h5
      ·have:j=m:=by omega
       subst this;exact h4
    ·have:m=l.length:=by omega
     subst this;refine ah (by omega) ?_;refine cO (hW x hx) ?_;refine ah (by omega) ?_
     rw [wY]
     refine av (av (af ⟨some (some x),⟨h0,hx,hp,fun hmem => ?_⟩,rfl⟩));obtain ⟨j,hj,e⟩:=qp hmem;exact hno j hj e
 ·exact av (af ⟨none,by show rest.length=0; omega,rfl⟩)
end
end Go.Proofs.YtnlkggppokcmfaaT
namespace Go.Proofs.YtnlkggppokcmfaaT
open Go Go.Proofs Go.Proofs.YtnlkggppokcmfaaE
set_option linter.unusedVariables false
set_option linter.unusedSimpArgs false
def xD (O:List Int) (W:Int→List Int) (base m:List Int):Prop:=(∀ t ∈ m,t ∈ O)∧m.Nodup∧base=m.flatMap W
def yR (O:List Int) (W:Int→List Int) (base:List Int) (r:List Int×Bool):Prop:=(r.2=true∧xD O W base r.1)∨(r=([],false)∧∀ m,¬ xD O W base m)
section
variable {O:List Int} {W:Int→List Int} {rest l:List Int}
theorem En (hP:Parts O W) {m:List Int} (hm:∀ t ∈ m,t ∈ O) (hr:0 < rest.length) (e:rest=m.flatMap W):∃ u m',m=u::m'∧u ∈ O∧W u <+: rest∧idx (W u) 0=idx rest 0:=by
 cases m with
 | nil=>rw [e] at hr; simp at hr
 | cons u m' =>
  have hu:=hm u (by simp);have hp:W u <+: rest:=⟨m'.flatMap W,by rw [e,List.flatMap_cons]⟩
  exact ⟨u,m',rfl,hu,hp,lg hp (hP.ne u hu)⟩
theorem Eo (hP:Parts O W) {h:History} {a:Ask} (hW:∀ t ∈ O,aJ h t a.Key=some (W t)) (ho:aM h a=some O) (hb:a.Base.length≤64) :
  ∃ r,dF a.Base (xZ O W)=some r∧bG h a=some r∧yR O W a.Base r:=by
 have key:Tri (dF a.Base (xZ O W)) (fun r=>Tri (iter (iX h a O) ([],a.Base)) (fun r'=>r=r'∧yR O W a.Base r)):=by
  unfold dF;refine xm (k0:=0) a.Base.length (fun (k:Nat) (s t:List Int×List Int)=>s.1=t.2∧s.2=t.1∧s.1.length + k≤a.Base.length∧s.2.length≤k∧(∀ t ∈ s.2,t ∈ O)∧s.2.Nodup∧a.Base=s.2.flatMap W++s.1∧∀ m,xD O W a.Base m→∃ m',m=s.2++m')
   (Nat.zero_le _) ⟨rfl,rfl,Nat.le_refl _,Nat.le_refl _,fun t h=>(nomatch h),List.nodup_nil,by simp,fun m _=>⟨m,rfl⟩⟩ ?_
  rintro k ⟨rest,l⟩ ⟨l',rest'⟩ hk ⟨e1,e2,i1,i2,i3,i4,i5,i6⟩
  dsimp only at e1 e2 i1 i2 i3 i4 i5 i6
  subst e1 e2;refine dW (Em hP (by omega) (by omega)) ?_;rintro x ⟨o,hs,rfl⟩;refine dW (Fg hP hW (by omega) (by omega)) ?_;rintro y ⟨o',hs',rfl⟩;obtain rfl:=Stp.det hP hs hs';have nxt:∀ m,xD O W a.Base m→0 < rest.length→∃ u m',m=l++u::m'∧u ∈ O∧W u <+: rest∧idx (W u) 0=idx rest 0:=by
   intro m hm hr;obtain ⟨m',rfl⟩:=i6 m hm;obtain ⟨h1,h2,h3⟩:=hm
   rw [i5,List.flatMap_append,List.append_cancel_left_eq] at h3
   obtain ⟨u,m2,rfl,q1,q2,q3⟩:=En hP (fun t ht=>h1 t (List.mem_append_right _ ht)) hr h3;exact ⟨u,m2,rfl,q1,q2,q3⟩
  match o,hs with
  | none,hs =>
   refine ⟨rfl,.inl ⟨rfl,i3,i4,?_⟩⟩
   rw [i5,List.length_eq_zero_iff.1 (show rest.length=0 from hs),List.append_nil]
  | some none,hs =>
   refine ⟨rfl,.inr ⟨rfl,fun m hm => ?_⟩⟩;obtain ⟨u,m',rfl,q1,q2,q3⟩:=nxt m hm hs.1;have:=(List.nodup_append.1 hm.2.1).2.2;exact this u (hs.2 u q1 q2) u (by simp) rfl
  | some (some t),⟨s1,s2,s3,s4⟩ =>
   have h1:=hP.ne t s2;have h2:=s3.length_le;refine ⟨by omega,rfl,rfl,by rw [List.length_drop]; omega,by rw [List.length_append,List.length_singleton]; omega,fun u hu => ?_,?_,?_,fun m hm => ?_⟩
   ·rcases List.mem_append.1 hu with hu | hu
    ·exact i3 u hu
    ·rw [List.mem_singleton.1 hu]; exact s2
   ·rw [List.nodup_append]
    refine ⟨i4,List.nodup_cons.2 ⟨by simp,List.nodup_nil⟩,fun u hu v hv => ?_⟩
    rw [List.mem_singleton.1 hv]
    intro e;exact s4 (e ▸ hu)
   ·dsimp only
    rw [List.flatMap_append,List.append_assoc,i5]
    congr 1
    rw [List.flatMap_cons,List.flatMap_nil,List.append_nil]
    obtain ⟨z,hz⟩:=s3
    rw [← hz,List.drop_left]
   ·obtain ⟨u,m',rfl,q1,q2,q3⟩:=nxt m hm s1;have:=nz hP q1 s2 q3 (lg s3 h1);subst this;exact ⟨m',by simp⟩
 obtain ⟨r,hr,r',hr',rfl,ht⟩:=key;refine ⟨r,hr,?_,ht⟩;unfold bG
 rw [ho]
 exact hr'
end
end Go.Proofs.YtnlkggppokcmfaaT
namespace Go.Proofs.YtnlkggppokcmfaaT
open Go Go.Proofs Go.Proofs.YtnlkggppokcmfaaE
set_option linter.unusedVariables false
set_option linter.unusedSimpArgs false
theorem vY {l:List Int}:∀ {m:List Int},l.Nodup→(∀ x ∈ l,x ∈ m)→l.length≤m.length:=by
 induction l with
 | nil=>intro m _ _; simp
 | cons x l ih =>
  intro m hn hs;obtain ⟨h1,h2⟩:=List.nodup_cons.1 hn;have hx:=hs x (by simp);have:=ih (m:=m.erase x) h2 (fun y hy=>(List.mem_erase_of_ne (fun (e:y=x)=>h1 (e ▸ hy))).2 (hs y (by simp [hy])))
  rw [List.length_erase_of_mem hx] at this
  have:0 < m.length:=List.length_pos_of_mem hx
  simp
  omega
def keysOf (m:List (Int×Unit)):List Int:=m.map (·.1)
theorem zT {m:List (Int×Unit)} {x:Int}:nD m x=true↔x ∈ keysOf m:=by
 unfold nD keysOf
 simp [List.any_eq_true]
theorem wZ {x:Int}:∀ {m:List (Int×Unit)},keysOf (yg m x)=(keysOf m).erase x
 | []=>rfl
 | p::m=>by
  unfold yg keysOf
  rw [List.map_cons,List.erase_cons]
  by_cases e:p.1=x
  ·simp [e]
  ·rw [if_neg e,if_neg (by simpa using e),List.map_cons]
   congr 1
   exact wZ
theorem zU {x:Int}:∀ {m:List (Int×Unit)},x ∉ keysOf m→keysOf (gL m x ())=keysOf m++[x]
 | [],_=>rfl
 | p::m,h=>by
  have h1:¬ p.1=x:=fun e=>h (by simp [keysOf,e]);have h2:x ∉ keysOf m:=fun h'=>h (by simp only [keysOf,List.map_cons,List.mem_cons]; exact .inr h');unfold gL
  rw [if_neg h1]
  show p.1::keysOf (gL m x ())=p.1::keysOf m++[x]
  rw [zU h2]
  rfl
def cnt (base w:List Int):Nat:=(w.filter (fun v=>decide (v ∈ base))).length
theorem yS {base w:List Int}:cnt base w≤w.length:=List.length_filter_le _ _
theorem BF {base w:List Int} {i:Nat} (hi:i < w.length):cnt base (w.take (i + 1))=if idx w (i:Int) ∈ base then cnt base (w.take i) + 1 else cnt base (w.take i):=by
 unfold cnt
 rw [List.take_succ_eq_append_getElem hi,List.filter_append,List.length_append,(df (n:=i) rfl hi:idx w (i:Int)=w[i])]
 by_cases h:w[i] ∈ base <;> simp [h]
def Whole (O:List Int) (W:Int→List Int) (base:List Int):Prop:=(∀ t ∈ O,cnt base (W t)=0∨cnt base (W t)=(W t).length)∧∀ v ∈ base,∃ t ∈ O,v ∈ W t
def qw (O:List Int) (W:Int→List Int) (base:List Int):List Int:=O.filter (fun t=>decide (0 < cnt base (W t)))
def mG (O:List Int) (W:Int→List Int) (base:List Int) (r:List Int×Bool):Prop:=(r=(qw O W base,true)∧Whole O W base)∨(r=([],false) ∧ ¬ Whole O W base)
theorem mG.det {O:List Int} {W:Int→List Int} {base:List Int} {r s:List Int×Bool} (h1:mG O W base r) (h2:mG O W base s):r=s:=by
 rcases h1 with ⟨rfl,h1⟩ | ⟨rfl,h1⟩ <;> rcases h2 with ⟨rfl,h2⟩ | ⟨rfl,h2⟩
 ·rfl
 ·exact absurd h1 h2
 ·exact absurd h2 h1
 ·rfl
section
variable {O:List Int} {W:Int→List Int} {base:List Int}
theorem yT {k:Nat} (hk:k < O.length):qw (O.take (k + 1)) W base=if 0 < cnt base (W (idx O (k:Int))) then qw (O.take k) W base++[idx O (k:Int)] else qw (O.take k) W base:=by
 unfold qw
 rw [List.take_succ_eq_append_getElem hk,List.filter_append,(df (n:=k) rfl hk:idx O (k:Int)=O[k])]
 by_cases h:0 < cnt base (W O[k]) <;> simp [h]
theorem zV {k:Nat}:(qw (O.take k) W base).length≤O.length:=Nat.le_trans (List.length_filter_le _ _) (by rw [List.length_take]; omega)
theorem Ay {i j:Nat} (hn:O.Nodup) (hi:i < O.length) (hj:j < O.length) (e:idx O (i:Int)=idx O (j:Int)):i=j:=by
 rw [df (n:=i) rfl hi,df (n:=j) rfl hj] at e
 have hp:=List.pairwise_iff_getElem.1 hn;rcases Nat.lt_trichotomy i j with h | h | h
 ·exact absurd e (hp i j hi hj h)
 ·exact h
 ·exact absurd e.symm (hp j i hj hi h)
theorem Fh (hP:Parts O W) (hO:O.Nodup) (hb:base.length≤64) (hn:base.Nodup):Tri (bD base (xZ O W)) (mG O W base):=by
 have hol:=hP.ol;unfold bD;refine dz (k0:=0) base.length (fun k s=>s.2=(k:Int)∧keysOf s.1=base.take k) (Nat.zero_le _) ⟨rfl,rfl⟩ ?_;rintro k ⟨m,x⟩ hk ⟨e,hm⟩
 dsimp only at e hm
 subst e;have hw:w64 ((k:Int) + 1)=((k + 1:Nat):Int):=aZ (by omega);unfold qI
 dsimp only
 rw [hw]
 refine ax (fun a2 => ?_) (fun a2 => ?_)
 ·have a0:k < base.length:=by omega
  refine ah (by omega) (af ⟨a0,rfl,?_⟩);have hni:idx base (k:Int) ∉ keysOf m:=by
   rw [hm]
   intro h;obtain ⟨i,hi,e⟩:=List.mem_take_iff_getElem.1 h;have:=Ay (i:=i) (j:=k) hn (by omega) a0 ((df rfl (by omega)).trans e)
   omega
  dsimp only
  rw [zU hni,hm,List.take_succ_eq_append_getElem a0,(df (n:=k) rfl a0:idx base (k:Int)=base[k])]
 ·have:k=base.length:=by omega
  subst this
  rw [List.take_length] at hm
  refine dz (k0:=0) O.length (fun k s=>s.1=qw (O.take k) W base∧(keysOf s.2.1).Nodup∧(∀ v,v ∈ keysOf s.2.1↔v ∈ base∧∀ j:Nat,j < k→v ∉ W (idx O (j:Int)))∧s.2.2=(k:Int)∧∀ j:Nat,j < k→cnt base (W (idx O (j:Int)))=0∨cnt base (W (idx O (j:Int)))=(W (idx O (j:Int))).length)
   (Nat.zero_le _) ⟨by simp [qw],by rw [hm]; exact hn,fun v=>by rw [hm]; exact ⟨fun h=>⟨h,fun j h=>absurd h (Nat.not_lt_zero _)⟩,fun h=>h.1⟩,rfl,fun j h=>absurd h (Nat.not_lt_zero _)⟩ ?_
  rintro k ⟨l,m,x⟩ hk ⟨e1,e2,e3,e4,e5⟩
  dsimp only at e1 e2 e3 e4 e5
  subst e1 e4;have hw:w64 ((k:Int) + 1)=((k + 1:Nat):Int):=aZ (by omega);have hsl:=zV (O:=O) (W:=W) (base:=base) (k:=k);unfold qH
  dsimp only
  rw [qY]
  refine ax (fun a2 => ?_) (fun a2 => ?_)
  ·have a0:k < O.length:=by omega
   refine ah (by omega) ?_;have ht:=eH a0;have hss:=yT (W:=W) (base:=base) a0;generalize hg:idx O (k:Int)=t at ht hss;have hwl:=hP.wl t ht;have hwn:=hP.nd t ht;refine dz (k0:=0) (W t).length (fun i s=>(keysOf s.1).Nodup∧(∀ v,v ∈ keysOf s.1↔(v ∈ base∧∀ j:Nat,j < k→v ∉ W (idx O (j:Int)))∧v ∉ (W t).take i)∧s.2.1=(cnt base ((W t).take i):Int)∧s.2.2=(i:Int))
    (Nat.zero_le _) ⟨e2,fun v=>⟨fun h=>⟨(e3 v).1 h,by simp⟩,fun h=>(e3 v).2 h.1⟩,by simp [cnt],rfl⟩ ?_
   rintro i ⟨m2,c,x⟩ hi ⟨f1,f2,f3,f4⟩
   dsimp only at f1 f2 f3 f4
   subst f3 f4;have hcl:cnt base ((W t).take i)≤i:=Nat.le_trans yS (by rw [List.length_take]; omega);have a5:w64 ((i:Int) + 1)=((i + 1:Nat):Int):=aZ (by omega);have a7:w64 ((cnt base ((W t).take i):Int) + 1)=((cnt base ((W t).take i) + 1:Nat):Int):=aZ (by omega);unfold qG nM nN nL
   dsimp only
   rw [a5,a7,uo a0,hg]
   dsimp only
   refine ax (fun a8 => ?_) (fun a8 => ?_)
   ·have a1:i < (W t).length:=by omega
    refine ah (by omega) ?_;have hct:=BF (base:=base) a1;have hmem:∀ v,v ∈ (W t).take (i + 1)↔v ∈ (W t).take i∨v=idx (W t) (i:Int):=by
     intro v
     rw [List.take_succ_eq_append_getElem a1,(df (n:=i) rfl a1:idx (W t) (i:Int)=(W t)[i]),List.mem_append,List.mem_singleton]
    have hni:idx (W t) (i:Int) ∉ (W t).take i:=by
     intro h;obtain ⟨j,hj,e⟩:=List.mem_take_iff_getElem.1 h;have:=Ay (i:=j) (j:=i) hwn (by omega) a1 ((df rfl (by omega)).trans e)
     omega
    have hout:∀ j:Nat,j < k→idx (W t) (i:Int) ∉ W (idx O (j:Int)):=by
     intro j hj h;have:=hP.ap _ (eH (show j < O.length by omega)) t ht _ h (eH a1)
     rw [← hg] at this
     have:=Ay hO (by omega) a0 this
     omega
    have a3:idx (W t) (i:Int) ∈ keysOf m2↔idx (W t) (i:Int) ∈ base:=by
     rw [f2]
     exact ⟨fun h=>h.1.1,fun h=>⟨⟨h,hout⟩,hni⟩⟩
    cases hmh:nD m2 (idx (W t) (i:Int))
    ·have hnb:idx (W t) (i:Int) ∉ base:=fun h=>by rw [zT.2 (a3.2 h)] at hmh; cases hmh
     rw [cond_false]
     refine af ⟨a1,f1,fun v => ?_,?_,rfl⟩
     ·dsimp only
      rw [f2,hmem]
      constructor
      ·rintro ⟨h1,h2⟩;refine ⟨h1,?_⟩;rintro (h3 | h3)
       ·exact h2 h3
       ·subst h3;exact hnb h1.1
      ·rintro ⟨h1,h2⟩;exact ⟨h1,fun h=>h2 (.inl h)⟩
     ·dsimp only
      rw [hct,if_neg hnb]
    ·have hib:idx (W t) (i:Int) ∈ base:=a3.1 (zT.1 hmh)
     rw [cond_true]
     refine af ⟨a1,?_,fun v => ?_,?_,rfl⟩
     ·dsimp only
      rw [wZ]
      exact f1.erase _
     ·dsimp only
      rw [wZ,List.Nodup.mem_erase_iff f1,f2,hmem]
      constructor
      ·rintro ⟨h1,h2,h3⟩;exact ⟨h2,fun h=>h.elim h3 h1⟩
      ·rintro ⟨h1,h2⟩;exact ⟨fun h=>h2 (.inr h),h1,fun h=>h2 (.inl h)⟩
     ·dsimp only
      rw [hct,if_pos hib]
   ·have:i=(W t).length:=by omega
    subst this
    rw [List.take_length] at f2 ⊢
    have hcw:cnt base (W t)≤(W t).length:=yS;have fin:∀ (hc:cnt base (W t)=0∨cnt base (W t)=(W t).length) (l':List Int),l'=qw (O.take (k + 1)) W base→Upm O.length k (fun k s=>s.1=qw (O.take k) W base∧(keysOf s.2.1).Nodup∧(∀ v,v ∈ keysOf s.2.1↔v ∈ base∧∀ j:Nat,j < k→v ∉ W (idx O (j:Int)))∧s.2.2=(k:Int)∧∀ j:Nat,j < k→cnt base (W (idx O (j:Int)))=0∨cnt base (W (idx O (j:Int)))=(W (idx O (j:Int))).length) (mG O W base) (.inl (l',m2,((k + 1:Nat):Int))):=by
     intro hc l' hl';refine ⟨a0,hl',f1,fun v => ?_,rfl,fun j hj => ?_⟩
     ·dsimp only
      rw [f2]
      constructor
      ·rintro ⟨⟨h1,h2⟩,h3⟩;refine ⟨h1,fun j hj => ?_⟩;rcases Nat.lt_or_ge j k with h4 | h4
       ·exact h2 j h4
       ·have:j=k:=by omega
        subst this
        rw [hg]; exact h3
      ·rintro ⟨h1,h2⟩;exact ⟨⟨h1,fun j hj=>h2 j (by omega)⟩,by have:=h2 k (by omega); rwa [hg] at this⟩
     ·rcases Nat.lt_or_ge j k with h4 | h4
      ·exact e5 j h4
      ·have:j=k:=by omega
       subst this
       rw [hg]; exact hc
    have bad:¬ (cnt base (W t)=0∨cnt base (W t)=(W t).length)→mG O W base ([],false):=fun hc => .inr ⟨rfl,fun hW=>hc (hW.1 t ht)⟩
    rw [hw]
    refine ax (fun h1 => ?_) (fun h1 => ?_)
    ·refine ax (fun h2 => ?_) (fun h2 => ?_)
     ·exact av (av (av (af (bad (by omega)))))
     ·refine ax (fun h3 => ?_) (fun h3 => ?_)
      ·refine ah (by omega) ?_;refine av (af (fin (by omega) _ ?_))
       rw [hss,if_pos (by omega)]
      ·exact absurd h1 h3
    ·rw [cond_false]
     refine ax (fun h3=>absurd h3 h1) (fun h3 => ?_);refine av (af (fin (by omega) _ ?_))
     rw [hss,if_neg (by omega)]
  ·have:k=O.length:=by omega
   subst this
   rw [List.take_length]
   have hml:0 < m.length↔∃ v,v ∈ keysOf m:=by
    unfold keysOf;cases m with
    | nil=>simp
    | cons p m=>exact ⟨fun _=>⟨p.1,by simp⟩,fun _=>by simp⟩
   have hall:(∀ t ∈ O,cnt base (W t)=0∨cnt base (W t)=(W t).length):=by
    intro t ht;obtain ⟨j,hj,rfl⟩:=qp ht;exact e5 j hj
   refine ax (fun h1 => ?_) (fun h1 => ?_)
   ·refine av (av (af (.inr ⟨rfl,fun hW => ?_⟩)));obtain ⟨v,hv⟩:=hml.1 (by omega);obtain ⟨a9,a6⟩:=(e3 v).1 hv;obtain ⟨t,ht,a4⟩:=hW.2 v a9;obtain ⟨j,hj,rfl⟩:=qp ht;exact a6 j hj a4
   ·refine av (av (af (.inl ⟨rfl,hall,fun v hv => ?_⟩)))
    apply Classical.byContradiction
    intro hno;refine h1 ?_;have:=hml.2 ⟨v,(e3 v).2 ⟨hv,fun j hj h=>hno ⟨_,eH hj,h⟩⟩⟩
    omega
end
end Go.Proofs.YtnlkggppokcmfaaT
namespace Go.Proofs.YtnlkggppokcmfaaT
open Go Go.Proofs Go.Proofs.YtnlkggppokcmfaaE
set_option linter.unusedVariables false
set_option linter.unusedSimpArgs false
theorem CG {l:List Int} {v:Int} (hl:l.length < 2 ^ 60):fV l v=some (decide (v ∈ l)):=by
 refine eP.1 ?_;unfold fV;refine dz (k0:=0) l.length (fun k s=>s=(k:Int)∧∀ j:Nat,j < k→idx l (j:Int)≠v) (Nat.zero_le _) ⟨rfl,fun j h=>absurd h (Nat.not_lt_zero _)⟩ ?_;rintro k s hk ⟨rfl,hno⟩;have hw:w64 ((k:Int) + 1)=((k + 1:Nat):Int):=aZ (by omega);unfold nW
 dsimp only
 rw [hw]
 refine ax (fun a1 => ?_) (fun a1 => ?_)
 ·have a0:k < l.length:=by omega
  refine ah (by omega) ?_;refine ax (fun h1 => ?_) (fun h1 => ?_)
  ·refine av (af ?_)
   show true=decide (v ∈ l)
   rw [eq_comm,decide_eq_true_iff,← h1]
   exact eH a0
  ·refine af ⟨a0,rfl,fun j hj => ?_⟩;rcases Nat.lt_or_ge j k with h2 | h2
   ·exact hno j h2
   ·have:j=k:=by omega
    subst this;exact h1
 ·have:k=l.length:=by omega
  subst this;refine av (af ?_)
  show false=decide (v ∈ l)
  rw [eq_comm,decide_eq_false_iff_not]
  intro h;obtain ⟨j,hj,e⟩:=qp h;exact hno j hj e
section
variable {O:List Int} {W:Int→List Int} {base:List Int}
def hits (O:List Int) (W:Int→List Int) (base:List Int):List Int:=O.flatMap (fun t=>(W t).filter (fun v=>decide (v ∈ base)))
theorem zW {k:Nat} (hk:k < O.length):(hits (O.take (k + 1)) W base).length=(hits (O.take k) W base).length + cnt base (W (idx O (k:Int))):=by
 unfold hits cnt
 rw [List.take_succ_eq_append_getElem hk,List.flatMap_append,List.length_append,(df (n:=k) rfl hk:idx O (k:Int)=O[k])]
 simp
theorem CJ (hP:Parts O W):∀ k,k≤O.length→(hits (O.take k) W base).length≤16 * k:=by
 intro k
 induction k with
 | zero=>intro _; simp [hits]
 | succ k ih =>
  intro hk
  rw [zW (by omega)]
  have:=ih (by omega);have h1:=hP.wl _ (eH (show k < O.length by omega));have h2:cnt base (W (idx O (k:Int)))≤_:=yS
  omega
theorem yU {v:Int}:v ∈ hits O W base↔∃ t ∈ O,v ∈ W t∧v ∈ base:=by
 unfold hits
 simp only [List.mem_flatMap,List.mem_filter,decide_eq_true_eq]
theorem CK (hP:Parts O W) (hO:O.Nodup):(hits O W base).Nodup:=by
 unfold hits List.Nodup
 rw [List.pairwise_flatMap]
 refine ⟨fun t ht=>(hP.nd t ht).filter _,List.Pairwise.imp_of_mem (fun {t u} ht hu hne => ?_) hO⟩;intro x hx y hy e;subst e
 rw [List.mem_filter] at hx hy
 exact hne (hP.ap t ht u hu x hx.1 hy.1)
theorem Ep (hP:Parts O W) (hO:O.Nodup) (hn:base.Nodup):(hits O W base).length=base.length↔∀ v ∈ base,∃ t ∈ O,v ∈ W t:=by
 have hN:=CK (base:=base) hP hO;have hS:∀ v ∈ hits O W base,v ∈ base:=fun v hv=>by obtain ⟨_,_,_,h⟩:=yU.1 hv; exact h
 constructor
 ·intro e v hv
  apply Classical.byContradiction
  intro hno;have h1:v ∉ hits O W base:=fun h=>by
   obtain ⟨t,ht,h2,_⟩:=yU.1 h;exact hno ⟨t,ht,h2⟩
  have:=vY (l:=v::hits O W base) (m:=base) (List.nodup_cons.2 ⟨h1,hN⟩) (fun x hx=>by
   rcases List.mem_cons.1 hx with rfl | hx
   ·exact hv
   ·exact hS x hx)
  simp at this
  omega
 ·intro hc;refine Nat.le_antisymm (vY hN hS) (vY hn (fun v hv => ?_));obtain ⟨t,ht,h⟩:=hc v hv;exact yU.2 ⟨t,ht,h,hv⟩
theorem GX {h:History} {a:Ask} (hP:Parts O W) (hO:O.Nodup) (hW:∀ t ∈ O,aJ h t a.Key=some (W t)) (ho:aM h a=some O) (hb:a.Base.length≤64) (hn:a.Base.Nodup) :
  Tri (bn h a) (mG O W a.Base):=by
 have hol:=hP.ol;unfold bn;refine cO ho ?_;refine dz (k0:=0) O.length (fun k s=>s.1=qw (O.take k) W a.Base∧s.2.1=((hits (O.take k) W a.Base).length:Int)∧s.2.2=(k:Int)∧∀ j:Nat,j < k→cnt a.Base (W (idx O (j:Int)))=0∨cnt a.Base (W (idx O (j:Int)))=(W (idx O (j:Int))).length)
  (Nat.zero_le _) ⟨by simp [qw],by simp [hits],rfl,fun j h=>absurd h (Nat.not_lt_zero _)⟩ ?_
 rintro k ⟨l,n,x⟩ hk ⟨e1,e2,e4,e5⟩
 dsimp only at e1 e2 e4 e5
 subst e1 e2 e4;have hw:w64 ((k:Int) + 1)=((k + 1:Nat):Int):=aZ (by omega);have hsl:=zV (O:=O) (W:=W) (base:=a.Base) (k:=k);have hsm:=CJ (base:=a.Base) hP k hk;unfold pG
 dsimp only
 refine ax (fun a6 => ?_) (fun a6 => ?_)
 ·have a0:k < O.length:=by omega
  refine ah (by omega) ?_;have ht:=eH a0;have hss:=yT (W:=W) (base:=a.Base) a0;have hhs:=zW (W:=W) (base:=a.Base) a0;refine cO (hW _ ht) ?_;generalize hg:idx O (k:Int)=t at ht hss hhs;have hwl:=hP.wl t ht;refine dz (k0:=0) (W t).length (fun i s=>s.1=(cnt a.Base ((W t).take i):Int)∧s.2=(i:Int)) (Nat.zero_le _) ⟨by simp [cnt],rfl⟩ ?_
  rintro i ⟨c,x⟩ hi ⟨f3,f4⟩
  dsimp only at f3 f4
  subst f3 f4;have hcl:cnt a.Base ((W t).take i)≤i:=Nat.le_trans yS (by rw [List.length_take]; omega);have a2:w64 ((i:Int) + 1)=((i + 1:Nat):Int):=aZ (by omega);have a4:w64 ((cnt a.Base ((W t).take i):Int) + 1)=((cnt a.Base ((W t).take i) + 1:Nat):Int):=aZ (by omega);unfold pF lH lI lG
  dsimp only
  rw [a2,a4,hg]
  refine ax (fun a5 => ?_) (fun a5 => ?_)
  ·have a1:i < (W t).length:=by omega
   refine ah (by omega) ?_;have hct:=BF (base:=a.Base) a1;refine cO (CG (by omega)) ?_;refine ax (fun h1 => ?_) (fun h1 => ?_)
   ·refine af ⟨a1,?_,rfl⟩
    dsimp only
    rw [hct,if_pos h1]
   ·refine af ⟨a1,?_,rfl⟩
    dsimp only
    rw [hct,if_neg h1]
  ·have:i=(W t).length:=by omega
   subst this
   rw [List.take_length]
   have hcw:cnt a.Base (W t)≤(W t).length:=yS;have a3:w64 (((hits (O.take k) W a.Base).length:Int) + (cnt a.Base (W t):Int))=(((hits (O.take k) W a.Base).length + cnt a.Base (W t):Nat):Int):=by rw [mH (by omega) (by omega)]; omega
   have bad:¬ (cnt a.Base (W t)=0∨cnt a.Base (W t)=(W t).length)→mG O W a.Base ([],false):=fun hc => .inr ⟨rfl,fun hW=>hc (hW.1 t ht)⟩;have five:(cnt a.Base (W t)=0∨cnt a.Base (W t)=(W t).length)→∀ j:Nat,j < k + 1→cnt a.Base (W (idx O (j:Int)))=0∨cnt a.Base (W (idx O (j:Int)))=(W (idx O (j:Int))).length:=by
    intro hc j hj;rcases Nat.lt_or_ge j k with h4 | h4
    ·exact e5 j h4
    ·have:j=k:=by omega
     subst this
     rw [hg]; exact hc
   rw [hw,a3]
   refine ax (fun h1 => ?_) (fun h1 => ?_)
   ·refine ax (fun h2 => ?_) (fun h2 => ?_)
    ·exact av (av (af (bad (by omega))))
    ·refine ax (fun h3 => ?_) (fun h3=>absurd h1 h3);refine ah (by omega) ?_;refine av (af ⟨a0,?_,?_,rfl,five (by omega)⟩)
     ·dsimp only
      rw [hss,if_pos (by omega)]
     ·dsimp only
      rw [hhs]
   ·rw [cond_false]
    refine ax (fun h3=>absurd h3 h1) (fun h3 => ?_);refine av (af ⟨a0,?_,?_,rfl,five (by omega)⟩)
    ·dsimp only
     rw [hss,if_neg (by omega)]
    ·dsimp only
     rw [hhs]
     omega
 ·have:k=O.length:=by omega
  subst this
  rw [List.take_length]
  have hall:(∀ t ∈ O,cnt a.Base (W t)=0∨cnt a.Base (W t)=(W t).length):=by
   intro t ht;obtain ⟨j,hj,rfl⟩:=qp ht;exact e5 j hj
  have hfull:=Ep hP hO hn;refine ax (fun h1 => ?_) (fun h1 => ?_)
  ·refine av (af (.inr ⟨rfl,fun hW => ?_⟩));have:=hfull.2 hW.2
   omega
  ·exact av (af (.inl ⟨rfl,hall,hfull.1 (by omega)⟩))
theorem Fj {h:History} {a:Ask} (hP:Parts O W) (hO:O.Nodup) (hW:∀ t ∈ O,aJ h t a.Key=some (W t)) (ho:aM h a=some O) (hb:a.Base.length≤64) (hn:a.Base.Nodup) :
  ∃ r,bD a.Base (xZ O W)=some r∧bn h a=some r∧mG O W a.Base r:=by
 obtain ⟨r,hr,h1⟩:=Fh hP hO hb hn;obtain ⟨s,hs,h2⟩:=GX hP hO hW ho hb hn;obtain rfl:=h1.det h2;exact ⟨r,hr,hs,h1⟩
end
theorem zH {h:History} {key:Int} {k:Nat}:(fJ h key k).Nodup:=by
 unfold fJ List.Nodup
 rw [List.pairwise_map]
 refine ((List.nodup_range (n:=k)).filter _).imp (fun {a b} hne e=>hne (by omega))
theorem Az {h:History} {a:Ask} {k:Nat}:(eX h a k).Nodup:=zH.filter _
end Go.Proofs.YtnlkggppokcmfaaT
namespace Go.Proofs.YtnlkggppokcmfaaT
open Go Go.Proofs Go.Proofs.YtnlkggppokcmfaaE
set_option linter.unusedVariables false
set_option linter.unusedSimpArgs false
def sP (s:Int) (w:List Int):Int:=w.foldl (fun x v=>w64 (x + v)) s
theorem zX {s:Int} {w:List Int} {k:Nat} (hk:k < w.length):sP s (w.take (k + 1))=w64 (sP s (w.take k) + idx w (k:Int)):=by
 unfold sP
 rw [List.take_succ_eq_append_getElem hk,List.foldl_append,(df (n:=k) rfl hk:idx w (k:Int)=w[k])]
 rfl
def Win (want:Int):List (List Int)→Int→(Nat→Prop)→Nat→Nat→Prop
 | [],s,p,_,j=>s=want∧p j
 | w::ls,s,p,i,j=>Win want ls s p (i + 1) j∨Win want ls (sP s w) (fun j=>p j∨j=i) (i + 1) j
section
variable {O:List Int} {W:Int→List Int} {want:Int}
theorem xc (hol:O.length≤32) (hwl:∀ t ∈ O,(W t).length≤16):∀ (k i:Nat),i≤O.length→O.length - i < k→∀ (sum tk wi:Int) (p q:Nat→Prop),Wd tk p→Wd wi q →
  Tri (eu k (i:Int) sum tk (xZ O W) want wi) (fun r=>Wd r (fun j=>q j∨Win want ((O.drop i).map W) sum p i j))
 | 0,i,_,hk=>by omega
 | k + 1,i,hi,hk=>by
  intro sum tk wi p q hp hq;have hw:w64 ((i:Int) + 1)=((i + 1:Nat):Int):=aZ (by omega);unfold eu gY
  rw [qY,hw]
  refine ax (fun h1 => ?_) (fun h1 => ?_)
  ·have:i=O.length:=by omega
   subst this
   rw [List.drop_length,List.map_nil]
   refine ax (fun h2 => ?_) (fun h2 => ?_)
   ·exact af ((hq.or hp).congr fun j=>by show q j∨p j↔q j∨(sum=want∧p j); simp [h2])
   ·exact af (hq.congr fun j=>by show q j↔q j∨(sum=want∧p j); simp [h2])
  ·have a0:i < O.length:=by omega
   have hd:(O.drop i).map W=W (idx O (i:Int))::(O.drop (i + 1)).map W:=by
    rw [List.drop_eq_getElem_cons a0,List.map_cons,(df (n:=i) rfl a0:idx O (i:Int)=O[i])]
   have a3:=hwl _ (eH a0);refine dN (xc hol hwl k (i + 1) (by omega) (by omega) sum tk wi p q hp hq) (fun y hy => ?_);refine ah (by omega) ?_;refine dz (k0:=0) (W (idx O (i:Int))).length (fun m s=>s.1=sP sum ((W (idx O (i:Int))).take m)∧s.2=(m:Int)) (Nat.zero_le _) ⟨by simp [sP],rfl⟩ ?_
   rintro m ⟨s,x⟩ hm ⟨f1,f2⟩
   dsimp only at f1 f2
   subst f1 f2;have a2:w64 ((m:Int) + 1)=((m + 1:Nat):Int):=aZ (by omega);unfold kT
   dsimp only
   rw [uo a0,a2,hw]
   dsimp only
   refine ax (fun h2 => ?_) (fun h2 => ?_)
   ·have a1:m < (W (idx O (i:Int))).length:=by omega
    refine ah (by omega) (af ⟨a1,?_,rfl⟩)
    dsimp only
    rw [zX a1]
   ·have:m=(W (idx O (i:Int))).length:=by omega
    subst this
    rw [List.take_length]
    refine ah (by unfold far; omega) ?_;refine dN (xc hol hwl k (i + 1) (by omega) (by omega) _ _ y _ _ (hp.or (Wd.bit (n:=i) rfl (by omega))) hy) (fun z hz => ?_);refine av (af (hz.congr fun j => ?_))
    rw [hd]
    show (q j∨Win want _ sum p (i + 1) j)∨_↔q j∨Win want _ sum p (i + 1) j∨_
    exact or_assoc
def picks (O:List Int) (f:Nat→Prop) [DecidablePred f] (k:Nat):List Int:=((List.range k).filter (fun j=>decide (f j))).map (fun j:Nat=>idx O (j:Int))
theorem yV {f:Nat→Prop} [DecidablePred f] {k:Nat}:picks O f (k + 1)=if f k then picks O f k++[idx O (k:Int)] else picks O f k:=by
 unfold picks
 rw [List.range_succ,List.filter_append,List.map_append]
 by_cases h:f k <;> simp [h]
theorem uq {f:Nat→Prop} [DecidablePred f] {k:Nat}:(picks O f k).length≤k:=by
 unfold picks
 rw [List.length_map]
 exact Nat.le_trans (List.length_filter_le _ _) (by simp)
open Classical in
theorem AA (hol:O.length≤32) (hwl:∀ t ∈ O,(W t).length≤16):dC want (xZ O W)=some (picks O (Win want (O.map W) 0 (fun _=>False) 0) O.length):=by
 refine eP.1 ?_;unfold dC aR;have:=xc (want:=want) hol hwl 64 0 (Nat.zero_le _) (by omega) 0 0 0 _ _ Wd.zero Wd.zero;refine dN this (fun y hy => ?_)
 rw [List.drop_zero] at hy
 replace hy:Wd y (Win want (O.map W) 0 (fun _=>False) 0):=hy.congr fun j=>by simp
 generalize Win want (O.map W) 0 (fun _=>False) 0=f at hy ⊢;refine dz (k0:=0) O.length (fun k s=>s=(picks O f k,(k:Int))) (Nat.zero_le _) (by simp [picks]) ?_;rintro k s hk rfl;have hw:w64 ((k:Int) + 1)=((k + 1:Nat):Int):=aZ (by omega);have hl:=uq (O:=O) (f:=f) (k:=k);have hs:=yV (O:=O) (f:=f) (k:=k);unfold mf jQ
 dsimp only
 rw [qY,hw]
 refine ax (fun h1 => ?_) (fun h1 => ?_)
 ·have a0:k < O.length:=by omega
  refine ah (by omega) (ah (by unfold far; omega) ?_)
  rw [uo a0]
  rcases hy.look (i:=(k:Int)) (n:=k) rfl (by omega) with ⟨e,hf⟩ | ⟨e,hf⟩
  ·rw [e]
   refine ax (fun _ => ?_) (fun h=>absurd rfl h);refine ah (by omega) (af ⟨a0,?_⟩)
   dsimp only
   rw [hs,if_pos hf]
  ·rw [e]
   refine ax (fun h=>absurd h (by decide)) (fun _ => ?_);refine af ⟨a0,?_⟩
   dsimp only
   rw [hs,if_neg hf]
 ·have:k=O.length:=by omega
  subst this;exact av (af rfl)
end
end Go.Proofs.YtnlkggppokcmfaaT
namespace Go.Proofs.YtnlkggppokcmfaaT
open Go Go.Proofs Go.Proofs.YtnlkggppokcmfaaE
set_option linter.unusedVariables false
set_option linter.unusedSimpArgs false
theorem wbm (x:Int):w64 x=Int.bmod x 18446744073709551616:=by
 unfold w64 IntKind.wrap
 simp only [IntKind.bits,IntKind.signed,Bool.true_and,Int.bmod_def]
 have h1:(2 ^ 64:Int)=18446744073709551616:=by decide
 have h2:=Int.emod_nonneg x (show (18446744073709551616:Int)≠0 by decide);have h3:=Int.emod_lt_of_pos x (show (0:Int) < 18446744073709551616 by decide)
 simp only [h1]
 by_cases h:x % 18446744073709551616 < 9223372036854775808
 ·rw [if_neg (by simp; omega),if_pos (by simp; omega)]
  rfl
 ·rw [if_pos (by simp; omega),if_neg (by simp; omega)]
  rfl
theorem GY (x y:Int):w64 (w64 x + y)=w64 (x + y):=by rw [wbm,wbm,wbm,Int.bmod_add_bmod]
theorem Ja (x y:Int):w64 (x + w64 y)=w64 (x + y):=by rw [Int.add_comm,GY,Int.add_comm]
theorem xe:∀ (w:List Int) (s:Int),sP (w64 s) w=w64 (s + w.sum)
 | [],s=>by simp [sP]
 | v::w,s=>by
  show sP (w64 (w64 s + v)) w=_
  rw [GY,xe w,List.sum_cons,Int.add_assoc]
theorem Er (w:List Int):sP 0 w=w64 w.sum:=by
 have h:=xe w 0
 rw [Int.zero_add] at h
 exact h
theorem Dt {m i:Nat} (hm:m < 2 ^ 62) (hi:i < 62):xq .i64 (rV .i64 (m:Int) (i:Int)) 1=if m.testBit i then 1 else 0:=by
 have h1:rV .i64 (m:Int) (i:Int)=((m >>> i:Nat):Int):=by
  unfold rV
  rw [show IntKind.bits .i64=64 from rfl,Int.toNat_natCast,Nat.min_eq_left (by omega),Nat.shiftRight_eq_div_pow]
  have:(2:Int) ^ i=((2 ^ i:Nat):Int):=(Int.natCast_pow 2 i).symm
  rw [this,Int.fdiv_eq_ediv_of_nonneg _ (Int.natCast_nonneg _)]
  exact (Int.natCast_ediv m (2 ^ i)).symm
 have h2:m >>> i < 2 ^ 62:=Nat.lt_of_le_of_lt (Nat.shiftRight_le _ _) hm;have h3:xq .i64 ((m >>> i:Nat):Int) ((1:Nat):Int)=(((m >>> i) &&& 1:Nat):Int):=by
  unfold xq
  rw [show IntKind.bits .i64=64 from rfl,BitVec.ofInt_natCast,BitVec.ofInt_natCast,BitVec.toNat_and,BitVec.toNat_ofNat,BitVec.toNat_ofNat,Nat.mod_eq_of_lt (by omega),Nat.mod_eq_of_lt (by decide)]
  have h4:(m >>> i) &&& 1≤1:=Nat.and_le_right;exact mH (by omega) (by omega)
 rw [h1,show (1:Int)=((1:Nat):Int) from rfl,h3,DC]
 cases m.testBit i <;> rfl
theorem GZ {n:Nat} (hn:n≤32):yf .i64 1 (n:Int)=((2 ^ n:Nat):Int):=by
 unfold yf
 rw [show IntKind.bits .i64=64 from rfl,Int.toNat_natCast,Nat.min_eq_left (by omega)]
 have h1:(1:Int) * 2 ^ n=((2 ^ n:Nat):Int):=by rw [Int.one_mul]; exact (Int.natCast_pow 2 n).symm
 rw [h1]
 have h2:2 ^ n≤2 ^ 32:=Nat.pow_le_pow_right (by decide) hn;generalize 2 ^ n=q at h2;exact mH (by omega) (by omega)
section
variable {O:List Int} {W:Int→List Int} {want:Int}
def nA (O:List Int) (W:Int→List Int) (f:Nat→Bool):Nat→Int
 | 0=>0
 | k + 1=>if f k then w64 (nA O W f k + sP 0 (W (idx O (k:Int)))) else nA O W f k
theorem ut {f:Nat→Bool} {k:Nat}:nA O W f (k + 1)=if f k then w64 (nA O W f k + sP 0 (W (idx O (k:Int)))) else nA O W f k:=rfl
theorem Fp {f:Nat→Bool}:∀ k,w64 (nA O W f k)=nA O W f k
 | 0=>rfl
 | k + 1=>by
  unfold nA
  split
  ·have h:=GY (nA O W f k + sP 0 (W (idx O (k:Int)))) 0
   rw [Int.add_zero,Int.add_zero] at h
   exact h
  ·exact Fp k
theorem rM {f g:Nat→Bool}:∀ k,(∀ a,a < k→f a=g a)→nA O W f k=nA O W g k
 | 0,_=>rfl
 | k + 1,h=>by
  unfold nA
  rw [h k (by omega),rM k (fun a ha=>h a (by omega))]
theorem AB (f:Nat→Bool):∀ (d i j:Nat) (f:Nat→Bool) (p:Nat→Prop),i + d=O.length→(∀ a,p a↔a < i∧f a=true) →
  (Win want ((O.drop i).map W) (nA O W f i) p i j↔∃ g:Nat→Bool,(∀ a,a < i→g a=f a)∧nA O W g O.length=want∧j < O.length∧g j=true)
 | 0,i,j,f,p,e,hp=>by
  have:i=O.length:=by omega
  subst this
  rw [List.drop_length,List.map_nil]
  show (nA O W f O.length=want∧p j)↔_
  rw [hp j]
  constructor
  ·rintro ⟨h1,h2,h3⟩; exact ⟨f,fun a _=>rfl,h1,h2,h3⟩
  ·rintro ⟨g,h1,h2,h3,h4⟩
   rw [rM O.length h1] at h2
   exact ⟨h2,h3,(h1 j h3) ▸ h4⟩
 | d + 1,i,j,f,p,e,hp=>by
  have hi:i < O.length:=by omega
  have hd:(O.drop i).map W=W (idx O (i:Int))::(O.drop (i + 1)).map W:=by
   rw [List.drop_eq_getElem_cons hi,List.map_cons,(df (n:=i) rfl hi:idx O (i:Int)=O[i])]
  rw [hd]
  show Win want _ (nA O W f i) p (i + 1) j∨Win want _ (sP (nA O W f i) (W (idx O (i:Int)))) (fun j=>p j∨j=i) (i + 1) j↔_
  have hag:∀ b:Bool,nA O W (fun a=>if a=i then b else f a) i=nA O W f i:=fun b=>rM i (fun a ha=>if_neg (by omega));have e0:nA O W (fun a=>if a=i then false else f a) (i + 1)=nA O W f i:=by
   rw [ut,hag]
   simp
  have e1:nA O W (fun a=>if a=i then true else f a) (i + 1)=sP (nA O W f i) (W (idx O (i:Int))):=by
   rw [ut,hag,if_pos (if_pos rfl),← Fp i,xe,Er,Ja,GY]
  have i0:=AB f d (i + 1) j (fun a=>if a=i then false else f a) p (by omega) (fun a=>by
   rw [hp a]
   by_cases h:a=i
   ·subst h; simp
   ·simp only [if_neg h]
    constructor
    ·rintro ⟨h1,h2⟩; exact ⟨by omega,h2⟩
    ·rintro ⟨h1,h2⟩; exact ⟨by omega,h2⟩)
  have i1:=AB f d (i + 1) j (fun a=>if a=i then true else f a) (fun j=>p j∨j=i) (by omega) (fun a=>by
   rw [hp a]
   by_cases h:a=i
   ·subst h; simp
   ·simp only [if_neg h,or_iff_left h]
    constructor
    ·rintro ⟨h1,h2⟩; exact ⟨by omega,h2⟩
    ·rintro ⟨h1,h2⟩; exact ⟨by omega,h2⟩)
  rw [e0] at i0
  rw [e1] at i1
  rw [i0,i1]
  constructor
  ·rintro (⟨g,h1,h2⟩ | ⟨g,h1,h2⟩)
   ·exact ⟨g,fun a ha=>by rw [h1 a (by omega),if_neg (by omega)],h2⟩
   ·exact ⟨g,fun a ha=>by rw [h1 a (by omega),if_neg (by omega)],h2⟩
  ·rintro ⟨g,h1,h2⟩;cases hgi:g i
   ·refine .inl ⟨g,fun a ha => ?_,h2⟩
    by_cases h:a=i
    ·subst h; rw [if_pos rfl,hgi]
    ·rw [if_neg h,h1 a (by omega)]
   ·refine .inr ⟨g,fun a ha => ?_,h2⟩
    by_cases h:a=i
    ·subst h; rw [if_pos rfl,hgi]
    ·rw [if_neg h,h1 a (by omega)]
theorem Du (g:Nat→Bool):∀ n:Nat,∃ m:Nat,m < 2 ^ n∧∀ a,a < n→m.testBit a=g a
 | 0=>⟨0,by decide,fun a h=>absurd h (Nat.not_lt_zero _)⟩
 | n + 1=>by
  obtain ⟨m,h1,h2⟩:=Du g n;have hp:2 ^ (n + 1)=2 ^ n + 2 ^ n:=by rw [Nat.pow_succ]; omega
  cases hg:g n
  ·refine ⟨m,by omega,fun a ha => ?_⟩
   by_cases h:a=n
   ·subst h; rw [hg]; exact Nat.testBit_lt_two_pow h1
   ·exact h2 a (by omega)
  ·refine ⟨2 ^ n + m,by omega,fun a ha => ?_⟩
   by_cases h:a=n
   ·subst h
    rw [Nat.testBit_two_pow_add_eq,hg,Nat.testBit_lt_two_pow h1]
    rfl
   ·rw [Nat.testBit_two_pow_add_gt (by omega)]
    exact h2 a (by omega)
def Msk (O:List Int) (W:Int→List Int) (want:Int) (m j:Nat):Prop:=nA O W m.testBit O.length=want∧m.testBit j=true
theorem Fq {j:Nat} (hj:j < O.length):Win want (O.map W) 0 (fun _=>False) 0 j↔∃ m:Nat,1≤m∧m < 2 ^ O.length∧Msk O W want m j:=by
 have h:=AB (O:=O) (W:=W) (want:=want) (fun _=>false) O.length 0 j (fun _=>false) (fun _=>False) (by omega) (fun a=>by simp)
 rw [List.drop_zero] at h
 refine Iff.trans h ?_
 constructor
 ·rintro ⟨g,_,h2,h3,h4⟩;obtain ⟨m,m1,m2⟩:=Du g O.length;refine ⟨m,?_,m1,?_,?_⟩
  ·apply Nat.lt_of_not_le
   intro h0;have:m=0:=by omega
   subst this
   rw [← m2 j hj,Nat.zero_testBit] at h4
   cases h4
  ·rw [rM O.length m2]; exact h2
  ·rw [m2 j hj]; exact h4
 ·rintro ⟨m,_,m1,m2,m3⟩;exact ⟨m.testBit,fun a ha=>absurd ha (Nat.not_lt_zero _),m2,hj,m3⟩
end
end Go.Proofs.YtnlkggppokcmfaaT
namespace Go.Proofs.YtnlkggppokcmfaaT
open Go Go.Proofs Go.Proofs.YtnlkggppokcmfaaE
set_option linter.unusedVariables false
set_option linter.unusedSimpArgs false
theorem Fs {h:History} {t key:Int} {w:List Int} (hW:aJ h t key=some w) (hl:w.length≤16):iD h t key=some (sP 0 w):=by
 refine eP.1 ?_;unfold iD;refine cO hW ?_;refine dz (k0:=0) w.length (fun m s=>s.1=sP 0 (w.take m)∧s.2=(m:Int)) (Nat.zero_le _) ⟨by simp [sP],rfl⟩ ?_
 rintro m ⟨s,x⟩ hm ⟨f1,f2⟩
 dsimp only at f1 f2
 subst f1 f2;have a1:w64 ((m:Int) + 1)=((m + 1:Nat):Int):=aZ (by omega);unfold pE
 dsimp only
 rw [a1]
 refine ax (fun h2 => ?_) (fun h2 => ?_)
 ·have a0:m < w.length:=by omega
  refine ah (by omega) (af ⟨a0,?_,rfl⟩)
  dsimp only
  rw [zX a0]
 ·have:m=w.length:=by omega
  subst this;exact av (af (by rw [List.take_length]; rfl))
section
variable {O:List Int} {W:Int→List Int}
open Classical in
theorem BG (hol:O.length≤32) (hwl:∀ t ∈ O,(W t).length≤16) {h:History} {a:Ask} (hW:∀ t ∈ O,aJ h t a.Key=some (W t)) (ho:aM h a=some O) (hb:0 < a.Base.length) :
  aC h a=some (picks O (Win (idx a.Base 0) (O.map W) 0 (fun _=>False) 0) O.length):=by
 refine eP.1 ?_;have a5:2 ^ O.length≤2 ^ 32:=Nat.pow_le_pow_right (by decide) hol;have a3:0 < 2 ^ O.length:=Nat.two_pow_pos _;unfold aC;refine cO ho ?_;refine ah (by omega) ?_;have hfin:∀ j,j < O.length→(Win (idx a.Base 0) (O.map W) 0 (fun _=>False) 0 j↔∃ m:Nat,1≤m∧m < 2 ^ O.length∧Msk O W (idx a.Base 0) m j):=fun j hj=>Fq hj;generalize Win (idx a.Base 0) (O.map W) 0 (fun _=>False) 0=f at hfin ⊢;have hshl:=GZ hol;generalize 2 ^ O.length=N at a5 a3 hfin hshl;refine dz (k0:=1) N (fun m s=>s.1.length=O.length∧s.2=(m:Int)∧∀ j,j < O.length→(idx s.1 (j:Int)=true↔∃ m':Nat,1≤m'∧m' < m∧Msk O W (idx a.Base 0) m' j)) a3 ⟨by simp,rfl,fun j hj => ?_⟩ ?_
 ·dsimp only
  rw [Int.toNat_natCast,df (n:=j) rfl (by simpa using hj)]
  simp
  intro m' h1 h2
  omega
 rintro m ⟨ok,x⟩ hm ⟨e1,e2,e3⟩
 dsimp only at e1 e2 e3
 subst e2;unfold mY
 dsimp only
 rw [hshl]
 refine ah (by unfold far; omega) ?_;refine ax (fun h1 => ?_) (fun h1 => ?_)
 ·have a4:m < N:=by omega
  have hwm:w64 ((m:Int) + 1)=((m + 1:Nat):Int):=aZ (by omega);refine dz (k0:=0) O.length (fun i s=>s.1=nA O W m.testBit i∧s.2=(i:Int)) (Nat.zero_le _) ⟨rfl,rfl⟩ ?_;rintro i ⟨s,x⟩ hi ⟨f1,f2⟩
  dsimp only at f1 f2
  subst f1 f2;have hwi:w64 ((i:Int) + 1)=((i + 1:Nat):Int):=aZ (by omega);unfold mW jL
  dsimp only
  rw [hwi]
  refine ax (fun h2 => ?_) (fun h2 => ?_)
  ·have a0:i < O.length:=by omega
   refine ah (by unfold far; omega) ?_
   rw [Dt (by omega) (by omega)]
   cases hbit:m.testBit i
   ·refine ax (fun h3=>absurd h3 (by simp)) (fun _ => ?_);refine af ⟨a0,?_,rfl⟩
    dsimp only
    rw [ut,hbit]
    rfl
   ·refine ax (fun _ => ?_) (fun h3=>absurd (by simp) h3);refine ah (by omega) ?_;refine cO (Fs (hW _ (eH a0)) (hwl _ (eH a0))) (af ⟨a0,?_,rfl⟩)
    dsimp only
    rw [ut,hbit]
    rfl
  ·have:i=O.length:=by omega
   subst this;have fin:∀ l:List Bool,l.length=O.length→(∀ j,j < O.length→(idx l (j:Int)=true↔idx ok (j:Int)=true∨Msk O W (idx a.Base 0) m j)) →
     Upm N m (fun m s=>s.1.length=O.length∧s.2=(m:Int)∧∀ j,j < O.length→(idx s.1 (j:Int)=true↔∃ m':Nat,1≤m'∧m' < m∧Msk O W (idx a.Base 0) m' j)) (fun b=>b=picks O f O.length) (.inl (l,((m + 1:Nat):Int))):=by
    intro l hl hj;refine ⟨a4,hl,rfl,fun j a2 => ?_⟩
    dsimp only
    rw [hj j a2,e3 j a2]
    constructor
    ·rintro (⟨m',h1,h2,h3⟩ | h3)
     ·exact ⟨m',h1,by omega,h3⟩
     ·refine ⟨m,?_,by omega,h3⟩
      apply Nat.lt_of_not_le
      intro h0;have:m=0:=by omega
      subst this;have:=h3.2
      rw [Nat.zero_testBit] at this
      cases this
    ·rintro ⟨m',h1,h2,h3⟩;rcases Nat.lt_or_ge m' m with h4 | h4
     ·exact .inl ⟨m',h1,h4,h3⟩
     ·have:m'=m:=by omega
      subst this;exact .inr h3
   refine dz (k0:=0) O.length (fun i s=>s.1.length=O.length∧s.2=(i:Int)∧∀ j,j < O.length→(idx s.1 (j:Int)=true↔idx ok (j:Int)=true∨(nA O W m.testBit O.length=idx a.Base 0∧j < i∧m.testBit j=true))) (Nat.zero_le _)
    ⟨e1,rfl,fun j hj=>⟨fun h => .inl h,fun h=>h.elim id (fun h=>absurd h.2.1 (Nat.not_lt_zero _))⟩⟩ ?_
   rintro i ⟨l,x⟩ hi ⟨f1,f2,f3⟩
   dsimp only at f1 f2 f3
   subst f2;have hwi:w64 ((i:Int) + 1)=((i + 1:Nat):Int):=aZ (by omega);unfold mV jN jM
   dsimp only
   rw [hwi,hwm]
   refine ax (fun h3 => ?_) (fun h3 => ?_)
   ·have a0:i < O.length:=by omega
    refine ah (by omega) ?_;refine ax (fun h4 => ?_) (fun h4 => ?_)
    ·refine ah (by omega) ?_
     rw [Int.toNat_natCast,Dt (by omega) (by omega)]
     have step:∀ v:Bool,(v=true↔idx l (i:Int)=true∨m.testBit i=true)→∀ j,j < O.length→(idx (l.set i v) (j:Int)=true↔idx ok (j:Int)=true∨(nA O W m.testBit O.length=idx a.Base 0∧j < i + 1∧m.testBit j=true)):=by
      intro v hv j hj
      rw [oh (by omega)]
      by_cases e:j=i
      ·subst e
       rw [if_pos rfl,hv,f3 j hj]
       constructor
       ·rintro ((h | ⟨_,h,_⟩) | h)
        ·exact .inl h
        ·omega
        ·exact .inr ⟨h4,by omega,h⟩
       ·rintro (h | ⟨_,_,h⟩)
        ·exact .inl (.inl h)
        ·exact .inr h
      ·rw [if_neg e,f3 j hj]
       constructor
       ·rintro (h | ⟨h,h',h''⟩)
        ·exact .inl h
        ·exact .inr ⟨h,by omega,h''⟩
       ·rintro (h | ⟨h,h',h''⟩)
        ·exact .inl h
        ·exact .inr ⟨h,by omega,h''⟩
     cases hli:idx l (i:Int)
     ·rw [cond_false]
      refine ah (by unfold far; omega) (af ⟨a0,by simp [f1],rfl,step _ ?_⟩)
      rw [hli]
      cases m.testBit i <;> simp
     ·rw [cond_true]
      refine af ⟨a0,by simp [f1],rfl,step _ ?_⟩
      rw [hli]
      simp
    ·refine av (av (af (fin l f1 fun j hj => ?_)))
     rw [f3 j hj]
     unfold Msk;exact or_congr Iff.rfl ⟨fun h=>absurd h.1 h4,fun h=>absurd h.1 h4⟩
   ·have:i=O.length:=by omega
    subst this
    rw [cond_false]
    refine av (av (af (fin l f1 fun j hj => ?_)))
    rw [f3 j hj]
    unfold Msk;exact or_congr Iff.rfl ⟨fun h=>⟨h.1,h.2.2⟩,fun h=>⟨h.1,hj,h.2⟩⟩
 ·have hmN:m=N:=by omega
  subst hmN;have e4:∀ j,j < O.length→(idx ok (j:Int)=true↔f j):=fun j hj=>(e3 j hj).trans (hfin j hj).symm;refine dz (k0:=0) O.length (fun k s=>s=(picks O f k,(k:Int))) (Nat.zero_le _) (by simp [picks]) ?_;rintro k s hk rfl;have hw:w64 ((k:Int) + 1)=((k + 1:Nat):Int):=aZ (by omega);have hl:=uq (O:=O) (f:=f) (k:=k);have hs:=yV (O:=O) (f:=f) (k:=k);unfold mX jO
  dsimp only
  rw [hw]
  refine ax (fun h1 => ?_) (fun h1 => ?_)
  ·have a1:k < O.length:=by omega
   refine ah (by omega) ?_;cases hok:idx ok (k:Int)
   ·rw [cond_false]
    refine af ⟨a1,?_⟩
    dsimp only
    rw [hs,if_neg (fun hf=>by rw [(e4 k a1).2 hf] at hok; cases hok)]
   ·rw [cond_true]
    refine ah (by omega) (ah (by omega) (af ⟨a1,?_⟩))
    dsimp only
    rw [hs,if_pos ((e4 k a1).1 hok)]
  ·have:k=O.length:=by omega
   subst this;exact av (av (af rfl))
end
end Go.Proofs.YtnlkggppokcmfaaT
namespace Go.Proofs.YtnlkggppokcmfaaT
open Go Go.Proofs Go.Proofs.YtnlkggppokcmfaaE
set_option linter.unusedVariables false
set_option linter.unusedSimpArgs false
def tQ (w:List Int):Int:=idx w ((w.length - 1:Nat):Int)
section
variable {O:List Int} {W:Int→List Int}
def lasts (O:List Int) (W:Int→List Int) (v:Int):List Int:=O.filter (fun t=>decide (tQ (W t)=v))
theorem yX {v:Int} {k:Nat} (hk:k < O.length):lasts (O.take (k + 1)) W v=if tQ (W (idx O (k:Int)))=v then lasts (O.take k) W v++[idx O (k:Int)] else lasts (O.take k) W v:=by
 unfold lasts
 rw [List.take_succ_eq_append_getElem hk,List.filter_append,(df (n:=k) rfl hk:idx O (k:Int)=O[k])]
 by_cases h:tQ (W O[k])=v <;> simp [h]
theorem zY {v:Int} {k:Nat}:(lasts (O.take k) W v).length≤O.length:=Nat.le_trans (List.length_filter_le _ _) (by rw [List.length_take]; omega)
theorem Fu (hol:O.length≤32) (hne:∀ t ∈ O,0 < (W t).length) (hwl:∀ t ∈ O,(W t).length≤16) {a:Ask} (hb:0 < a.Base.length) :
  iter (jT a (xZ O W)) ([],0)=some (lasts O W (idx a.Base 0)):=by
 refine eP.1 ?_;refine dz (k0:=0) O.length (fun k s=>s.1=lasts (O.take k) W (idx a.Base 0)∧s.2=(k:Int)) (Nat.zero_le _) ⟨by simp [lasts],rfl⟩ ?_
 rintro k ⟨l,x⟩ hk ⟨e1,e2⟩
 dsimp only at e1 e2
 subst e1 e2;have hw:w64 ((k:Int) + 1)=((k + 1:Nat):Int):=aZ (by omega);have hl:=zY (O:=O) (W:=W) (v:=idx a.Base 0) (k:=k);unfold jT jS dQ
 dsimp only
 rw [qY,hw]
 refine ax (fun h1 => ?_) (fun h1 => ?_)
 ·have a0:k < O.length:=by omega
  have h0:=hne _ (eH a0);have a1:=hwl _ (eH a0);have hs:=yX (W:=W) (v:=idx a.Base 0) a0
  rw [uo a0]
  dsimp only
  have hp:w64 (((W (idx O (k:Int))).length:Int) - 1)=(((W (idx O (k:Int))).length - 1:Nat):Int):=jD (by omega) (by omega)
  rw [hp]
  refine ah (by omega) (ah (by omega) (ah (by omega) ?_));refine ax (fun h2 => ?_) (fun h2 => ?_)
  ·refine ah (by omega) (af ⟨a0,?_,rfl⟩)
   dsimp only
   rw [hs,if_pos (show tQ _=_ from h2)]
  ·refine af ⟨a0,?_,rfl⟩
   dsimp only
   rw [hs,if_neg (show ¬ tQ _=_ from h2)]
 ·have:k=O.length:=by omega
  subst this;exact av (af (by rw [List.take_length]; rfl))
theorem Ha (hol:O.length≤32) (hne:∀ t ∈ O,0 < (W t).length) (hwl:∀ t ∈ O,(W t).length≤16) {h:History} {a:Ask} (hW:∀ t ∈ O,aJ h t a.Key=some (W t)) (hb:0 < a.Base.length) :
  iter (mr h a O) ([],0)=some (lasts O W (idx a.Base 0)):=by
 refine eP.1 ?_;refine dz (k0:=0) O.length (fun k s=>s.1=lasts (O.take k) W (idx a.Base 0)∧s.2=(k:Int)) (Nat.zero_le _) ⟨by simp [lasts],rfl⟩ ?_
 rintro k ⟨l,x⟩ hk ⟨e1,e2⟩
 dsimp only at e1 e2
 subst e1 e2;have hw:w64 ((k:Int) + 1)=((k + 1:Nat):Int):=aZ (by omega);have hl:=zY (O:=O) (W:=W) (v:=idx a.Base 0) (k:=k);unfold mr mq fZ
 dsimp only
 rw [hw]
 refine ax (fun h1 => ?_) (fun h1 => ?_)
 ·have a0:k < O.length:=by omega
  have h0:=hne _ (eH a0);have a1:=hwl _ (eH a0);have hs:=yX (W:=W) (v:=idx a.Base 0) a0;refine ah (by omega) (cO (hW _ (eH a0)) ?_);have hp:w64 (((W (idx O (k:Int))).length:Int) - 1)=(((W (idx O (k:Int))).length - 1:Nat):Int):=jD (by omega) (by omega)
  rw [hp]
  refine ah (by omega) (ah (by omega) ?_);refine ax (fun h2 => ?_) (fun h2 => ?_)
  ·refine ah (by omega) (af ⟨a0,?_,rfl⟩)
   dsimp only
   rw [hs,if_pos (show tQ _=_ from h2)]
  ·refine af ⟨a0,?_,rfl⟩
   dsimp only
   rw [hs,if_neg (show ¬ tQ _=_ from h2)]
 ·have:k=O.length:=by omega
  subst this;exact av (af (by rw [List.take_length]; rfl))
end
abbrev oth (h:History) (a:Ask):List Int:=eX h a h.Txns.length
abbrev wro (h:History) (a:Ask):Int→List Int:=fun t=>ed h t a.Key
open Classical in
def qx (h:History) (a:Ask) (ty:Int) (s:List Int):Prop :=
 if ty=4 then s=(if idx a.Base 0=0 then [-1] else [])++picks (oth h a) (Win (idx a.Base 0) ((oth h a).map (wro h a)) 0 (fun _=>False) 0) (oth h a).length
 else if a.Base.length=0 then s=[-1]
 else if ty=1 then s=lasts (oth h a) (wro h a) (idx a.Base 0)
 else if ty=2 then ∃ r,yR (oth h a) (wro h a) a.Base r∧s=if r.2=true then [tQ r.1] else []
 else ∃ r,mG (oth h a) (wro h a) a.Base r∧s=r.1
theorem rO {h:History} (hS:gU h) (hc:aB h=some 0) {a:Ask} {t p:Nat} (ha:zR h a t p) :
  ∃ s,aK h a=some s∧bv h a=some s∧qx h a (typ (opAt h (t:Int) (p:Int)).Kind) s:=by
 have a6:=hS.len;obtain ⟨k1,k8⟩:=um hS ha.tl ha.pl;have hT:dZ h a.Key=some (typ (opAt h (t:Int) (p:Int)).Kind):=Ei hS hc ha.tl ha.pl ha.e3.symm;have hK:=Eh hS ha.tl ha.pl ha.e1 ha.e2;have hF:bI h a=some (xZ (oth h a) (wro h a)):=Bv hS hc;have hO:aM h a=some (oth h a):=Bu hS;have hol:(oth h a).length≤32:=Nat.le_trans oK a6;have hmem:∀ u ∈ oth h a,∃ n:Nat,u=(n:Int)∧n < h.Txns.length∧0 < (wro h a u).length:=fun u hu=>by
  obtain ⟨⟨h0,h1,_,h3⟩,_⟩:=rJ.1 hu;exact ⟨u.toNat,by omega,by omega,h3⟩
 have hwl:∀ u ∈ oth h a,(wro h a u).length≤16:=fun u hu=>by
  obtain ⟨n,rfl,hn,_⟩:=hmem u hu;exact Nat.le_trans xB (hS.txn n hn).ops.1
 have hne:∀ u ∈ oth h a,0 < (wro h a u).length:=fun u hu=>by obtain ⟨n,_,_,h3⟩:=hmem u hu; exact h3
 have hW:∀ u ∈ oth h a,aJ h u a.Key=some (wro h a u):=fun u hu=>by
  obtain ⟨n,rfl,hn,_⟩:=hmem u hu;exact yN ⟨by omega,by omega⟩ (hS.txn n hn).ops.1
 have hP:=fun a7=>BD (a:=a) hS ha a7;have a5:=ha.b64;have a3:=ha.b4;have a4:=ha.b3;have hty:typ (opAt h (t:Int) (p:Int)).Kind=1∨typ (opAt h (t:Int) (p:Int)).Kind=2∨typ (opAt h (t:Int) (p:Int)).Kind=3∨typ (opAt h (t:Int) (p:Int)).Kind=4:=by unfold typ; omega
 generalize typ (opAt h (t:Int) (p:Int)).Kind=ty at hT hK a3 a4 hty hP;have bz:0 < a.Base.length→((a.Base.length:Int) == 0)=false:=fun h=>by rw [beq_eq_false_iff_ne]; omega
 have b0:a.Base.length=0→((a.Base.length:Int) == 0)=true:=fun h=>by rw [beq_iff_eq]; omega
 unfold aK bv kN
 simp only [hT,hK,hF,hO,Option.bind_some]
 by_cases h0:a.Base.length=0∧ty≠4
 ·obtain ⟨h0,h4⟩:=h0;refine ⟨[-1],?_,?_,?_⟩
  ·rw [b0 h0,beq_eq_false_iff_ne.2 h4]; rfl
  ·rw [b0 h0,beq_eq_false_iff_ne.2 h4]; rfl
  ·unfold qx; rw [if_neg h4,if_pos h0]
 ·rcases hty with rfl | rfl | rfl | rfl
  ·have hb:0 < a.Base.length:=by omega
   rw [bz hb]
   refine ⟨lasts (oth h a) (wro h a) (idx a.Base 0),Fu (W:=wro h a) hol hne hwl (a:=a) hb,Ha (W:=wro h a) hol hne hwl hW hb,?_⟩;unfold qx
   rw [if_neg (by decide),if_neg (by omega),if_pos rfl]
  ·have hb:0 < a.Base.length:=by omega
   rw [bz hb]
   obtain ⟨⟨l,b⟩,a1,a2,a0⟩:=Eo (hP (.inl rfl)) hW hO a5;have hsrc:qx h a 2 (if b=true then [tQ l] else []):=by
    unfold qx
    rw [if_neg (by decide),if_neg (by omega),if_neg (by decide),if_pos rfl]
    exact ⟨_,a0,rfl⟩
   refine ⟨_,?_,?_,hsrc⟩
   ·rw [a1]
    refine eP.1 ?_
    show Tri (bif b then _ else _) _
    cases b
    ·exact af rfl
    ·have hl:0 < l.length∧l.length≤32:=by
      rcases a0 with ⟨_,h1,h2,h3⟩ | ⟨h1,_⟩
      ·refine ⟨?_,Nat.le_trans (vY h2 h1) hol⟩
       apply Nat.lt_of_not_le
       intro hle;have:l=[]:=List.length_eq_zero_iff.1 (by omega);subst this
       rw [h3] at hb
       simp at hb
      ·cases h1
     have hp:w64 ((l.length:Int) - 1)=((l.length - 1:Nat):Int):=jD (by omega) (by omega)
     dsimp only
     rw [hp]
     refine ah (by omega) (af ?_)
     rw [wY]
     show l.drop (l.length - 1)=[tQ l]
     rw [List.drop_eq_getElem_cons (by omega),List.drop_eq_nil_of_le (by omega)]
     unfold tQ
     rw [df (n:=l.length - 1) rfl (by omega)]
   ·rw [a2]
    refine eP.1 ?_
    show Tri (bif b then _ else _) _
    cases b
    ·exact af rfl
    ·have hl:0 < l.length∧l.length≤32:=by
      rcases a0 with ⟨_,h1,h2,h3⟩ | ⟨h1,_⟩
      ·refine ⟨?_,Nat.le_trans (vY h2 h1) hol⟩
       apply Nat.lt_of_not_le
       intro hle;have:l=[]:=List.length_eq_zero_iff.1 (by omega);subst this
       rw [h3] at hb
       simp at hb
      ·cases h1
     have hp:w64 ((l.length:Int) - 1)=((l.length - 1:Nat):Int):=jD (by omega) (by omega)
     dsimp only
     rw [hp]
     exact ah (by omega) (ah (by omega) (af rfl))
  ·have hb:0 < a.Base.length:=by omega
   rw [bz hb]
   obtain ⟨⟨l,b⟩,a1,a2,a0⟩:=Fj (hP (.inr rfl)) Az hW hO a5 (a4 rfl);have hsrc:qx h a 3 l:=by
    unfold qx
    rw [if_neg (by decide),if_neg (by omega),if_neg (by decide),if_neg (by decide)]
    exact ⟨_,a0,rfl⟩
   refine ⟨_,?_,?_,hsrc⟩
   ·rw [a1]; rfl
   ·rw [a2]
    refine eP.1 ?_
    show Tri (bif b then _ else _) _
    cases b
    ·refine af ?_;rcases a0 with ⟨h1,_⟩ | ⟨h1,_⟩
     ·cases h1
     ·cases h1; rfl
    ·exact af rfl
  ·classical
   have hb:0 < a.Base.length:=by have:=a3 rfl; omega
   have hcc:=AA (W:=wro h a) (want:=idx a.Base 0) hol hwl;have hcr:=BG (W:=wro h a) hol hwl hW hO hb;generalize hpk:picks (oth h a) (Win (idx a.Base 0) ((oth h a).map (wro h a)) 0 (fun _=>False) 0) (oth h a).length=pk at hcc hcr;have hpl:pk.length≤32:=by rw [← hpk]; exact Nat.le_trans uq hol
   have hsrc:qx h a 4 ((if idx a.Base 0=0 then [-1] else [])++pk):=by
    unfold qx
    rw [if_pos rfl,← hpk]
   refine ⟨_,?_,?_,hsrc⟩
   ·refine eP.1 ?_;unfold jR dQ
    simp only [hF,hcc,Option.bind_some]
    refine ah (by omega) ?_;refine ax (fun h1 => ?_) (fun h1 => ?_)
    ·refine ah (by omega) (ah (by omega) (ah ?_ (af ?_)))
     ·simp only [List.length_append,List.length_singleton,List.length_nil]; omega
     ·rw [if_pos h1]; rfl
    ·refine ah (by omega) (ah ?_ (af ?_))
     ·simp only [List.length_nil]; omega
     ·rw [if_neg h1]
   ·refine eP.1 ?_;unfold mo
    simp only [hcr,Option.bind_some]
    refine ah (by omega) ?_;refine ax (fun h1 => ?_) (fun h1 => ?_)
    ·refine ah (by omega) (af ?_)
     rw [if_pos h1]
    ·refine af ?_
     rw [if_neg h1]; rfl
end Go.Proofs.YtnlkggppokcmfaaT
namespace Go.Proofs.YtnlkggppokcmfaaT
open Go Go.Proofs Go.Proofs.YtnlkggppokcmfaaE
set_option linter.unusedVariables false
set_option linter.unusedSimpArgs false
noncomputable def uL (h:History) (a:Ask):List Int:=(aK h a).getD []
theorem Es {h:History} (hS:gU h) (hc:aB h=some 0) {a:Ask} (ha:a ∈ eY h h.Txns.length):aK h a=some (uL h a)∧bv h a=some (uL h a):=by
 obtain ⟨t,p,hk⟩:=yQ hS ha;obtain ⟨s,h1,h2,_⟩:=rO hS hc hk;unfold uL
 rw [h1,h2]
 exact ⟨rfl,rfl⟩
theorem BH {l:List Ask} {j:Nat} (hj:j < l.length):idx l (j:Int) ∈ l:=by rw [df (n:=j) rfl hj]; exact List.getElem_mem _
section
variable {h:History}
end
end Go.Proofs.YtnlkggppokcmfaaT
namespace Go.Proofs.YtnlkggppokcmfaaT
open Go Go.Proofs Go.Proofs.YtnlkggppokcmfaaE
set_option linter.unusedVariables false
set_option linter.unusedSimpArgs false
theorem BI {b a:Ask} (ha:a.Base.length < 2 ^ 60):Tri (ko b a) (fun r=>r=true↔a=b):=by
 unfold ko
 rw [uZ (by omega)]
 obtain ⟨a1,a2,a3,a4⟩:=a;obtain ⟨b1,b2,b3,b4⟩:=b
 dsimp only
 refine ax (fun e1 => ?_) (fun e1=>af ?_)
 ·refine ax (fun e2 => ?_) (fun e2=>af ?_)
  ·refine ax (fun e3=>af ?_) (fun e3=>af ?_)
   ·simp [e1,e2,e3]
   ·simp [e3]
  ·simp [e2]
 ·simp [e1]
theorem zI {l:List Ask} {a:Ask} (ha:a.Base.length < 2 ^ 60) (hl:l.length < 2 ^ 60):Tri (bX l a) (fun r=>r=true↔a ∈ l):=by
 have h1:Tri (aX l a) (fun r=>0≤r↔a ∈ l):=by
  unfold aX;refine dz (k0:=0) l.length (fun k s=>s=(k:Int)∧∀ j:Nat,j < k→a≠idx l (j:Int)) (Nat.zero_le _) ⟨rfl,fun j h=>absurd h (Nat.not_lt_zero _)⟩ ?_;rintro k s hk ⟨rfl,hno⟩;have hw:w64 ((k:Int) + 1)=((k + 1:Nat):Int):=aZ (by omega);unfold dU
  dsimp only
  rw [hw]
  refine ax (fun h1 => ?_) (fun h1 => ?_)
  ·have a0:k < l.length:=by omega
   refine ah (by omega) (dN (BI ha) (fun r hr => ?_));refine ax (fun h2 => ?_) (fun h2 => ?_)
   ·refine av (af ⟨fun _ => ?_,fun _=>by omega⟩)
    rw [hr.1 h2]
    exact BH a0
   ·refine af ⟨a0,rfl,fun j hj => ?_⟩;rcases Nat.lt_or_ge j k with h3 | h3
    ·exact hno j h3
    ·have:j=k:=by omega
     subst this;exact fun e=>h2 (hr.2 e)
  ·have:k=l.length:=by omega
   subst this;refine av (af ⟨fun h=>absurd h (by decide),fun h => ?_⟩);obtain ⟨j,hj,e⟩:=List.getElem_of_mem h;exact absurd (e.symm.trans (df rfl hj).symm) (hno j hj)
 unfold bX;refine dN h1 (fun r hr=>af ?_)
 rw [decide_eq_true_iff]
 exact hr
theorem CL {h:History} (hs:pM h) (hS:gU h) (hc:aB h=some 0) {a:Ask} (ha:a.Base.length < 2 ^ 60) :
  Tri (ji h a) (fun r=>(r=0∧a ∈ eY h h.Txns.length)∨(r=1∧a ∉ eY h h.Txns.length)):=by
 have a0:=hS.len;obtain ⟨i1,_,_⟩:=wX hS h.Txns.length (Nat.le_refl _);have hA:gz h=some (eY h h.Txns.length,0):=by unfold gz; rw [Bt hs hS hc]; rfl
 unfold ji;refine cO hA ?_;refine ax (fun h1=>absurd rfl h1) (fun _ => ?_);refine dN (zI ha (by dsimp only; omega)) (fun r hr => ?_);refine ax (fun h1 => ?_) (fun h1 => ?_)
 ·exact af (.inl ⟨rfl,hr.1 h1⟩)
 ·exact af (.inr ⟨rfl,fun h2=>h1 (hr.2 h2)⟩)
theorem Fv {h:History} (hS:gU h) {a:Ask} (ha:a ∈ eY h h.Txns.length):a.Base.length < 2 ^ 60:=by
 obtain ⟨t,p,hk⟩:=yQ hS ha;have:=hk.b64
 omega
theorem vZ {h:History} (hs:pM h) (hS:gU h) (hc:aB h=some 0) {a:Ask} (ha:a ∈ eY h h.Txns.length):dV h a=some (uL h a,0):=by
 refine eP.1 ?_;unfold dV;refine dN (CL hs hS hc (Fv hS ha)) (fun r hr => ?_);rcases hr with ⟨rfl,_⟩ | ⟨_,h1⟩
 ·refine ax (fun h1=>absurd rfl h1) (fun _ => ?_);exact cO (Es hS hc ha).1 (af rfl)
 ·exact absurd ha h1
end Go.Proofs.YtnlkggppokcmfaaT
namespace Go.Proofs.YtnlkggppokcmfaaT
open Go Go.Proofs Go.Proofs.YtnlkggppokcmfaaE
set_option linter.unusedVariables false
set_option linter.unusedSimpArgs false
end Go.Proofs.YtnlkggppokcmfaaT
namespace Go.Proofs.YtnlkggppokcmfaaT
open Go Go.Proofs Go.Proofs.YtnlkggppokcmfaaE
set_option linter.unusedVariables false
set_option linter.unusedSimpArgs false
theorem Et {O:List Int} {W:Int→List Int} {base:List Int}:(qw O W base).length≤O.length:=List.length_filter_le _ _
theorem Eu {O:List Int} {W:Int→List Int} {base:List Int} {r:List Int×Bool} (h:mG O W base r):r.1.length≤O.length:=by
 rcases h with ⟨rfl,_⟩ | ⟨rfl,_⟩
 ·exact Et
 ·exact Nat.zero_le _
theorem Hd {h:History} (hS:gU h) {a:Ask}:(oth h a).length≤32:=Nat.le_trans oK hS.len
theorem zZ {h:History} (hS:gU h) (hc:aB h=some 0) {a:Ask} (ha:a ∈ eY h h.Txns.length):(uL h a).length≤33:=by
 classical
 obtain ⟨t,p,hk⟩:=yQ hS ha;obtain ⟨s,h1,_,h3⟩:=rO hS hc hk;have e:uL h a=s:=by unfold uL; rw [h1]; rfl
 rw [e]
 have hol:=Hd hS (a:=a);unfold qx at h3
 split at h3
 ·rw [h3,List.length_append]
  have:=uq (O:=oth h a) (f:=Win (idx a.Base 0) ((oth h a).map (wro h a)) 0 (fun _=>False) 0) (k:=(oth h a).length)
  split <;> simp <;> omega
 ·split at h3
  ·rw [h3]; simp
  ·split at h3
   ·rw [h3]
    exact Nat.le_trans (List.length_filter_le _ _) (by omega)
   ·split at h3
    ·obtain ⟨r,h4,rfl⟩:=h3
     split <;> simp
    ·obtain ⟨r,h4,rfl⟩:=h3;have:=Eu h4
     omega
section
variable {h:History}
theorem Fw (hs:pM h) (i:Int):Tri (dG h i) (fun r=>r.2=true→r.1 ∈ eY h h.Txns.length∧gU h∧aB h=some 0):=by
 obtain ⟨v,hv,hv',a0,hiff⟩:=yI hs;unfold dG;rcases a0 with rfl | rfl
 ·have hS:=hiff.1 rfl;have a2:=hS.len;obtain ⟨i1,_,_⟩:=wX hS h.Txns.length (Nat.le_refl _);have hA:gz h=some (eY h h.Txns.length,0):=by unfold gz; rw [Bt hs hS hv]; rfl
  generalize hl:eY h h.Txns.length=l at hA i1;refine cO hA ?_;refine ax (fun h1=>absurd rfl h1) (fun _ => ?_);unfold gT;refine ax (fun h1=>af (fun h=>(nomatch h))) (fun h1 => ?_);have hn:0 < l.length:=by
   rcases Nat.eq_zero_or_pos l.length with h2 | h2
   ·exact absurd (by simpa using congrArg (Int.ofNat) h2) h1
   ·exact h2
  have hw:IntKind.wrap .u64 ((l.length:Int))=(l.length:Int):=wrap_u64 (by omega)
  dsimp only
  rw [hw]
  have hu:0≤IntKind.wrap .u64 i:=by simp only [IntKind.wrap,IntKind.signed,IntKind.bits]; exact Int.emod_nonneg _ (by decide)
  have hm:=Int.emod_nonneg (IntKind.wrap .u64 i) (b:=(l.length:Int)) (by omega);have a1:=Int.emod_lt_of_pos (IntKind.wrap .u64 i) (b:=(l.length:Int)) (by omega)
  rw [Int.tmod_eq_emod_of_nonneg hu]
  have e:w64 (IntKind.wrap .u64 i % (l.length:Int))=((IntKind.wrap .u64 i % (l.length:Int)).toNat:Int):=by
   rw [mH (by omega) (by omega)]; omega
  rw [e]
  refine ah (by omega) (ah (by omega) (af (fun _=>⟨BH (by omega),hS,hv⟩)))
 ·have hA:gz h=some ([],1):=by
   unfold gz iZ
   rw [hv]
   rfl
  refine cO hA ?_;refine ax (fun _ => ?_) (fun h1=>absurd (by decide) h1);unfold gT;exact af (fun h=>(nomatch h))
end
end Go.Proofs.YtnlkggppokcmfaaT
namespace Go.Proofs.YtnlkggppokcmfaaT
open Go Go.Proofs Go.Proofs.YtnlkggppokcmfaaE
set_option linter.unusedVariables false
set_option linter.unusedSimpArgs false
theorem CO {l:List Int} {x:Int} (hl:l.length < 2 ^ 60):dI l x=some (decide (x ∈ l)):=by
 refine DD.1 ?_;unfold dI;refine dz (k0:=0) l.length (fun k s=>s=(k:Int)∧∀ j:Nat,j < k→idx l (j:Int)≠x) (Nat.zero_le _) ⟨rfl,fun j h=>absurd h (Nat.not_lt_zero _)⟩ ?_;rintro k s hk ⟨rfl,hno⟩;have hw:w64 ((k:Int) + 1)=((k + 1:Nat):Int):=aZ (by omega);unfold mh
 dsimp only
 rw [hw]
 refine ax (fun h1 => ?_) (fun h1 => ?_)
 ·have a0:k < l.length:=by omega
  refine ah (by omega) ?_;refine ax (fun h2 => ?_) (fun h2 => ?_)
  ·refine av (af ⟨fun _ => ?_,fun _=>rfl⟩)
   rw [← h2]
   exact eH a0
  ·refine af ⟨a0,rfl,fun j hj => ?_⟩;rcases Nat.lt_or_ge j k with h3 | h3
   ·exact hno j h3
   ·have:j=k:=by omega
    subst this;exact h2
 ·have:k=l.length:=by omega
  subst this;refine av (af ⟨fun h=>(nomatch h),fun h => ?_⟩);obtain ⟨j,hj,e⟩:=qp h;exact absurd e (hno j hj)
section
variable {h:History} {m:Txn}
abbrev plus (h:History) (m:Txn):History:=⟨h.Keys,h.Txns++[m]⟩
theorem tT {t:Nat} (ht:t < h.Txns.length):idx (plus h m).Txns (t:Int)=idx h.Txns (t:Int):=gN ht
theorem Dv {t key:Int} (h0:0≤t) (ht:t < (h.Txns.length:Int)):ed (plus h m) t key=ed h t key:=by
 obtain ⟨n,rfl⟩:∃ n:Nat,t=(n:Int):=⟨t.toNat,by omega⟩
 unfold ed
 rw [tT (by omega)]
theorem Dw {a:Ask}:∀ k:Nat,k≤h.Txns.length→eX (plus h m) a k=eX h a k
 | 0,_=>rfl
 | k + 1,hk=>by
  have e:yO (plus h m) a.Key k=yO h a.Key k:=by
   unfold yO
   rw [tT (by omega),Dv (by omega) (by omega)]
  rw [nO,nO,Dw k (by omega),e]
theorem yY {a:Ask}:oth (plus h m) a=oth h a∨oth (plus h m) a=oth h a++[(h.Txns.length:Int)]:=by
 show eX (plus h m) a (h.Txns++[m]).length=eX h a h.Txns.length∨eX (plus h m) a (h.Txns++[m]).length=_
 rw [List.length_append,List.length_singleton,nO,Dw _ (Nat.le_refl _)]
 split
 ·exact .inr rfl
 ·exact .inl rfl
theorem CP {a:Ask} {x:Int} (hx:x ∈ oth h a):0≤x∧x < (h.Txns.length:Int):=by
 obtain ⟨⟨h0,h1,_⟩,_⟩:=rJ.1 hx;exact ⟨h0,h1⟩
theorem tV {a:Ask} {x:Int} (hx:x ∈ oth h a):x ∈ oth (plus h m) a:=by
 rcases yY (h:=h) (m:=m) (a:=a) with e | e <;> rw [e]
 ·exact hx
 ·exact List.mem_append_left _ hx
theorem He {a:Ask} {x:Int} (hx:x ∈ oth (plus h m) a):x ∈ oth h a∨x=(h.Txns.length:Int):=by
 rcases yY (h:=h) (m:=m) (a:=a) with e | e <;> rw [e] at hx
 ·exact .inl hx
 ·rcases List.mem_append.1 hx with h1 | h1
  ·exact .inl h1
  ·exact .inr (by simpa using h1)
theorem pU {a:Ask} {x:Int} (hx:x ∈ oth h a):wro (plus h m) a x=wro h a x:=Dv (CP hx).1 (CP hx).2
theorem yZ (hm:m.Status≠1) {a:Ask} (ha:a ∈ eY h h.Txns.length):a ∈ eY (plus h m) (plus h m).Txns.length:=by
 have hl:(plus h m).Txns.length=h.Txns.length + 1:=by simp [plus]
 unfold eY at ha ⊢
 rw [List.mem_flatMap] at ha ⊢
 obtain ⟨t,ht,hx⟩:=ha
 rw [List.mem_range] at ht
 refine ⟨t,by rw [List.mem_range,hl]; omega,?_⟩
 unfold qO at hx ⊢
 rwa [tT ht]
theorem za {want:Int} {w:List Int}:∀ {ls:List (List Int)} {s:Int} {p:Nat→Prop} {i j:Nat},Win want ls s p i j→Win want (ls++[w]) s p i j
 | [],_,_,_,_,h => .inl h
 | _::_,_,_,_,_,h=>h.imp za za
theorem Ev {O:List Int} {f:Nat→Prop} [DecidablePred f] {k:Nat} {x:Int}:x ∈ picks O f k↔∃ j:Nat,j < k∧f j∧idx O (j:Int)=x:=by
 unfold picks
 simp only [List.mem_map,List.mem_filter,List.mem_range,decide_eq_true_eq]
 constructor
 ·rintro ⟨j,⟨h1,h2⟩,h3⟩; exact ⟨j,h1,h2,h3⟩
 ·rintro ⟨j,h1,h2,h3⟩; exact ⟨j,⟨h1,h2⟩,h3⟩
theorem xD.uniq {O:List Int} {W:Int→List Int} (hP:Parts O W):∀ {m n:List Int},(∀ t ∈ m,t ∈ O)→(∀ t ∈ n,t ∈ O)→m.flatMap W=n.flatMap W→m=n
 | [],[],_,_,_=>rfl
 | [],u::n,_,h2,e=>by
  have:=hP.ne u (h2 u (by simp));have e2:=congrArg List.length e
  rw [List.flatMap_nil,List.flatMap_cons,List.length_append,List.length_nil] at e2
  omega
 | u::m,[],h1,_,e=>by
  have:=hP.ne u (h1 u (by simp));have e2:=congrArg List.length e
  rw [List.flatMap_nil,List.flatMap_cons,List.length_append,List.length_nil] at e2
  omega
 | u::m,v::n,h1,h2,e=>by
  have hu:=hP.ne u (h1 u (by simp));have hv:=hP.ne v (h2 v (by simp))
  rw [List.flatMap_cons,List.flatMap_cons] at e
  have e0:(W u)[0]=(W v)[0]:=by
   have:=congrArg (fun l=>l[0]?) e
   simp only [List.getElem?_append_left hu,List.getElem?_append_left hv] at this
   rw [List.getElem?_eq_getElem hu,List.getElem?_eq_getElem hv] at this
   exact Option.some.inj this
  have huv:u=v:=hP.ap u (h1 u (by simp)) v (h2 v (by simp)) (W u)[0] (List.getElem_mem _) (by rw [e0]; exact List.getElem_mem _);subst huv
  rw [List.append_cancel_left_eq] at e
  rw [xD.uniq hP (fun t ht=>h1 t (by simp [ht])) (fun t ht=>h2 t (by simp [ht])) e]
theorem Fx (hS:gU h) (hS':gU (plus h m)) {a:Ask} {t p:Nat} (ha:zR h a t p) (ha':zR (plus h m) a t p) {s s':List Int}
  (h1:qx h a (typ (opAt h (t:Int) (p:Int)).Kind) s) (h2:qx (plus h m) a (typ (opAt h (t:Int) (p:Int)).Kind) s') {x:Int} (hx:x ∈ s):x ∈ s':=by
 classical
 have hty:typ (opAt (plus h m) (t:Int) (p:Int)).Kind=typ (opAt h (t:Int) (p:Int)).Kind:=by unfold opAt; rw [tT ha.tl]
 have hP:=fun a0=>BD (a:=a) hS' ha' (by rw [hty]; exact a0);have hmap:(oth h a).map (wro (plus h m) a)=(oth h a).map (wro h a):=List.map_congr_left fun x hx=>pU hx;have hks:1≤typ (opAt h (t:Int) (p:Int)).Kind∧typ (opAt h (t:Int) (p:Int)).Kind≤4:=by
  obtain ⟨k1,k8⟩:=um hS ha.tl ha.pl;unfold typ
  omega
 generalize typ (opAt h (t:Int) (p:Int)).Kind=ty at h1 h2 hP hks;unfold qx at h1 h2
 by_cases h4:ty=4
 ·rw [if_pos h4] at h1 h2
  rw [h1] at hx
  rw [h2]
  rcases List.mem_append.1 hx with hx | hx
  ·exact List.mem_append_left _ hx
  ·refine List.mem_append_right _ ?_
   rw [Ev] at hx ⊢
   obtain ⟨j,hj,hw,e⟩:=hx;rcases yY (h:=h) (m:=m) (a:=a) with eo | eo
   ·rw [eo,hmap]
    exact ⟨j,hj,hw,e⟩
   ·rw [eo,List.map_append,hmap]
    exact ⟨j,by simp; omega,za hw,by rw [gN hj]; exact e⟩
 ·rw [if_neg h4] at h1 h2
  by_cases h0:a.Base.length=0
  ·rw [if_pos h0] at h1 h2
   rw [h2,← h1]; exact hx
  ·rw [if_neg h0] at h1 h2
   by_cases e1:ty=1
   ·rw [if_pos e1] at h1 h2
    rw [h1] at hx
    rw [h2]
    unfold lasts at hx ⊢
    rw [List.mem_filter] at hx ⊢
    refine ⟨tV hx.1,?_⟩
    rw [pU hx.1]
    exact hx.2
   ·rw [if_neg e1] at h1 h2
    by_cases e2:ty=2
    ·rw [if_pos e2] at h1 h2
     obtain ⟨r,hr,rfl⟩:=h1;obtain ⟨r',hr',rfl⟩:=h2;rcases hr with ⟨q1,q2,q3,q4⟩ | ⟨rfl,_⟩
     ·rw [if_pos q1] at hx
      have hmk:xD (oth (plus h m) a) (wro (plus h m) a) a.Base r.1:=by
       refine ⟨fun t ht=>tV (q2 t ht),q3,?_⟩;refine q4.trans ?_
       rw [List.flatMap_def,List.flatMap_def,List.map_congr_left fun x hx=>(pU (q2 x hx)).symm]
      rcases hr' with ⟨p1,p2,p3,p4⟩ | ⟨_,p2⟩
      ·rw [if_pos p1]
       rw [xD.uniq (hP (.inl e2)) p2 hmk.1 (p4.symm.trans hmk.2.2)]
       exact hx
      ·exact absurd hmk (p2 _)
     ·simp at hx
    ·rw [if_neg e2] at h1 h2
     have e3:ty=3:=by omega
     obtain ⟨r,hr,rfl⟩:=h1;obtain ⟨r',hr',rfl⟩:=h2;rcases hr with ⟨rfl,q1,q2⟩ | ⟨rfl,_⟩
     ·have hW:Whole (oth (plus h m) a) (wro (plus h m) a) a.Base:=by
       refine ⟨fun t ht => ?_,fun v hv => ?_⟩
       ·rcases He ht with h3 | h3
        ·rw [pU h3]; exact q1 t h3
        ·left
         unfold cnt
         rw [List.length_eq_zero_iff,List.filter_eq_nil_iff]
         intro v hv hb;obtain ⟨u,hu,huv⟩:=q2 v (by simpa using hb);have:=(hP (.inr e3)).ap t ht u (tV hu) v hv (by rw [show ed (plus h m) u a.Key=ed h u a.Key from pU hu]; exact huv);have h5:=(CP hu).2
         omega
       ·obtain ⟨u,hu,huv⟩:=q2 v hv;exact ⟨u,tV hu,by rw [pU hu]; exact huv⟩
      rcases hr' with ⟨rfl,_⟩ | ⟨_,p2⟩
      ·dsimp only at hx ⊢
       unfold qw at hx ⊢
       rw [List.mem_filter] at hx ⊢
       refine ⟨tV hx.1,?_⟩
       rw [pU hx.1]
       exact hx.2
      ·exact absurd hW p2
     ·simp at hx
theorem Dx (hS:gU h) (hc:aB h=some 0) {a:Ask} {t p:Nat} (hk:zR h a t p):qx h a (typ (opAt h (t:Int) (p:Int)).Kind) (uL h a):=by
 obtain ⟨s,h1,_,h3⟩:=rO hS hc hk;have e:uL h a=s:=by unfold uL; rw [h1]; rfl
 rw [e]
 exact h3
theorem Ew (hS:gU h) (hc:aB h=some 0) (hS':gU (plus h m)) (hc':aB (plus h m)=some 0) (hm:m.Status≠1) {a:Ask} (ha:a ∈ eY h h.Txns.length) {x:Int} (hx:x ∈ uL h a):x ∈ uL (plus h m) a:=by
 obtain ⟨t,p,hk⟩:=yQ hS ha;obtain ⟨t',p',hk'⟩:=yQ hS' (yZ hm ha);have e1:t'=t:=by have:=hk.e1.symm.trans hk'.e1; omega
 have e2:p'=p:=by have:=hk.e2.symm.trans hk'.e2; omega
 subst e1 e2;have hty:typ (opAt (plus h m) (t':Int) (p':Int)).Kind=typ (opAt h (t':Int) (p':Int)).Kind:=by unfold opAt; rw [tT hk.tl]
 have h2:=Dx hS' hc' hk'
 rw [hty] at h2
 exact Fx hS hS' hk hk' (Dx hS hc hk) h2 hx
theorem zb (h:History) (i:Int) (more:Txn) {K:ByteArray→Prop} (g:HG K h) (gi:(Lit.int .i64 i).wf=true) (gm:TG more):aN h i more=some true:=by
 have hs:=g.small;refine eP.1 ?_;unfold aN
 rw [rz]
 refine bE ?_
 rw [Bool.not_true,cond_false]
 refine dN (Fw hs i) (fun r hr => ?_);unfold fB;refine ax (fun _ => ?_) (fun h1 => ?_)
 ·rw [cond_true]; exact af rfl
 obtain ⟨ha,hS,hc⟩:=hr (by simpa using h1);refine ax (fun _=>af rfl) (fun h3 => ?_);have h3:more.Status=3:=by simpa using h3
 have a3:=hS.len;refine cO (Eg hs) ?_;refine ah (by omega) ?_;refine cO (vZ hs hS hc ha) ?_
 show Tri ((dV (plus h more) r.1).bind _) _
 have hs':pM (plus h more):=by
  refine ⟨hs.1,by simp only [plus,List.length_append,List.length_singleton]; omega,?_⟩
  rw [og]
  intro x hx;rcases List.mem_append.1 hx with hx | hx
  ·exact og.1 hs.2.2 x hx
  ·obtain rfl:x=more:=by simpa using hx
   exact ⟨gm.2.2.2.2.2,og.2 fun o ho=>(gm.2.2.2.2.1 o ho).2.2.2.2.2⟩
 have e0:((0:Int) != 0)=false:=by decide
 simp only [e0,cond_false]
 obtain ⟨v,hv,_,a2,hiff⟩:=yI hs';have hv':aB (⟨h.Keys,h.Txns++([more]:List Txn)⟩:History)=some v:=hv
 rw [hv']
 unfold fA;rcases a2 with rfl | rfl
 ·have hS':=hiff.1 rfl;have a0:more.Status≠1:=by omega
  refine cO (vZ hs' hS' hv (yZ a0 ha)) ?_;refine bE ?_
  rw [e0,cond_false]
  rw [cond_false]
  have hsub:∀ x ∈ uL h r.1,x ∈ uL (plus h more) r.1:=fun x hx=>Ew hS hc hS' hv a0 ha hx;have hl:=zZ hS hc ha;have hl':=zZ hS' hv (yZ a0 ha);generalize uL h r.1=l at hsub hl;generalize uL (plus h more) r.1=l' at hsub hl';refine dz (k0:=0) l.length (fun k s=>s=(k:Int)) (Nat.zero_le _) rfl ?_;rintro k s hk rfl;have hw:w64 ((k:Int) + 1)=((k + 1:Nat):Int):=aZ (by omega);unfold ik
  dsimp only
  rw [hw]
  refine ax (fun h4 => ?_) (fun h4=>av (af rfl));have a1:k < l.length:=by omega
  refine ah (by omega) (cO (CO (by omega)) ?_)
  rw [decide_eq_true (hsub _ (eH a1))]
  exact af ⟨a1,rfl⟩
 ·have hE:dV (plus h more) r.1=some ([],1):=by
   unfold dV ji gz iZ
   rw [hv]
   rfl
  refine cO hE (bE ?_);exact af rfl
end
end Go.Proofs.YtnlkggppokcmfaaT
