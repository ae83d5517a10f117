import Derived.Test.YtfpeabnehpclnaaGreatTPXD
import Derived.Test.YtfpeabnehpclnaaGreatTD
import Derived.Test.YtfpeabnehpclnaaGreatI
namespace Go.Proofs.YtfpeabnehpclnaaGreatT
open Go Go.Proofs Go.Proofs.YtfpeabnehpclnaaGreatE
set_option linter.unusedVariables false
set_option linter.unusedSimpArgs false
def Stp (O:List Int) (W:Int→List Int) (rest l:List Int):Option (Option Int)→Prop
 | none=>rest.length=0
 | some none=>0 < rest.length∧∀ t ∈ O,W t <+: rest→t ∈ l
 | some (some t)=>0 < rest.length∧t ∈ O∧W t <+: rest∧t ∉ l
section
variable {O:List Int} {W:Int→List Int} {rest l:List Int}
theorem Stp.det (hP:Parts O W) {x y:Option (Option Int)} (hx:Stp O W rest l x) (hy:Stp O W rest l y):x=y:=by
 match x,y,hx,hy with
 | none,none,_,_=>rfl
 | none,some none,h1,h2=>exact absurd (show rest.length=0 from h1) (by have:0 < rest.length:=h2.1; omega)
 | none,some (some t),h1,h2=>exact absurd (show rest.length=0 from h1) (by have:0 < rest.length:=h2.1; omega)
 | some none,none,h1,h2=>exact absurd (show rest.length=0 from h2) (by have:0 < rest.length:=h1.1; omega)
 | some (some t),none,h1,h2=>exact absurd (show rest.length=0 from h2) (by have:0 < rest.length:=h1.1; omega)
 | some none,some none,_,_=>rfl
 | some none,some (some t),h1,h2=>exact absurd (h1.2 t h2.2.1 h2.2.2.1) h2.2.2.2
 | some (some t),some none,h1,h2=>exact absurd (h2.2 t h1.2.1 h1.2.2.1) h1.2.2.2
 | some (some t),some (some u),h1,h2 =>
  rw [tL hP h1.2.1 h2.2.1 (qi h1.2.2.1 (hP.ne t h1.2.1)) (qi h2.2.2.1 (hP.ne u h2.2.1))]
def Ua (W:Int→List Int) (rest l:List Int):Option (Option Int)→(List Int×List Int) ⊕ (List Int×Bool)
 | none => .inr (l,true)
 | some none => .inr ([],false)
 | some (some t) => .inl (rest.drop (W t).length,l++[t])
def Ub (W:Int→List Int) (rest l:List Int):Option (Option Int)→(List Int×List Int) ⊕ (List Int×Bool)
 | none => .inr (l,true)
 | some none => .inr ([],false)
 | some (some t) => .inl (l++[t],rest.drop (W t).length)
theorem Ob (hP:Parts O W) (hr:rest.length≤64) (hl:l.length≤64):Tri (rD (Cj O W) (rest,l)) (fun x=>∃ o,Stp O W rest l o∧x=Ua W rest l o):=by
 have hol:=hP.ol;unfold rD
 dsimp only
 refine az (fun h0 => ?_) (fun h0 => ?_)
 ·have h0:0 < rest.length:=by omega
  refine dN (Oa hP h0) (fun y hy => ?_);unfold lW
  rw [xS]
  rcases hy with ⟨j,hj,rfl,hh⟩ | ⟨rfl,hno⟩
  ·have a1:=hP.wl _ (fA hj);refine az (fun h1=>absurd h1 (by omega)) (fun _ => ?_);refine ah (by omega) ?_
   rw [Ao hj]
   dsimp only
   generalize hg:idx O (j:Int)=t at *;have ht:t ∈ O:=hg ▸ fA hj;refine az (fun h2 => ?_) (fun h2 => ?_)
   ·refine ax (ag ⟨some none,⟨h0,fun u hu hp => ?_⟩,rfl⟩);have:=tL hP hu ht (qi hp (hP.ne u hu)) hh;subst this;have:=hp.length_le
    omega
   ·have h2:(W t).length≤rest.length:=by omega
    refine ah (by omega) ?_;refine bK (Bp (by omega)) ?_
    rw [oN h2]
    refine az (fun h3 => ?_) (fun h3 => ?_)
    ·refine ax (ag ⟨some none,⟨h0,fun u hu hp => ?_⟩,rfl⟩);have:=tL hP hu ht (qi hp (hP.ne u hu)) hh;subst this;have:=List.prefix_iff_eq_take.1 hp;exact absurd this (by simpa using h3)
    ·have h3:W t=rest.take (W t).length:=by simpa using h3
     refine bK (Dp (by omega)) ?_;refine az (fun h4 => ?_) (fun h4 => ?_)
     ·refine ax (ag ⟨some none,⟨h0,fun u hu hp => ?_⟩,rfl⟩);have:=tL hP hu ht (qi hp (hP.ne u hu)) hh;subst this;exact h4
     ·refine ah (by omega) (ah (by omega) (ah (by omega) ?_))
      rw [Dn]
      exact ag ⟨some (some t),⟨h0,ht,List.prefix_iff_eq_take.2 h3,h4⟩,rfl⟩
  ·refine az (fun h1 => ?_) (fun h1=>absurd h1 (by omega));exact ax (ag ⟨some none,⟨h0,fun u hu hp=>absurd (qi hp (hP.ne u hu)) (hno u hu)⟩,rfl⟩)
 ·exact ax (ag ⟨none,by show rest.length=0; omega,rfl⟩)
theorem PO {h:History} {a:Ask} (hP:Parts O W) (hW:∀ t ∈ O,aS h t a.Key=some (W t)) (hr:rest.length≤64) (hl:l.length≤64) :
  Tri (lM h a O (l,rest)) (fun x=>∃ o,Stp O W rest l o∧x=Ub W rest l o):=by
 have hol:=hP.ol;unfold lM
 dsimp only
 refine az (fun h0 => ?_) (fun h0 => ?_)
 ·have h0:0 < rest.length:=by omega
  refine dH (k0:=0) O.length (fun k s=>s.2=(k:Int)∧((s.1 = -1∧∀ j:Nat,j < k → ¬ W (idx O (j:Int)) <+: rest)∨(s.1 ∈ O∧W s.1 <+: rest))) (Nat.zero_le _) ⟨rfl,.inl ⟨rfl,fun j h=>absurd h (Nat.not_lt_zero _)⟩⟩ ?_;rintro k ⟨x,y⟩ hk ⟨e,hx⟩
  dsimp only at e hx
  subst e;have hw:w64 ((k:Int) + 1)=((k + 1:Nat):Int):=aZ (by omega);unfold uP pV
  dsimp only
  rw [hw]
  refine az (fun a5 => ?_) (fun a5 => ?_)
  ·have a1:k < O.length:=by omega
   refine ah (by omega) ?_;refine bK (hW _ (fA a1)) ?_;refine bK (JQ (by omega)) ?_;refine az (fun h1 => ?_) (fun h1 => ?_)
   ·exact ag ⟨a1,rfl,.inr ⟨fA a1,h1⟩⟩
   ·refine ag ⟨a1,rfl,?_⟩;rcases hx with ⟨e,hx⟩ | hx
    ·refine .inl ⟨e,fun j hj => ?_⟩;rcases Nat.lt_or_ge j k with h2 | h2
     ·exact hx j h2
     ·have:j=k:=by omega
      subst this;exact h1
    ·exact .inr hx
  ·have:k=O.length:=by omega
   subst this;rcases hx with ⟨rfl,hx⟩ | ⟨hx,hp⟩
   ·refine az (fun _ => ?_) (fun h1=>absurd h1 (by omega));refine ax (ax (ag ⟨some none,⟨h0,fun t ht hp => ?_⟩,rfl⟩));obtain ⟨j,hj,rfl⟩:=wY ht;exact absurd hp (hx j hj)
   ·have h2:=hP.pos x hx;have h3:=hp.length_le;refine az (fun h1=>absurd h1 (by omega)) (fun _ => ?_);refine dH (k0:=0) l.length (fun k s=>s=(k:Int)∧∀ j:Nat,j < k→idx l (j:Int)≠x) (Nat.zero_le _) ⟨rfl,fun j h=>absurd h (Nat.not_lt_zero _)⟩ ?_;rintro m s hm ⟨rfl,hno⟩;have a4:w64 ((m:Int) + 1)=((m + 1:Nat):Int):=aZ (by omega);unfold uO
    dsimp only
    rw [a4]
    refine az (fun a3 => ?_) (fun a3 => ?_)
    ·have a2:m < l.length:=by omega
     refine ah (by omega) ?_;refine az (fun h4 => ?_) (fun h4 => ?_)
     ·refine ax (ax (ax (ag ⟨some none,⟨h0,fun u hu hq => ?_⟩,rfl⟩)))
      rw [tL hP hu hx (qi hq (hP.ne u hu)) (qi hp (hP.ne x hx)),← h4]
      exact fA a2
     ·refine ag ⟨a2,rfl,fun j hj => ?_⟩;rcases Nat.lt_or_ge j m with h5 | h5
      ·exact hno j h5
      ·have:j=m:=by omega
       subst this;exact h4
    ·have:m=l.length:=by omega
     subst this;refine ah (by omega) ?_;refine bK (hW x hx) ?_;refine ah (by omega) ?_
     rw [Dn]
     refine ax (ax (ag ⟨some (some x),⟨h0,hx,hp,fun hmem => ?_⟩,rfl⟩));obtain ⟨j,hj,e⟩:=wY hmem;exact hno j hj e
 ·exact ax (ag ⟨none,by show rest.length=0; omega,rfl⟩)
end
end Go.Proofs.YtfpeabnehpclnaaGreatT
namespace Go.Proofs.YtfpeabnehpclnaaGreatT
open Go Go.Proofs Go.Proofs.YtfpeabnehpclnaaGreatE
set_option linter.unusedVariables false
set_option linter.unusedSimpArgs false
def MQ (O:List Int) (W:Int→List Int) (base m:List Int):Prop:=(∀ t ∈ m,t ∈ O)∧m.Nodup∧base=m.flatMap W
def zO (O:List Int) (W:Int→List Int) (base:List Int) (r:List Int×Bool):Prop:=(r.2=true∧MQ O W base r.1)∨(r=([],false)∧∀ m,¬ MQ O W base m)
section
variable {O:List Int} {W:Int→List Int} {rest l:List Int}
theorem Oc (hP:Parts O W) {m:List Int} (hm:∀ t ∈ m,t ∈ O) (hr:0 < rest.length) (e:rest=m.flatMap W):∃ u m',m=u::m'∧u ∈ O∧W u <+: rest∧idx (W u) 0=idx rest 0:=by
 cases m with
 | nil=>rw [e] at hr; simp at hr
 | cons u m' =>
  have hu:=hm u (by simp);have hp:W u <+: rest:=⟨m'.flatMap W,by rw [e,List.flatMap_cons]⟩
  exact ⟨u,m',rfl,hu,hp,qi hp (hP.ne u hu)⟩
theorem Dq (hP:Parts O W) {h:History} {a:Ask} (hW:∀ t ∈ O,aS h t a.Key=some (W t)) (ho:aW h a=some O) (hb:a.Base.length≤64) :
  ∃ r,fo a.Base (Cj O W)=some r∧df h a=some r∧zO O W a.Base r:=by
 have key:Tri (fo a.Base (Cj O W)) (fun r=>Tri (iter (lM h a O) ([],a.Base)) (fun r'=>r=r'∧zO O W a.Base r)):=by
  unfold fo;refine DD (k0:=0) a.Base.length (fun (k:Nat) (s t:List Int×List Int)=>s.1=t.2∧s.2=t.1∧s.1.length + k≤a.Base.length∧s.2.length≤k∧(∀ t ∈ s.2,t ∈ O)∧s.2.Nodup∧a.Base=s.2.flatMap W++s.1∧∀ m,MQ O W a.Base m→∃ m',m=s.2++m')
   (Nat.zero_le _) ⟨rfl,rfl,Nat.le_refl _,Nat.le_refl _,fun t h=>(nomatch h),List.nodup_nil,by simp,fun m _=>⟨m,rfl⟩⟩ ?_
  rintro k ⟨rest,l⟩ ⟨l',rest'⟩ hk ⟨e1,e2,i1,i2,i3,i4,i5,i6⟩
  dsimp only at e1 e2 i1 i2 i3 i4 i5 i6
  subst e1 e2;refine fV (Ob hP (by omega) (by omega)) ?_;rintro x ⟨o,hs,rfl⟩;refine fV (PO hP hW (by omega) (by omega)) ?_;rintro y ⟨o',hs',rfl⟩;obtain rfl:=Stp.det hP hs hs';have nxt:∀ m,MQ O W a.Base m→0 < rest.length→∃ u m',m=l++u::m'∧u ∈ O∧W u <+: rest∧idx (W u) 0=idx rest 0:=by
   intro m hm hr;obtain ⟨m',rfl⟩:=i6 m hm;obtain ⟨h1,h2,h3⟩:=hm
   rw [i5,List.flatMap_append,List.append_cancel_left_eq] at h3
   obtain ⟨u,m2,rfl,q1,q2,q3⟩:=Oc hP (fun t ht=>h1 t (List.mem_append_right _ ht)) hr h3;exact ⟨u,m2,rfl,q1,q2,q3⟩
  match o,hs with
  | none,hs =>
   refine ⟨rfl,.inl ⟨rfl,i3,i4,?_⟩⟩
   rw [i5,List.length_eq_zero_iff.1 (show rest.length=0 from hs),List.append_nil]
  | some none,hs =>
   refine ⟨rfl,.inr ⟨rfl,fun m hm => ?_⟩⟩;obtain ⟨u,m',rfl,q1,q2,q3⟩:=nxt m hm hs.1;have:=(List.nodup_append.1 hm.2.1).2.2;exact this u (hs.2 u q1 q2) u (by simp) rfl
  | some (some t),⟨s1,s2,s3,s4⟩ =>
   have h1:=hP.ne t s2;have h2:=s3.length_le;refine ⟨by omega,rfl,rfl,by rw [List.length_drop]; omega,by rw [List.length_append,List.length_singleton]; omega,fun u hu => ?_,?_,?_,fun m hm => ?_⟩
   ·rcases List.mem_append.1 hu with hu | hu
    ·exact i3 u hu
    ·rw [List.mem_singleton.1 hu]; exact s2
   ·rw [List.nodup_append]
    refine ⟨i4,List.nodup_cons.2 ⟨by simp,List.nodup_nil⟩,fun u hu v hv => ?_⟩
    rw [List.mem_singleton.1 hv]
    intro e;exact s4 (e ▸ hu)
   ·dsimp only
    rw [List.flatMap_append,List.append_assoc,i5]
    congr 1
    rw [List.flatMap_cons,List.flatMap_nil,List.append_nil]
    obtain ⟨z,hz⟩:=s3
    rw [← hz,List.drop_left]
   ·obtain ⟨u,m',rfl,q1,q2,q3⟩:=nxt m hm s1;have:=tL hP q1 s2 q3 (qi s3 h1);subst this;exact ⟨m',by simp⟩
 obtain ⟨r,hr,r',hr',rfl,ht⟩:=key;refine ⟨r,hr,?_,ht⟩;unfold df
 rw [ho]
 exact hr'
end
end Go.Proofs.YtfpeabnehpclnaaGreatT
namespace Go.Proofs.YtfpeabnehpclnaaGreatT
open Go Go.Proofs Go.Proofs.YtfpeabnehpclnaaGreatE
set_option linter.unusedVariables false
set_option linter.unusedSimpArgs false
theorem yG {l:List Int}:∀ {m:List Int},l.Nodup→(∀ x ∈ l,x ∈ m)→l.length≤m.length:=by
 induction l with
 | nil=>intro m _ _; simp
 | cons x l ih =>
  intro m hn hs;obtain ⟨h1,h2⟩:=List.nodup_cons.1 hn;have hx:=hs x (by simp);have:=ih (m:=m.erase x) h2 (fun y hy=>(List.mem_erase_of_ne (fun (e:y=x)=>h1 (e ▸ hy))).2 (hs y (by simp [hy])))
  rw [List.length_erase_of_mem hx] at this
  have:0 < m.length:=List.length_pos_of_mem hx
  simp
  omega
def keysOf (m:List (Int×Unit)):List Int:=m.map (·.1)
theorem Hf {m:List (Int×Unit)} {x:Int}:iR m x=true↔x ∈ keysOf m:=by
 unfold iR keysOf
 simp [List.any_eq_true]
theorem Dr {x:Int}:∀ {m:List (Int×Unit)},keysOf (EC m x)=(keysOf m).erase x
 | []=>rfl
 | p::m=>by
  unfold EC keysOf
  rw [List.map_cons,List.erase_cons]
  by_cases e:p.1=x
  ·simp [e]
  ·rw [if_neg e,if_neg (by simpa using e),List.map_cons]
   congr 1
   exact Dr
theorem Hg {x:Int}:∀ {m:List (Int×Unit)},x ∉ keysOf m→keysOf (fC m x ())=keysOf m++[x]
 | [],_=>rfl
 | p::m,h=>by
  have h1:¬ p.1=x:=fun e=>h (by simp [keysOf,e]);have h2:x ∉ keysOf m:=fun h'=>h (by simp only [keysOf,List.map_cons,List.mem_cons]; exact .inr h');unfold fC
  rw [if_neg h1]
  show p.1::keysOf (fC m x ())=p.1::keysOf m++[x]
  rw [Hg h2]
  rfl
def cnt (base w:List Int):Nat:=(w.filter (fun v=>decide (v ∈ base))).length
theorem Fu {base w:List Int}:cnt base w≤w.length:=List.length_filter_le _ _
theorem JR {base w:List Int} {i:Nat} (hi:i < w.length):cnt base (w.take (i + 1))=if idx w (i:Int) ∈ base then cnt base (w.take i) + 1 else cnt base (w.take i):=by
 unfold cnt
 rw [List.take_succ_eq_append_getElem hi,List.filter_append,List.length_append,(dm (n:=i) rfl hi:idx w (i:Int)=w[i])]
 by_cases h:w[i] ∈ base <;> simp [h]
def Whole (O:List Int) (W:Int→List Int) (base:List Int):Prop:=(∀ t ∈ O,cnt base (W t)=0∨cnt base (W t)=(W t).length)∧∀ v ∈ base,∃ t ∈ O,v ∈ W t
def xU (O:List Int) (W:Int→List Int) (base:List Int):List Int:=O.filter (fun t=>decide (0 < cnt base (W t)))
def qz (O:List Int) (W:Int→List Int) (base:List Int) (r:List Int×Bool):Prop:=(r=(xU O W base,true)∧Whole O W base)∨(r=([],false) ∧ ¬ Whole O W base)
theorem qz.det {O:List Int} {W:Int→List Int} {base:List Int} {r s:List Int×Bool} (h1:qz O W base r) (h2:qz O W base s):r=s:=by
 rcases h1 with ⟨rfl,h1⟩ | ⟨rfl,h1⟩ <;> rcases h2 with ⟨rfl,h2⟩ | ⟨rfl,h2⟩
 ·rfl
 ·exact absurd h1 h2
 ·exact absurd h2 h1
 ·rfl
section
variable {O:List Int} {W:Int→List Int} {base:List Int}
theorem Fv {k:Nat} (hk:k < O.length):xU (O.take (k + 1)) W base=if 0 < cnt base (W (idx O (k:Int))) then xU (O.take k) W base++[idx O (k:Int)] else xU (O.take k) W base:=by
 unfold xU
 rw [List.take_succ_eq_append_getElem hk,List.filter_append,(dm (n:=k) rfl hk:idx O (k:Int)=O[k])]
 by_cases h:0 < cnt base (W O[k]) <;> simp [h]
theorem Hl {k:Nat}:(xU (O.take k) W base).length≤O.length:=Nat.le_trans (List.length_filter_le _ _) (by rw [List.length_take]; omega)
theorem IC {i j:Nat} (hn:O.Nodup) (hi:i < O.length) (hj:j < O.length) (e:idx O (i:Int)=idx O (j:Int)):i=j:=by
 rw [dm (n:=i) rfl hi,dm (n:=j) rfl hj] at e
 have hp:=List.pairwise_iff_getElem.1 hn;rcases Nat.lt_trichotomy i j with h | h | h
 ·exact absurd e (hp i j hi hj h)
 ·exact h
 ·exact absurd e.symm (hp j i hj hi h)
theorem PP (hP:Parts O W) (hO:O.Nodup) (hb:base.length≤64) (hn:base.Nodup):Tri (dn base (Cj O W)) (qz O W base):=by
 have hol:=hP.ol;unfold dn;refine dH (k0:=0) base.length (fun k s=>s.2=(k:Int)∧keysOf s.1=base.take k) (Nat.zero_le _) ⟨rfl,rfl⟩ ?_;rintro k ⟨m,x⟩ hk ⟨e,hm⟩
 dsimp only at e hm
 subst e;have hw:w64 ((k:Int) + 1)=((k + 1:Nat):Int):=aZ (by omega);unfold xx
 dsimp only
 rw [hw]
 refine az (fun a3 => ?_) (fun a3 => ?_)
 ·have a1:k < base.length:=by omega
  refine ah (by omega) (ag ⟨a1,rfl,?_⟩);have hni:idx base (k:Int) ∉ keysOf m:=by
   rw [hm]
   intro h;obtain ⟨i,hi,e⟩:=List.mem_take_iff_getElem.1 h;have:=IC (i:=i) (j:=k) hn (by omega) a1 ((dm rfl (by omega)).trans e)
   omega
  dsimp only
  rw [Hg hni,hm,List.take_succ_eq_append_getElem a1,(dm (n:=k) rfl a1:idx base (k:Int)=base[k])]
 ·have:k=base.length:=by omega
  subst this
  rw [List.take_length] at hm
  refine dH (k0:=0) O.length (fun k s=>s.1=xU (O.take k) W base∧(keysOf s.2.1).Nodup∧(∀ v,v ∈ keysOf s.2.1↔v ∈ base∧∀ j:Nat,j < k→v ∉ W (idx O (j:Int)))∧s.2.2=(k:Int)∧∀ j:Nat,j < k→cnt base (W (idx O (j:Int)))=0∨cnt base (W (idx O (j:Int)))=(W (idx O (j:Int))).length)
   (Nat.zero_le _) ⟨by simp [xU],by rw [hm]; exact hn,fun v=>by rw [hm]; exact ⟨fun h=>⟨h,fun j h=>absurd h (Nat.not_lt_zero _)⟩,fun h=>h.1⟩,rfl,fun j h=>absurd h (Nat.not_lt_zero _)⟩ ?_
  rintro k ⟨l,m,x⟩ hk ⟨e1,e2,e3,e4,e5⟩
  dsimp only at e1 e2 e3 e4 e5
  subst e1 e4;have hw:w64 ((k:Int) + 1)=((k + 1:Nat):Int):=aZ (by omega);have hsl:=Hl (O:=O) (W:=W) (base:=base) (k:=k);unfold xw
  dsimp only
  rw [xS]
  refine az (fun a3 => ?_) (fun a3 => ?_)
  ·have a1:k < O.length:=by omega
   refine ah (by omega) ?_;have ht:=fA a1;have hss:=Fv (W:=W) (base:=base) a1;generalize hg:idx O (k:Int)=t at ht hss;have hwl:=hP.wl t ht;have hwn:=hP.nd t ht;refine dH (k0:=0) (W t).length (fun i s=>(keysOf s.1).Nodup∧(∀ v,v ∈ keysOf s.1↔(v ∈ base∧∀ j:Nat,j < k→v ∉ W (idx O (j:Int)))∧v ∉ (W t).take i)∧s.2.1=(cnt base ((W t).take i):Int)∧s.2.2=(i:Int))
    (Nat.zero_le _) ⟨e2,fun v=>⟨fun h=>⟨(e3 v).1 h,by simp⟩,fun h=>(e3 v).2 h.1⟩,by simp [cnt],rfl⟩ ?_
   rintro i ⟨m2,c,x⟩ hi ⟨f1,f2,f3,f4⟩
   dsimp only at f1 f2 f3 f4
   subst f3 f4;have hcl:cnt base ((W t).take i)≤i:=Nat.le_trans Fu (by rw [List.length_take]; omega);have b0:w64 ((i:Int) + 1)=((i + 1:Nat):Int):=aZ (by omega);have a9:w64 ((cnt base ((W t).take i):Int) + 1)=((cnt base ((W t).take i) + 1:Nat):Int):=aZ (by omega);unfold xu uf ug tZ
   dsimp only
   rw [b0,a9,Ao a1,hg]
   dsimp only
   refine az (fun a8 => ?_) (fun a8 => ?_)
   ·have a2:i < (W t).length:=by omega
    refine ah (by omega) ?_;have hct:=JR (base:=base) a2;have hmem:∀ v,v ∈ (W t).take (i + 1)↔v ∈ (W t).take i∨v=idx (W t) (i:Int):=by
     intro v
     rw [List.take_succ_eq_append_getElem a2,(dm (n:=i) rfl a2:idx (W t) (i:Int)=(W t)[i]),List.mem_append,List.mem_singleton]
    have hni:idx (W t) (i:Int) ∉ (W t).take i:=by
     intro h;obtain ⟨j,hj,e⟩:=List.mem_take_iff_getElem.1 h;have:=IC (i:=j) (j:=i) hwn (by omega) a2 ((dm rfl (by omega)).trans e)
     omega
    have hout:∀ j:Nat,j < k→idx (W t) (i:Int) ∉ W (idx O (j:Int)):=by
     intro j hj h;have:=hP.ap _ (fA (show j < O.length by omega)) t ht _ h (fA a2)
     rw [← hg] at this
     have:=IC hO (by omega) a1 this
     omega
    have a4:idx (W t) (i:Int) ∈ keysOf m2↔idx (W t) (i:Int) ∈ base:=by
     rw [f2]
     exact ⟨fun h=>h.1.1,fun h=>⟨⟨h,hout⟩,hni⟩⟩
    cases hmh:iR m2 (idx (W t) (i:Int))
    ·have hnb:idx (W t) (i:Int) ∉ base:=fun h=>by rw [Hf.2 (a4.2 h)] at hmh; cases hmh
     rw [cond_false]
     refine ag ⟨a2,f1,fun v => ?_,?_,rfl⟩
     ·dsimp only
      rw [f2,hmem]
      constructor
      ·rintro ⟨h1,h2⟩;refine ⟨h1,?_⟩;rintro (h3 | h3)
       ·exact h2 h3
       ·subst h3;exact hnb h1.1
      ·rintro ⟨h1,h2⟩;exact ⟨h1,fun h=>h2 (.inl h)⟩
     ·dsimp only
      rw [hct,if_neg hnb]
    ·have hib:idx (W t) (i:Int) ∈ base:=a4.1 (Hf.1 hmh)
     rw [cond_true]
     refine ag ⟨a2,?_,fun v => ?_,?_,rfl⟩
     ·dsimp only
      rw [Dr]
      exact f1.erase _
     ·dsimp only
      rw [Dr,List.Nodup.mem_erase_iff f1,f2,hmem]
      constructor
      ·rintro ⟨h1,h2,h3⟩;exact ⟨h2,fun h=>h.elim h3 h1⟩
      ·rintro ⟨h1,h2⟩;exact ⟨fun h=>h2 (.inr h),h1,fun h=>h2 (.inl h)⟩
     ·dsimp only
      rw [hct,if_pos hib]
   ·have:i=(W t).length:=by omega
    subst this
    rw [List.take_length] at f2 ⊢
    have hcw:cnt base (W t)≤(W t).length:=Fu;have fin:∀ (hc:cnt base (W t)=0∨cnt base (W t)=(W t).length) (l':List Int),l'=xU (O.take (k + 1)) W base→Upm O.length k (fun k s=>s.1=xU (O.take k) W base∧(keysOf s.2.1).Nodup∧(∀ v,v ∈ keysOf s.2.1↔v ∈ base∧∀ j:Nat,j < k→v ∉ W (idx O (j:Int)))∧s.2.2=(k:Int)∧∀ j:Nat,j < k→cnt base (W (idx O (j:Int)))=0∨cnt base (W (idx O (j:Int)))=(W (idx O (j:Int))).length) (qz O W base) (.inl (l',m2,((k + 1:Nat):Int))):=by
     intro hc l' hl';refine ⟨a1,hl',f1,fun v => ?_,rfl,fun j hj => ?_⟩
     ·dsimp only
      rw [f2]
      constructor
      ·rintro ⟨⟨h1,h2⟩,h3⟩;refine ⟨h1,fun j hj => ?_⟩;rcases Nat.lt_or_ge j k with h4 | h4
       ·exact h2 j h4
       ·have:j=k:=by omega
        subst this
        rw [hg]; exact h3
      ·rintro ⟨h1,h2⟩;exact ⟨⟨h1,fun j hj=>h2 j (by omega)⟩,by have:=h2 k (by omega); rwa [hg] at this⟩
     ·rcases Nat.lt_or_ge j k with h4 | h4
      ·exact e5 j h4
      ·have:j=k:=by omega
       subst this
       rw [hg]; exact hc
    have bad:¬ (cnt base (W t)=0∨cnt base (W t)=(W t).length)→qz O W base ([],false):=fun hc => .inr ⟨rfl,fun hW=>hc (hW.1 t ht)⟩
    rw [hw]
    refine az (fun h1 => ?_) (fun h1 => ?_)
    ·refine az (fun h2 => ?_) (fun h2 => ?_)
     ·exact ax (ax (ax (ag (bad (by omega)))))
     ·refine az (fun h3 => ?_) (fun h3 => ?_)
      ·refine ah (by omega) ?_;refine ax (ag (fin (by omega) _ ?_))
       rw [hss,if_pos (by omega)]
      ·exact absurd h1 h3
    ·rw [cond_false]
     refine az (fun h3=>absurd h3 h1) (fun h3 => ?_);refine ax (ag (fin (by omega) _ ?_))
     rw [hss,if_neg (by omega)]
  ·have:k=O.length:=by omega
   subst this
   rw [List.take_length]
   have hml:0 < m.length↔∃ v,v ∈ keysOf m:=by
    unfold keysOf;cases m with
    | nil=>simp
    | cons p m=>exact ⟨fun _=>⟨p.1,by simp⟩,fun _=>by simp⟩
   have hall:(∀ t ∈ O,cnt base (W t)=0∨cnt base (W t)=(W t).length):=by
    intro t ht;obtain ⟨j,hj,rfl⟩:=wY ht;exact e5 j hj
   refine az (fun h1 => ?_) (fun h1 => ?_)
   ·refine ax (ax (ag (.inr ⟨rfl,fun hW => ?_⟩)));obtain ⟨v,hv⟩:=hml.1 (by omega);obtain ⟨a5,a7⟩:=(e3 v).1 hv;obtain ⟨t,ht,a6⟩:=hW.2 v a5;obtain ⟨j,hj,rfl⟩:=wY ht;exact a7 j hj a6
   ·refine ax (ax (ag (.inl ⟨rfl,hall,fun v hv => ?_⟩)))
    apply Classical.byContradiction
    intro hno;refine h1 ?_;have:=hml.2 ⟨v,(e3 v).2 ⟨hv,fun j hj h=>hno ⟨_,fA hj,h⟩⟩⟩
    omega
end
end Go.Proofs.YtfpeabnehpclnaaGreatT
namespace Go.Proofs.YtfpeabnehpclnaaGreatT
open Go Go.Proofs Go.Proofs.YtfpeabnehpclnaaGreatE
set_option linter.unusedVariables false
set_option linter.unusedSimpArgs false
theorem Lx {l:List Int} {v:Int} (hl:l.length < 2 ^ 60):ji l v=some (decide (v ∈ l)):=by
 refine eQ.1 ?_;unfold ji;refine dH (k0:=0) l.length (fun k s=>s=(k:Int)∧∀ j:Nat,j < k→idx l (j:Int)≠v) (Nat.zero_le _) ⟨rfl,fun j h=>absurd h (Nat.not_lt_zero _)⟩ ?_;rintro k s hk ⟨rfl,hno⟩;have hw:w64 ((k:Int) + 1)=((k + 1:Nat):Int):=aZ (by omega);unfold uz
 dsimp only
 rw [hw]
 refine az (fun a2 => ?_) (fun a2 => ?_)
 ·have a1:k < l.length:=by omega
  refine ah (by omega) ?_;refine az (fun h1 => ?_) (fun h1 => ?_)
  ·refine ax (ag ?_)
   show true=decide (v ∈ l)
   rw [eq_comm,decide_eq_true_iff,← h1]
   exact fA a1
  ·refine ag ⟨a1,rfl,fun j hj => ?_⟩;rcases Nat.lt_or_ge j k with h2 | h2
   ·exact hno j h2
   ·have:j=k:=by omega
    subst this;exact h1
 ·have:k=l.length:=by omega
  subst this;refine ax (ag ?_)
  show false=decide (v ∈ l)
  rw [eq_comm,decide_eq_false_iff_not]
  intro h;obtain ⟨j,hj,e⟩:=wY h;exact hno j hj e
section
variable {O:List Int} {W:Int→List Int} {base:List Int}
def hits (O:List Int) (W:Int→List Int) (base:List Int):List Int:=O.flatMap (fun t=>(W t).filter (fun v=>decide (v ∈ base)))
theorem Hm {k:Nat} (hk:k < O.length):(hits (O.take (k + 1)) W base).length=(hits (O.take k) W base).length + cnt base (W (idx O (k:Int))):=by
 unfold hits cnt
 rw [List.take_succ_eq_append_getElem hk,List.flatMap_append,List.length_append,(dm (n:=k) rfl hk:idx O (k:Int)=O[k])]
 simp
theorem LA (hP:Parts O W):∀ k,k≤O.length→(hits (O.take k) W base).length≤16 * k:=by
 intro k
 induction k with
 | zero=>intro _; simp [hits]
 | succ k ih =>
  intro hk
  rw [Hm (by omega)]
  have:=ih (by omega);have h1:=hP.wl _ (fA (show k < O.length by omega));have h2:cnt base (W (idx O (k:Int)))≤_:=Fu
  omega
theorem Fw {v:Int}:v ∈ hits O W base↔∃ t ∈ O,v ∈ W t∧v ∈ base:=by
 unfold hits
 simp only [List.mem_flatMap,List.mem_filter,decide_eq_true_eq]
theorem LB (hP:Parts O W) (hO:O.Nodup):(hits O W base).Nodup:=by
 unfold hits List.Nodup
 rw [List.pairwise_flatMap]
 refine ⟨fun t ht=>(hP.nd t ht).filter _,List.Pairwise.imp_of_mem (fun {t u} ht hu hne => ?_) hO⟩;intro x hx y hy e;subst e
 rw [List.mem_filter] at hx hy
 exact hne (hP.ap t ht u hu x hx.1 hy.1)
theorem Od (hP:Parts O W) (hO:O.Nodup) (hn:base.Nodup):(hits O W base).length=base.length↔∀ v ∈ base,∃ t ∈ O,v ∈ W t:=by
 have hN:=LB (base:=base) hP hO;have hS:∀ v ∈ hits O W base,v ∈ base:=fun v hv=>by obtain ⟨_,_,_,h⟩:=Fw.1 hv; exact h
 constructor
 ·intro e v hv
  apply Classical.byContradiction
  intro hno;have h1:v ∉ hits O W base:=fun h=>by
   obtain ⟨t,ht,h2,_⟩:=Fw.1 h;exact hno ⟨t,ht,h2⟩
  have:=yG (l:=v::hits O W base) (m:=base) (List.nodup_cons.2 ⟨h1,hN⟩) (fun x hx=>by
   rcases List.mem_cons.1 hx with rfl | hx
   ·exact hv
   ·exact hS x hx)
  simp at this
  omega
 ·intro hc;refine Nat.le_antisymm (yG hN hS) (yG hn (fun v hv => ?_));obtain ⟨t,ht,h⟩:=hc v hv;exact Fw.2 ⟨t,ht,h,hv⟩
theorem Ry {h:History} {a:Ask} (hP:Parts O W) (hO:O.Nodup) (hW:∀ t ∈ O,aS h t a.Key=some (W t)) (ho:aW h a=some O) (hb:a.Base.length≤64) (hn:a.Base.Nodup) :
  Tri (bW h a) (qz O W a.Base):=by
 have hol:=hP.ol;unfold bW;refine bK ho ?_;refine dH (k0:=0) O.length (fun k s=>s.1=xU (O.take k) W a.Base∧s.2.1=((hits (O.take k) W a.Base).length:Int)∧s.2.2=(k:Int)∧∀ j:Nat,j < k→cnt a.Base (W (idx O (j:Int)))=0∨cnt a.Base (W (idx O (j:Int)))=(W (idx O (j:Int))).length)
  (Nat.zero_le _) ⟨by simp [xU],by simp [hits],rfl,fun j h=>absurd h (Nat.not_lt_zero _)⟩ ?_
 rintro k ⟨l,n,x⟩ hk ⟨e1,e2,e4,e5⟩
 dsimp only at e1 e2 e4 e5
 subst e1 e2 e4;have hw:w64 ((k:Int) + 1)=((k + 1:Nat):Int):=aZ (by omega);have hsl:=Hl (O:=O) (W:=W) (base:=a.Base) (k:=k);have hsm:=LA (base:=a.Base) hP k hk;unfold vX
 dsimp only
 refine az (fun a5 => ?_) (fun a5 => ?_)
 ·have a1:k < O.length:=by omega
  refine ah (by omega) ?_;have ht:=fA a1;have hss:=Fv (W:=W) (base:=a.Base) a1;have hhs:=Hm (W:=W) (base:=a.Base) a1;refine bK (hW _ ht) ?_;generalize hg:idx O (k:Int)=t at ht hss hhs;have hwl:=hP.wl t ht;refine dH (k0:=0) (W t).length (fun i s=>s.1=(cnt a.Base ((W t).take i):Int)∧s.2=(i:Int)) (Nat.zero_le _) ⟨by simp [cnt],rfl⟩ ?_
  rintro i ⟨c,x⟩ hi ⟨f3,f4⟩
  dsimp only at f3 f4
  subst f3 f4;have hcl:cnt a.Base ((W t).take i)≤i:=Nat.le_trans Fu (by rw [List.length_take]; omega);have a6:w64 ((i:Int) + 1)=((i + 1:Nat):Int):=aZ (by omega);have a4:w64 ((cnt a.Base ((W t).take i):Int) + 1)=((cnt a.Base ((W t).take i) + 1:Nat):Int):=aZ (by omega);unfold vW qH qI qG
  dsimp only
  rw [a6,a4,hg]
  refine az (fun a3 => ?_) (fun a3 => ?_)
  ·have a2:i < (W t).length:=by omega
   refine ah (by omega) ?_;have hct:=JR (base:=a.Base) a2;refine bK (Lx (by omega)) ?_;refine az (fun h1 => ?_) (fun h1 => ?_)
   ·refine ag ⟨a2,?_,rfl⟩
    dsimp only
    rw [hct,if_pos h1]
   ·refine ag ⟨a2,?_,rfl⟩
    dsimp only
    rw [hct,if_neg h1]
  ·have:i=(W t).length:=by omega
   subst this
   rw [List.take_length]
   have hcw:cnt a.Base (W t)≤(W t).length:=Fu;have a7:w64 (((hits (O.take k) W a.Base).length:Int) + (cnt a.Base (W t):Int))=(((hits (O.take k) W a.Base).length + cnt a.Base (W t):Nat):Int):=by rw [nK (by omega) (by omega)]; omega
   have bad:¬ (cnt a.Base (W t)=0∨cnt a.Base (W t)=(W t).length)→qz O W a.Base ([],false):=fun hc => .inr ⟨rfl,fun hW=>hc (hW.1 t ht)⟩;have five:(cnt a.Base (W t)=0∨cnt a.Base (W t)=(W t).length)→∀ j:Nat,j < k + 1→cnt a.Base (W (idx O (j:Int)))=0∨cnt a.Base (W (idx O (j:Int)))=(W (idx O (j:Int))).length:=by
    intro hc j hj;rcases Nat.lt_or_ge j k with h4 | h4
    ·exact e5 j h4
    ·have:j=k:=by omega
     subst this
     rw [hg]; exact hc
   rw [hw,a7]
   refine az (fun h1 => ?_) (fun h1 => ?_)
   ·refine az (fun h2 => ?_) (fun h2 => ?_)
    ·exact ax (ax (ag (bad (by omega))))
    ·refine az (fun h3 => ?_) (fun h3=>absurd h1 h3);refine ah (by omega) ?_;refine ax (ag ⟨a1,?_,?_,rfl,five (by omega)⟩)
     ·dsimp only
      rw [hss,if_pos (by omega)]
     ·dsimp only
      rw [hhs]
   ·rw [cond_false]
    refine az (fun h3=>absurd h3 h1) (fun h3 => ?_);refine ax (ag ⟨a1,?_,?_,rfl,five (by omega)⟩)
    ·dsimp only
     rw [hss,if_neg (by omega)]
    ·dsimp only
     rw [hhs]
     omega
 ·have:k=O.length:=by omega
  subst this
  rw [List.take_length]
  have hall:(∀ t ∈ O,cnt a.Base (W t)=0∨cnt a.Base (W t)=(W t).length):=by
   intro t ht;obtain ⟨j,hj,rfl⟩:=wY ht;exact e5 j hj
  have hfull:=Od hP hO hn;refine az (fun h1 => ?_) (fun h1 => ?_)
  ·refine ax (ag (.inr ⟨rfl,fun hW => ?_⟩));have:=hfull.2 hW.2
   omega
  ·exact ax (ag (.inl ⟨rfl,hall,hfull.1 (by omega)⟩))
theorem Fx {h:History} {a:Ask} (hP:Parts O W) (hO:O.Nodup) (hW:∀ t ∈ O,aS h t a.Key=some (W t)) (ho:aW h a=some O) (hb:a.Base.length≤64) (hn:a.Base.Nodup) :
  ∃ r,dn a.Base (Cj O W)=some r∧bW h a=some r∧qz O W a.Base r:=by
 obtain ⟨r,hr,h1⟩:=PP hP hO hb hn;obtain ⟨s,hs,h2⟩:=Ry hP hO hW ho hb hn;obtain rfl:=h1.det h2;exact ⟨r,hr,hs,h1⟩
end
theorem Bb {h:History} {key:Int} {k:Nat}:(iq h key k).Nodup:=by
 unfold iq List.Nodup
 rw [List.pairwise_map]
 refine ((List.nodup_range (n:=k)).filter _).imp (fun {a b} hne e=>hne (by omega))
theorem vk {h:History} {a:Ask} {k:Nat}:(jM h a k).Nodup:=Bb.filter _
end Go.Proofs.YtfpeabnehpclnaaGreatT
namespace Go.Proofs.YtfpeabnehpclnaaGreatT
open Go Go.Proofs Go.Proofs.YtfpeabnehpclnaaGreatE
set_option linter.unusedVariables false
set_option linter.unusedSimpArgs false
def zn (s:Int) (w:List Int):Int:=w.foldl (fun x v=>w64 (x + v)) s
theorem Ho {s:Int} {w:List Int} {k:Nat} (hk:k < w.length):zn s (w.take (k + 1))=w64 (zn s (w.take k) + idx w (k:Int)):=by
 unfold zn
 rw [List.take_succ_eq_append_getElem hk,List.foldl_append,(dm (n:=k) rfl hk:idx w (k:Int)=w[k])]
 rfl
def Win (want:Int):List (List Int)→Int→(Nat→Prop)→Nat→Nat→Prop
 | [],s,p,_,j=>s=want∧p j
 | w::ls,s,p,i,j=>Win want ls s p (i + 1) j∨Win want ls (zn s w) (fun j=>p j∨j=i) (i + 1) j
section
variable {O:List Int} {W:Int→List Int} {want:Int}
theorem Dt (hol:O.length≤32) (hwl:∀ t ∈ O,(W t).length≤16):∀ (k i:Nat),i≤O.length→O.length - i < k→∀ (sum tk wi:Int) (p q:Nat→Prop),Wd tk p→Wd wi q →
  Tri (gL k (i:Int) sum tk (Cj O W) want wi) (fun r=>Wd r (fun j=>q j∨Win want ((O.drop i).map W) sum p i j))
 | 0,i,_,hk=>by omega
 | k + 1,i,hi,hk=>by
  intro sum tk wi p q hp hq;have hw:w64 ((i:Int) + 1)=((i + 1:Nat):Int):=aZ (by omega);unfold gL jU
  rw [xS,hw]
  refine az (fun h1 => ?_) (fun h1 => ?_)
  ·have:i=O.length:=by omega
   subst this
   rw [List.drop_length,List.map_nil]
   refine az (fun h2 => ?_) (fun h2 => ?_)
   ·exact ag ((hq.or hp).congr fun j=>by show q j∨p j↔q j∨(sum=want∧p j); simp [h2])
   ·exact ag (hq.congr fun j=>by show q j↔q j∨(sum=want∧p j); simp [h2])
  ·have a1:i < O.length:=by omega
   have hd:(O.drop i).map W=W (idx O (i:Int))::(O.drop (i + 1)).map W:=by
    rw [List.drop_eq_getElem_cons a1,List.map_cons,(dm (n:=i) rfl a1:idx O (i:Int)=O[i])]
   have a4:=hwl _ (fA a1);refine dN (Dt hol hwl k (i + 1) (by omega) (by omega) sum tk wi p q hp hq) (fun y hy => ?_);refine ah (by omega) ?_;refine dH (k0:=0) (W (idx O (i:Int))).length (fun m s=>s.1=zn sum ((W (idx O (i:Int))).take m)∧s.2=(m:Int)) (Nat.zero_le _) ⟨by simp [zn],rfl⟩ ?_
   rintro m ⟨s,x⟩ hm ⟨f1,f2⟩
   dsimp only at f1 f2
   subst f1 f2;have a3:w64 ((m:Int) + 1)=((m + 1:Nat):Int):=aZ (by omega);unfold pR
   dsimp only
   rw [Ao a1,a3,hw]
   dsimp only
   refine az (fun h2 => ?_) (fun h2 => ?_)
   ·have a2:m < (W (idx O (i:Int))).length:=by omega
    refine ah (by omega) (ag ⟨a2,?_,rfl⟩)
    dsimp only
    rw [Ho a2]
   ·have:m=(W (idx O (i:Int))).length:=by omega
    subst this
    rw [List.take_length]
    refine ah (by unfold far; omega) ?_;refine dN (Dt hol hwl k (i + 1) (by omega) (by omega) _ _ y _ _ (hp.or (Wd.bit (n:=i) rfl (by omega))) hy) (fun z hz => ?_);refine ax (ag (hz.congr fun j => ?_))
    rw [hd]
    show (q j∨Win want _ sum p (i + 1) j)∨_↔q j∨Win want _ sum p (i + 1) j∨_
    exact or_assoc
def picks (O:List Int) (f:Nat→Prop) [DecidablePred f] (k:Nat):List Int:=((List.range k).filter (fun j=>decide (f j))).map (fun j:Nat=>idx O (j:Int))
theorem Fy {f:Nat→Prop} [DecidablePred f] {k:Nat}:picks O f (k + 1)=if f k then picks O f k++[idx O (k:Int)] else picks O f k:=by
 unfold picks
 rw [List.range_succ,List.filter_append,List.map_append]
 by_cases h:f k <;> simp [h]
theorem Du {f:Nat→Prop} [DecidablePred f] {k:Nat}:(picks O f k).length≤k:=by
 unfold picks
 rw [List.length_map]
 exact Nat.le_trans (List.length_filter_le _ _) (by simp)
open Classical in
theorem IE (hol:O.length≤32) (hwl:∀ t ∈ O,(W t).length≤16):eU want (Cj O W)=some (picks O (Win want (O.map W) 0 (fun _=>False) 0) O.length):=by
 refine eQ.1 ?_;unfold eU bH;have:=Dt (want:=want) hol hwl 64 0 (Nat.zero_le _) (by omega) 0 0 0 _ _ Wd.zero Wd.zero;refine dN this (fun y hy => ?_)
 rw [List.drop_zero] at hy
 replace hy:Wd y (Win want (O.map W) 0 (fun _=>False) 0):=hy.congr fun j=>by simp
 generalize Win want (O.map W) 0 (fun _=>False) 0=f at hy ⊢;refine dH (k0:=0) O.length (fun k s=>s=(picks O f k,(k:Int))) (Nat.zero_le _) (by simp [picks]) ?_;rintro k s hk rfl;have hw:w64 ((k:Int) + 1)=((k + 1:Nat):Int):=aZ (by omega);have hl:=Du (O:=O) (f:=f) (k:=k);have hs:=Fy (O:=O) (f:=f) (k:=k);unfold rE nL
 dsimp only
 rw [xS,hw]
 refine az (fun h1 => ?_) (fun h1 => ?_)
 ·have a1:k < O.length:=by omega
  refine ah (by omega) (ah (by unfold far; omega) ?_)
  rw [Ao a1]
  rcases hy.look (i:=(k:Int)) (n:=k) rfl (by omega) with ⟨e,hf⟩ | ⟨e,hf⟩
  ·rw [e]
   refine az (fun _ => ?_) (fun h=>absurd rfl h);refine ah (by omega) (ag ⟨a1,?_⟩)
   dsimp only
   rw [hs,if_pos hf]
  ·rw [e]
   refine az (fun h=>absurd h (by decide)) (fun _ => ?_);refine ag ⟨a1,?_⟩
   dsimp only
   rw [hs,if_neg hf]
 ·have:k=O.length:=by omega
  subst this;exact ax (ag rfl)
end
end Go.Proofs.YtfpeabnehpclnaaGreatT
namespace Go.Proofs.YtfpeabnehpclnaaGreatT
open Go Go.Proofs Go.Proofs.YtfpeabnehpclnaaGreatE
set_option linter.unusedVariables false
set_option linter.unusedSimpArgs false
theorem wbm (x:Int):w64 x=Int.bmod x 18446744073709551616:=by
 unfold w64 IntKind.wrap
 simp only [IntKind.bits,IntKind.signed,Bool.true_and,Int.bmod_def]
 have h1:(2 ^ 64:Int)=18446744073709551616:=by decide
 have h2:=Int.emod_nonneg x (show (18446744073709551616:Int)≠0 by decide);have h3:=Int.emod_lt_of_pos x (show (0:Int) < 18446744073709551616 by decide)
 simp only [h1]
 by_cases h:x % 18446744073709551616 < 9223372036854775808
 ·rw [if_neg (by simp; omega),if_pos (by simp; omega)]
  rfl
 ·rw [if_pos (by simp; omega),if_neg (by simp; omega)]
  rfl
theorem Rz (x y:Int):w64 (w64 x + y)=w64 (x + y):=by rw [wbm,wbm,wbm,Int.bmod_add_bmod]
theorem TF (x y:Int):w64 (x + w64 y)=w64 (x + y):=by rw [Int.add_comm,Rz,Int.add_comm]
theorem Dv:∀ (w:List Int) (s:Int),zn (w64 s) w=w64 (s + w.sum)
 | [],s=>by simp [zn]
 | v::w,s=>by
  show zn (w64 (w64 s + v)) w=_
  rw [Rz,Dv w,List.sum_cons,Int.add_assoc]
theorem Oe (w:List Int):zn 0 w=w64 w.sum:=by
 have h:=Dv w 0
 rw [Int.zero_add] at h
 exact h
theorem MR {m i:Nat} (hm:m < 2 ^ 62) (hi:i < 62):cK .i64 (fu .i64 (m:Int) (i:Int)) 1=if m.testBit i then 1 else 0:=by
 have h1:fu .i64 (m:Int) (i:Int)=((m >>> i:Nat):Int):=by
  unfold fu
  rw [show IntKind.bits .i64=64 from rfl,Int.toNat_natCast,Nat.min_eq_left (by omega),Nat.shiftRight_eq_div_pow]
  have:(2:Int) ^ i=((2 ^ i:Nat):Int):=(Int.natCast_pow 2 i).symm
  rw [this,Int.fdiv_eq_ediv_of_nonneg _ (Int.natCast_nonneg _)]
  exact (Int.natCast_ediv m (2 ^ i)).symm
 have h2:m >>> i < 2 ^ 62:=Nat.lt_of_le_of_lt (Nat.shiftRight_le _ _) hm;have h3:cK .i64 ((m >>> i:Nat):Int) ((1:Nat):Int)=(((m >>> i) &&& 1:Nat):Int):=by
  unfold cK
  rw [show IntKind.bits .i64=64 from rfl,BitVec.ofInt_natCast,BitVec.ofInt_natCast,BitVec.toNat_and,BitVec.toNat_ofNat,BitVec.toNat_ofNat,Nat.mod_eq_of_lt (by omega),Nat.mod_eq_of_lt (by decide)]
  have h4:(m >>> i) &&& 1≤1:=Nat.and_le_right;exact nK (by omega) (by omega)
 rw [h1,show (1:Int)=((1:Nat):Int) from rfl,h3,Nv]
 cases m.testBit i <;> rfl
theorem RA {n:Nat} (hn:n≤32):EA .i64 1 (n:Int)=((2 ^ n:Nat):Int):=by
 unfold EA
 rw [show IntKind.bits .i64=64 from rfl,Int.toNat_natCast,Nat.min_eq_left (by omega)]
 have h1:(1:Int) * 2 ^ n=((2 ^ n:Nat):Int):=by rw [Int.one_mul]; exact (Int.natCast_pow 2 n).symm
 rw [h1]
 have h2:2 ^ n≤2 ^ 32:=Nat.pow_le_pow_right (by decide) hn;generalize 2 ^ n=q at h2;exact nK (by omega) (by omega)
section
variable {O:List Int} {W:Int→List Int} {want:Int}
def tN (O:List Int) (W:Int→List Int) (f:Nat→Bool):Nat→Int
 | 0=>0
 | k + 1=>if f k then w64 (tN O W f k + zn 0 (W (idx O (k:Int)))) else tN O W f k
theorem Ap {f:Nat→Bool} {k:Nat}:tN O W f (k + 1)=if f k then w64 (tN O W f k + zn 0 (W (idx O (k:Int)))) else tN O W f k:=rfl
theorem PQ {f:Nat→Bool}:∀ k,w64 (tN O W f k)=tN O W f k
 | 0=>rfl
 | k + 1=>by
  unfold tN
  split
  ·have h:=Rz (tN O W f k + zn 0 (W (idx O (k:Int)))) 0
   rw [Int.add_zero,Int.add_zero] at h
   exact h
  ·exact PQ k
theorem yH {f g:Nat→Bool}:∀ k,(∀ a,a < k→f a=g a)→tN O W f k=tN O W g k
 | 0,_=>rfl
 | k + 1,h=>by
  unfold tN
  rw [h k (by omega),yH k (fun a ha=>h a (by omega))]
theorem IG (f:Nat→Bool):∀ (d i j:Nat) (f:Nat→Bool) (p:Nat→Prop),i + d=O.length→(∀ a,p a↔a < i∧f a=true) →
  (Win want ((O.drop i).map W) (tN O W f i) p i j↔∃ g:Nat→Bool,(∀ a,a < i→g a=f a)∧tN O W g O.length=want∧j < O.length∧g j=true)
 | 0,i,j,f,p,e,hp=>by
  have:i=O.length:=by omega
  subst this
  rw [List.drop_length,List.map_nil]
  show (tN O W f O.length=want∧p j)↔_
  rw [hp j]
  constructor
  ·rintro ⟨h1,h2,h3⟩; exact ⟨f,fun a _=>rfl,h1,h2,h3⟩
  ·rintro ⟨g,h1,h2,h3,h4⟩
   rw [yH O.length h1] at h2
   exact ⟨h2,h3,(h1 j h3) ▸ h4⟩
 | d + 1,i,j,f,p,e,hp=>by
  have hi:i < O.length:=by omega
  have hd:(O.drop i).map W=W (idx O (i:Int))::(O.drop (i + 1)).map W:=by
   rw [List.drop_eq_getElem_cons hi,List.map_cons,(dm (n:=i) rfl hi:idx O (i:Int)=O[i])]
  rw [hd]
  show Win want _ (tN O W f i) p (i + 1) j∨Win want _ (zn (tN O W f i) (W (idx O (i:Int)))) (fun j=>p j∨j=i) (i + 1) j↔_
  have hag:∀ b:Bool,tN O W (fun a=>if a=i then b else f a) i=tN O W f i:=fun b=>yH i (fun a ha=>if_neg (by omega));have e0:tN O W (fun a=>if a=i then false else f a) (i + 1)=tN O W f i:=by
   rw [Ap,hag]
   simp
  have e1:tN O W (fun a=>if a=i then true else f a) (i + 1)=zn (tN O W f i) (W (idx O (i:Int))):=by
   rw [Ap,hag,if_pos (if_pos rfl),← PQ i,Dv,Oe,TF,Rz]
  have i0:=IG f d (i + 1) j (fun a=>if a=i then false else f a) p (by omega) (fun a=>by
   rw [hp a]
   by_cases h:a=i
   ·subst h; simp
   ·simp only [if_neg h]
    constructor
    ·rintro ⟨h1,h2⟩; exact ⟨by omega,h2⟩
    ·rintro ⟨h1,h2⟩; exact ⟨by omega,h2⟩)
  have i1:=IG f d (i + 1) j (fun a=>if a=i then true else f a) (fun j=>p j∨j=i) (by omega) (fun a=>by
   rw [hp a]
   by_cases h:a=i
   ·subst h; simp
   ·simp only [if_neg h,or_iff_left h]
    constructor
    ·rintro ⟨h1,h2⟩; exact ⟨by omega,h2⟩
    ·rintro ⟨h1,h2⟩; exact ⟨by omega,h2⟩)
  rw [e0] at i0
  rw [e1] at i1
  rw [i0,i1]
  constructor
  ·rintro (⟨g,h1,h2⟩ | ⟨g,h1,h2⟩)
   ·exact ⟨g,fun a ha=>by rw [h1 a (by omega),if_neg (by omega)],h2⟩
   ·exact ⟨g,fun a ha=>by rw [h1 a (by omega),if_neg (by omega)],h2⟩
  ·rintro ⟨g,h1,h2⟩;cases hgi:g i
   ·refine .inl ⟨g,fun a ha => ?_,h2⟩
    by_cases h:a=i
    ·subst h; rw [if_pos rfl,hgi]
    ·rw [if_neg h,h1 a (by omega)]
   ·refine .inr ⟨g,fun a ha => ?_,h2⟩
    by_cases h:a=i
    ·subst h; rw [if_pos rfl,hgi]
    ·rw [if_neg h,h1 a (by omega)]
theorem MS (g:Nat→Bool):∀ n:Nat,∃ m:Nat,m < 2 ^ n∧∀ a,a < n→m.testBit a=g a
 | 0=>⟨0,by decide,fun a h=>absurd h (Nat.not_lt_zero _)⟩
 | n + 1=>by
  obtain ⟨m,h1,h2⟩:=MS g n;have hp:2 ^ (n + 1)=2 ^ n + 2 ^ n:=by rw [Nat.pow_succ]; omega
  cases hg:g n
  ·refine ⟨m,by omega,fun a ha => ?_⟩
   by_cases h:a=n
   ·subst h; rw [hg]; exact Nat.testBit_lt_two_pow h1
   ·exact h2 a (by omega)
  ·refine ⟨2 ^ n + m,by omega,fun a ha => ?_⟩
   by_cases h:a=n
   ·subst h
    rw [Nat.testBit_two_pow_add_eq,hg,Nat.testBit_lt_two_pow h1]
    rfl
   ·rw [Nat.testBit_two_pow_add_gt (by omega)]
    exact h2 a (by omega)
def Msk (O:List Int) (W:Int→List Int) (want:Int) (m j:Nat):Prop:=tN O W m.testBit O.length=want∧m.testBit j=true
theorem PR {j:Nat} (hj:j < O.length):Win want (O.map W) 0 (fun _=>False) 0 j↔∃ m:Nat,1≤m∧m < 2 ^ O.length∧Msk O W want m j:=by
 have h:=IG (O:=O) (W:=W) (want:=want) (fun _=>false) O.length 0 j (fun _=>false) (fun _=>False) (by omega) (fun a=>by simp)
 rw [List.drop_zero] at h
 refine Iff.trans h ?_
 constructor
 ·rintro ⟨g,_,h2,h3,h4⟩;obtain ⟨m,m1,m2⟩:=MS g O.length;refine ⟨m,?_,m1,?_,?_⟩
  ·apply Nat.lt_of_not_le
   intro h0;have:m=0:=by omega
   subst this
   rw [← m2 j hj,Nat.zero_testBit] at h4
   cases h4
  ·rw [yH O.length m2]; exact h2
  ·rw [m2 j hj]; exact h4
 ·rintro ⟨m,_,m1,m2,m3⟩;exact ⟨m.testBit,fun a ha=>absurd ha (Nat.not_lt_zero _),m2,hj,m3⟩
end
end Go.Proofs.YtfpeabnehpclnaaGreatT
namespace Go.Proofs.YtfpeabnehpclnaaGreatT
open Go Go.Proofs Go.Proofs.YtfpeabnehpclnaaGreatE
set_option linter.unusedVariables false
set_option linter.unusedSimpArgs false
theorem PS {h:History} {t key:Int} {w:List Int} (hW:aS h t key=some w) (hl:w.length≤16):kG h t key=some (zn 0 w):=by
 refine eQ.1 ?_;unfold kG;refine bK hW ?_;refine dH (k0:=0) w.length (fun m s=>s.1=zn 0 (w.take m)∧s.2=(m:Int)) (Nat.zero_le _) ⟨by simp [zn],rfl⟩ ?_
 rintro m ⟨s,x⟩ hm ⟨f1,f2⟩
 dsimp only at f1 f2
 subst f1 f2;have a2:w64 ((m:Int) + 1)=((m + 1:Nat):Int):=aZ (by omega);unfold vV
 dsimp only
 rw [a2]
 refine az (fun h2 => ?_) (fun h2 => ?_)
 ·have a1:m < w.length:=by omega
  refine ah (by omega) (ag ⟨a1,?_,rfl⟩)
  dsimp only
  rw [Ho a1]
 ·have:m=w.length:=by omega
  subst this;exact ax (ag (by rw [List.take_length]; rfl))
section
variable {O:List Int} {W:Int→List Int}
open Classical in
theorem JS (hol:O.length≤32) (hwl:∀ t ∈ O,(W t).length≤16) {h:History} {a:Ask} (hW:∀ t ∈ O,aS h t a.Key=some (W t)) (ho:aW h a=some O) (hb:0 < a.Base.length) :
  aO h a=some (picks O (Win (idx a.Base 0) (O.map W) 0 (fun _=>False) 0) O.length):=by
 refine eQ.1 ?_;have a6:2 ^ O.length≤2 ^ 32:=Nat.pow_le_pow_right (by decide) hol;have a3:0 < 2 ^ O.length:=Nat.two_pow_pos _;unfold aO;refine bK ho ?_;refine ah (by omega) ?_;have hfin:∀ j,j < O.length→(Win (idx a.Base 0) (O.map W) 0 (fun _=>False) 0 j↔∃ m:Nat,1≤m∧m < 2 ^ O.length∧Msk O W (idx a.Base 0) m j):=fun j hj=>PR hj;generalize Win (idx a.Base 0) (O.map W) 0 (fun _=>False) 0=f at hfin ⊢;have hshl:=RA hol;generalize 2 ^ O.length=N at a6 a3 hfin hshl;refine dH (k0:=1) N (fun m s=>s.1.length=O.length∧s.2=(m:Int)∧∀ j,j < O.length→(idx s.1 (j:Int)=true↔∃ m':Nat,1≤m'∧m' < m∧Msk O W (idx a.Base 0) m' j)) a3 ⟨by simp,rfl,fun j hj => ?_⟩ ?_
 ·dsimp only
  rw [Int.toNat_natCast,dm (n:=j) rfl (by simpa using hj)]
  simp
  intro m' h1 h2
  omega
 rintro m ⟨ok,x⟩ hm ⟨e1,e2,e3⟩
 dsimp only at e1 e2 e3
 subst e2;unfold sP
 dsimp only
 rw [hshl]
 refine ah (by unfold far; omega) ?_;refine az (fun h1 => ?_) (fun h1 => ?_)
 ·have a5:m < N:=by omega
  have hwm:w64 ((m:Int) + 1)=((m + 1:Nat):Int):=aZ (by omega);refine dH (k0:=0) O.length (fun i s=>s.1=tN O W m.testBit i∧s.2=(i:Int)) (Nat.zero_le _) ⟨rfl,rfl⟩ ?_;rintro i ⟨s,x⟩ hi ⟨f1,f2⟩
  dsimp only at f1 f2
  subst f1 f2;have hwi:w64 ((i:Int) + 1)=((i + 1:Nat):Int):=aZ (by omega);unfold sN nE
  dsimp only
  rw [hwi]
  refine az (fun h2 => ?_) (fun h2 => ?_)
  ·have a1:i < O.length:=by omega
   refine ah (by unfold far; omega) ?_
   rw [MR (by omega) (by omega)]
   cases hbit:m.testBit i
   ·refine az (fun h3=>absurd h3 (by simp)) (fun _ => ?_);refine ag ⟨a1,?_,rfl⟩
    dsimp only
    rw [Ap,hbit]
    rfl
   ·refine az (fun _ => ?_) (fun h3=>absurd (by simp) h3);refine ah (by omega) ?_;refine bK (PS (hW _ (fA a1)) (hwl _ (fA a1))) (ag ⟨a1,?_,rfl⟩)
    dsimp only
    rw [Ap,hbit]
    rfl
  ·have:i=O.length:=by omega
   subst this;have fin:∀ l:List Bool,l.length=O.length→(∀ j,j < O.length→(idx l (j:Int)=true↔idx ok (j:Int)=true∨Msk O W (idx a.Base 0) m j)) →
     Upm N m (fun m s=>s.1.length=O.length∧s.2=(m:Int)∧∀ j,j < O.length→(idx s.1 (j:Int)=true↔∃ m':Nat,1≤m'∧m' < m∧Msk O W (idx a.Base 0) m' j)) (fun b=>b=picks O f O.length) (.inl (l,((m + 1:Nat):Int))):=by
    intro l hl hj;refine ⟨a5,hl,rfl,fun j a4 => ?_⟩
    dsimp only
    rw [hj j a4,e3 j a4]
    constructor
    ·rintro (⟨m',h1,h2,h3⟩ | h3)
     ·exact ⟨m',h1,by omega,h3⟩
     ·refine ⟨m,?_,by omega,h3⟩
      apply Nat.lt_of_not_le
      intro h0;have:m=0:=by omega
      subst this;have:=h3.2
      rw [Nat.zero_testBit] at this
      cases this
    ·rintro ⟨m',h1,h2,h3⟩;rcases Nat.lt_or_ge m' m with h4 | h4
     ·exact .inl ⟨m',h1,h4,h3⟩
     ·have:m'=m:=by omega
      subst this;exact .inr h3
   refine dH (k0:=0) O.length (fun i s=>s.1.length=O.length∧s.2=(i:Int)∧∀ j,j < O.length→(idx s.1 (j:Int)=true↔idx ok (j:Int)=true∨(tN O W m.testBit O.length=idx a.Base 0∧j < i∧m.testBit j=true))) (Nat.zero_le _)
    ⟨e1,rfl,fun j hj=>⟨fun h => .inl h,fun h=>h.elim id (fun h=>absurd h.2.1 (Nat.not_lt_zero _))⟩⟩ ?_
   rintro i ⟨l,x⟩ hi ⟨f1,f2,f3⟩
   dsimp only at f1 f2 f3
   subst f2;have hwi:w64 ((i:Int) + 1)=((i + 1:Nat):Int):=aZ (by omega);unfold sM nH nG
   dsimp only
   rw [hwi,hwm]
   refine az (fun h3 => ?_) (fun h3 => ?_)
   ·have a1:i < O.length:=by omega
    refine ah (by omega) ?_;refine az (fun h4 => ?_) (fun h4 => ?_)
    ·refine ah (by omega) ?_
     rw [Int.toNat_natCast,MR (by omega) (by omega)]
     have step:∀ v:Bool,(v=true↔idx l (i:Int)=true∨m.testBit i=true)→∀ j,j < O.length→(idx (l.set i v) (j:Int)=true↔idx ok (j:Int)=true∨(tN O W m.testBit O.length=idx a.Base 0∧j < i + 1∧m.testBit j=true)):=by
      intro v hv j hj
      rw [uF (by omega)]
      by_cases e:j=i
      ·subst e
       rw [if_pos rfl,hv,f3 j hj]
       constructor
       ·rintro ((h | ⟨_,h,_⟩) | h)
        ·exact .inl h
        ·omega
        ·exact .inr ⟨h4,by omega,h⟩
       ·rintro (h | ⟨_,_,h⟩)
        ·exact .inl (.inl h)
        ·exact .inr h
      ·rw [if_neg e,f3 j hj]
       constructor
       ·rintro (h | ⟨h,h',h''⟩)
        ·exact .inl h
        ·exact .inr ⟨h,by omega,h''⟩
       ·rintro (h | ⟨h,h',h''⟩)
        ·exact .inl h
        ·exact .inr ⟨h,by omega,h''⟩
     cases hli:idx l (i:Int)
     ·rw [cond_false]
      refine ah (by unfold far; omega) (ag ⟨a1,by simp [f1],rfl,step _ ?_⟩)
      rw [hli]
      cases m.testBit i <;> simp
     ·rw [cond_true]
      refine ag ⟨a1,by simp [f1],rfl,step _ ?_⟩
      rw [hli]
      simp
    ·refine ax (ax (ag (fin l f1 fun j hj => ?_)))
     rw [f3 j hj]
     unfold Msk;exact or_congr Iff.rfl ⟨fun h=>absurd h.1 h4,fun h=>absurd h.1 h4⟩
   ·have:i=O.length:=by omega
    subst this
    rw [cond_false]
    refine ax (ax (ag (fin l f1 fun j hj => ?_)))
    rw [f3 j hj]
    unfold Msk;exact or_congr Iff.rfl ⟨fun h=>⟨h.1,h.2.2⟩,fun h=>⟨h.1,hj,h.2⟩⟩
 ·have hmN:m=N:=by omega
  subst hmN;have e4:∀ j,j < O.length→(idx ok (j:Int)=true↔f j):=fun j hj=>(e3 j hj).trans (hfin j hj).symm;refine dH (k0:=0) O.length (fun k s=>s=(picks O f k,(k:Int))) (Nat.zero_le _) (by simp [picks]) ?_;rintro k s hk rfl;have hw:w64 ((k:Int) + 1)=((k + 1:Nat):Int):=aZ (by omega);have hl:=Du (O:=O) (f:=f) (k:=k);have hs:=Fy (O:=O) (f:=f) (k:=k);unfold sO nI
  dsimp only
  rw [hw]
  refine az (fun h1 => ?_) (fun h1 => ?_)
  ·have a2:k < O.length:=by omega
   refine ah (by omega) ?_;cases hok:idx ok (k:Int)
   ·rw [cond_false]
    refine ag ⟨a2,?_⟩
    dsimp only
    rw [hs,if_neg (fun hf=>by rw [(e4 k a2).2 hf] at hok; cases hok)]
   ·rw [cond_true]
    refine ah (by omega) (ah (by omega) (ag ⟨a2,?_⟩))
    dsimp only
    rw [hs,if_pos ((e4 k a2).1 hok)]
  ·have:k=O.length:=by omega
   subst this;exact ax (ax (ag rfl))
end
end Go.Proofs.YtfpeabnehpclnaaGreatT
namespace Go.Proofs.YtfpeabnehpclnaaGreatT
open Go Go.Proofs Go.Proofs.YtfpeabnehpclnaaGreatE
set_option linter.unusedVariables false
set_option linter.unusedSimpArgs false
def zb (w:List Int):Int:=idx w ((w.length - 1:Nat):Int)
section
variable {O:List Int} {W:Int→List Int}
def lasts (O:List Int) (W:Int→List Int) (v:Int):List Int:=O.filter (fun t=>decide (zb (W t)=v))
theorem Fz {v:Int} {k:Nat} (hk:k < O.length):lasts (O.take (k + 1)) W v=if zb (W (idx O (k:Int)))=v then lasts (O.take k) W v++[idx O (k:Int)] else lasts (O.take k) W v:=by
 unfold lasts
 rw [List.take_succ_eq_append_getElem hk,List.filter_append,(dm (n:=k) rfl hk:idx O (k:Int)=O[k])]
 by_cases h:zb (W O[k])=v <;> simp [h]
theorem Hq {v:Int} {k:Nat}:(lasts (O.take k) W v).length≤O.length:=Nat.le_trans (List.length_filter_le _ _) (by rw [List.length_take]; omega)
theorem PT (hol:O.length≤32) (hne:∀ t ∈ O,0 < (W t).length) (hwl:∀ t ∈ O,(W t).length≤16) {a:Ask} (hb:0 < a.Base.length) :
  iter (nO a (Cj O W)) ([],0)=some (lasts O W (idx a.Base 0)):=by
 refine eQ.1 ?_;refine dH (k0:=0) O.length (fun k s=>s.1=lasts (O.take k) W (idx a.Base 0)∧s.2=(k:Int)) (Nat.zero_le _) ⟨by simp [lasts],rfl⟩ ?_
 rintro k ⟨l,x⟩ hk ⟨e1,e2⟩
 dsimp only at e1 e2
 subst e1 e2;have hw:w64 ((k:Int) + 1)=((k + 1:Nat):Int):=aZ (by omega);have hl:=Hq (O:=O) (W:=W) (v:=idx a.Base 0) (k:=k);unfold nO nN fU
 dsimp only
 rw [xS,hw]
 refine az (fun h1 => ?_) (fun h1 => ?_)
 ·have a1:k < O.length:=by omega
  have h0:=hne _ (fA a1);have a2:=hwl _ (fA a1);have hs:=Fz (W:=W) (v:=idx a.Base 0) a1
  rw [Ao a1]
  dsimp only
  have hp:w64 (((W (idx O (k:Int))).length:Int) - 1)=(((W (idx O (k:Int))).length - 1:Nat):Int):=mZ (by omega) (by omega)
  rw [hp]
  refine ah (by omega) (ah (by omega) (ah (by omega) ?_));refine az (fun h2 => ?_) (fun h2 => ?_)
  ·refine ah (by omega) (ag ⟨a1,?_,rfl⟩)
   dsimp only
   rw [hs,if_pos (show zb _=_ from h2)]
  ·refine ag ⟨a1,?_,rfl⟩
   dsimp only
   rw [hs,if_neg (show ¬ zb _=_ from h2)]
 ·have:k=O.length:=by omega
  subst this;exact ax (ag (by rw [List.take_length]; rfl))
theorem RB (hol:O.length≤32) (hne:∀ t ∈ O,0 < (W t).length) (hwl:∀ t ∈ O,(W t).length≤16) {h:History} {a:Ask} (hW:∀ t ∈ O,aS h t a.Key=some (W t)) (hb:0 < a.Base.length) :
  iter (rV h a O) ([],0)=some (lasts O W (idx a.Base 0)):=by
 refine eQ.1 ?_;refine dH (k0:=0) O.length (fun k s=>s.1=lasts (O.take k) W (idx a.Base 0)∧s.2=(k:Int)) (Nat.zero_le _) ⟨by simp [lasts],rfl⟩ ?_
 rintro k ⟨l,x⟩ hk ⟨e1,e2⟩
 dsimp only at e1 e2
 subst e1 e2;have hw:w64 ((k:Int) + 1)=((k + 1:Nat):Int):=aZ (by omega);have hl:=Hq (O:=O) (W:=W) (v:=idx a.Base 0) (k:=k);unfold rV rU jk
 dsimp only
 rw [hw]
 refine az (fun h1 => ?_) (fun h1 => ?_)
 ·have a1:k < O.length:=by omega
  have h0:=hne _ (fA a1);have a2:=hwl _ (fA a1);have hs:=Fz (W:=W) (v:=idx a.Base 0) a1;refine ah (by omega) (bK (hW _ (fA a1)) ?_);have hp:w64 (((W (idx O (k:Int))).length:Int) - 1)=(((W (idx O (k:Int))).length - 1:Nat):Int):=mZ (by omega) (by omega)
  rw [hp]
  refine ah (by omega) (ah (by omega) ?_);refine az (fun h2 => ?_) (fun h2 => ?_)
  ·refine ah (by omega) (ag ⟨a1,?_,rfl⟩)
   dsimp only
   rw [hs,if_pos (show zb _=_ from h2)]
  ·refine ag ⟨a1,?_,rfl⟩
   dsimp only
   rw [hs,if_neg (show ¬ zb _=_ from h2)]
 ·have:k=O.length:=by omega
  subst this;exact ax (ag (by rw [List.take_length]; rfl))
end
abbrev oth (h:History) (a:Ask):List Int:=jM h a h.Txns.length
abbrev wro (h:History) (a:Ask):Int→List Int:=fun t=>gJ h t a.Key
open Classical in
def zP (h:History) (a:Ask) (ty:Int) (s:List Int):Prop :=
 if ty=4 then s=(if idx a.Base 0=0 then [-1] else [])++picks (oth h a) (Win (idx a.Base 0) ((oth h a).map (wro h a)) 0 (fun _=>False) 0) (oth h a).length
 else if a.Base.length=0 then s=[-1]
 else if ty=1 then s=lasts (oth h a) (wro h a) (idx a.Base 0)
 else if ty=2 then ∃ r,zO (oth h a) (wro h a) a.Base r∧s=if r.2=true then [zb r.1] else []
 else ∃ r,qz (oth h a) (wro h a) a.Base r∧s=r.1
theorem Ck {h:History} (hS:eY h) (hc:aC h=some 0) {a:Ask} {t p:Nat} (ha:Eb h a t p) :
  ∃ s,aX h a=some s∧di h a=some s∧zP h a (typ (opAt h (t:Int) (p:Int)).Kind) s:=by
 have a8:=hS.len;obtain ⟨k1,k8⟩:=Ci hS ha.tl ha.pl;have hT:fI h a.Key=some (typ (opAt h (t:Int) (p:Int)).Kind):=Am hS hc ha.tl ha.pl ha.e3.symm;have hK:=Ha hS ha.tl ha.pl ha.e1 ha.e2;have hF:cZ h a=some (Cj (oth h a) (wro h a)):=zN hS hc;have hO:aW h a=some (oth h a):=zL hS;have hol:(oth h a).length≤32:=Nat.le_trans vg a8;have hmem:∀ u ∈ oth h a,∃ n:Nat,u=(n:Int)∧n < h.Txns.length∧0 < (wro h a u).length:=fun u hu=>by
  obtain ⟨⟨h0,h1,_,h3⟩,_⟩:=lC.1 hu;exact ⟨u.toNat,by omega,by omega,h3⟩
 have hwl:∀ u ∈ oth h a,(wro h a u).length≤16:=fun u hu=>by
  obtain ⟨n,rfl,hn,_⟩:=hmem u hu;exact Nat.le_trans Ea (hS.txn n hn).ops.1
 have hne:∀ u ∈ oth h a,0 < (wro h a u).length:=fun u hu=>by obtain ⟨n,_,_,h3⟩:=hmem u hu; exact h3
 have hW:∀ u ∈ oth h a,aS h u a.Key=some (wro h a u):=fun u hu=>by
  obtain ⟨n,rfl,hn,_⟩:=hmem u hu;exact yF ⟨by omega,by omega⟩ (hS.txn n hn).ops.1
 have hP:=fun a7=>Fs (a:=a) hS ha a7;have a4:=ha.b64;have a6:=ha.b4;have a5:=ha.b3;have hty:typ (opAt h (t:Int) (p:Int)).Kind=1∨typ (opAt h (t:Int) (p:Int)).Kind=2∨typ (opAt h (t:Int) (p:Int)).Kind=3∨typ (opAt h (t:Int) (p:Int)).Kind=4:=by unfold typ; omega
 generalize typ (opAt h (t:Int) (p:Int)).Kind=ty at hT hK a6 a5 hty hP;have bz:0 < a.Base.length→((a.Base.length:Int) == 0)=false:=fun h=>by rw [beq_eq_false_iff_ne]; omega
 have b0:a.Base.length=0→((a.Base.length:Int) == 0)=true:=fun h=>by rw [beq_iff_eq]; omega
 unfold aX di gV
 simp only [hT,hK,hF,hO,Option.bind_some]
 by_cases h0:a.Base.length=0∧ty≠4
 ·obtain ⟨h0,h4⟩:=h0;refine ⟨[-1],?_,?_,?_⟩
  ·rw [b0 h0,beq_eq_false_iff_ne.2 h4]; rfl
  ·rw [b0 h0,beq_eq_false_iff_ne.2 h4]; rfl
  ·unfold zP; rw [if_neg h4,if_pos h0]
 ·rcases hty with rfl | rfl | rfl | rfl
  ·have hb:0 < a.Base.length:=by omega
   rw [bz hb]
   refine ⟨lasts (oth h a) (wro h a) (idx a.Base 0),PT (W:=wro h a) hol hne hwl (a:=a) hb,RB (W:=wro h a) hol hne hwl hW hb,?_⟩;unfold zP
   rw [if_neg (by decide),if_neg (by omega),if_pos rfl]
  ·have hb:0 < a.Base.length:=by omega
   rw [bz hb]
   obtain ⟨⟨l,b⟩,a3,a2,a1⟩:=Dq (hP (.inl rfl)) hW hO a4;have hsrc:zP h a 2 (if b=true then [zb l] else []):=by
    unfold zP
    rw [if_neg (by decide),if_neg (by omega),if_neg (by decide),if_pos rfl]
    exact ⟨_,a1,rfl⟩
   refine ⟨_,?_,?_,hsrc⟩
   ·rw [a3]
    refine eQ.1 ?_
    show Tri (bif b then _ else _) _
    cases b
    ·exact ag rfl
    ·have hl:0 < l.length∧l.length≤32:=by
      rcases a1 with ⟨_,h1,h2,h3⟩ | ⟨h1,_⟩
      ·refine ⟨?_,Nat.le_trans (yG h2 h1) hol⟩
       apply Nat.lt_of_not_le
       intro hle;have:l=[]:=List.length_eq_zero_iff.1 (by omega);subst this
       rw [h3] at hb
       simp at hb
      ·cases h1
     have hp:w64 ((l.length:Int) - 1)=((l.length - 1:Nat):Int):=mZ (by omega) (by omega)
     dsimp only
     rw [hp]
     refine ah (by omega) (ag ?_)
     rw [Dn]
     show l.drop (l.length - 1)=[zb l]
     rw [List.drop_eq_getElem_cons (by omega),List.drop_eq_nil_of_le (by omega)]
     unfold zb
     rw [dm (n:=l.length - 1) rfl (by omega)]
   ·rw [a2]
    refine eQ.1 ?_
    show Tri (bif b then _ else _) _
    cases b
    ·exact ag rfl
    ·have hl:0 < l.length∧l.length≤32:=by
      rcases a1 with ⟨_,h1,h2,h3⟩ | ⟨h1,_⟩
      ·refine ⟨?_,Nat.le_trans (yG h2 h1) hol⟩
       apply Nat.lt_of_not_le
       intro hle;have:l=[]:=List.length_eq_zero_iff.1 (by omega);subst this
       rw [h3] at hb
       simp at hb
      ·cases h1
     have hp:w64 ((l.length:Int) - 1)=((l.length - 1:Nat):Int):=mZ (by omega) (by omega)
     dsimp only
     rw [hp]
     exact ah (by omega) (ah (by omega) (ag rfl))
  ·have hb:0 < a.Base.length:=by omega
   rw [bz hb]
   obtain ⟨⟨l,b⟩,a3,a2,a1⟩:=Fx (hP (.inr rfl)) vk hW hO a4 (a5 rfl);have hsrc:zP h a 3 l:=by
    unfold zP
    rw [if_neg (by decide),if_neg (by omega),if_neg (by decide),if_neg (by decide)]
    exact ⟨_,a1,rfl⟩
   refine ⟨_,?_,?_,hsrc⟩
   ·rw [a3]; rfl
   ·rw [a2]
    refine eQ.1 ?_
    show Tri (bif b then _ else _) _
    cases b
    ·refine ag ?_;rcases a1 with ⟨h1,_⟩ | ⟨h1,_⟩
     ·cases h1
     ·cases h1; rfl
    ·exact ag rfl
  ·classical
   have hb:0 < a.Base.length:=by have:=a6 rfl; omega
   have hcc:=IE (W:=wro h a) (want:=idx a.Base 0) hol hwl;have hcr:=JS (W:=wro h a) hol hwl hW hO hb;generalize hpk:picks (oth h a) (Win (idx a.Base 0) ((oth h a).map (wro h a)) 0 (fun _=>False) 0) (oth h a).length=pk at hcc hcr;have hpl:pk.length≤32:=by rw [← hpk]; exact Nat.le_trans Du hol
   have hsrc:zP h a 4 ((if idx a.Base 0=0 then [-1] else [])++pk):=by
    unfold zP
    rw [if_pos rfl,← hpk]
   refine ⟨_,?_,?_,hsrc⟩
   ·refine eQ.1 ?_;unfold nM fU
    simp only [hF,hcc,Option.bind_some]
    refine ah (by omega) ?_;refine az (fun h1 => ?_) (fun h1 => ?_)
    ·refine ah (by omega) (ah (by omega) (ah ?_ (ag ?_)))
     ·simp only [List.length_append,List.length_singleton,List.length_nil]; omega
     ·rw [if_pos h1]; rfl
    ·refine ah (by omega) (ah ?_ (ag ?_))
     ·simp only [List.length_nil]; omega
     ·rw [if_neg h1]
   ·refine eQ.1 ?_;unfold rT
    simp only [hcr,Option.bind_some]
    refine ah (by omega) ?_;refine az (fun h1 => ?_) (fun h1 => ?_)
    ·refine ah (by omega) (ag ?_)
     rw [if_pos h1]
    ·refine ag ?_
     rw [if_neg h1]; rfl
end Go.Proofs.YtfpeabnehpclnaaGreatT
namespace Go.Proofs.YtfpeabnehpclnaaGreatT
open Go Go.Proofs Go.Proofs.YtfpeabnehpclnaaGreatE
set_option linter.unusedVariables false
set_option linter.unusedSimpArgs false
noncomputable def qZ (h:History) (a:Ask):List Int:=(aX h a).getD []
theorem Hr {h:History} (hS:eY h) (hc:aC h=some 0) {a:Ask} (ha:a ∈ bu h h.Txns.length):aX h a=some (qZ h a)∧di h a=some (qZ h a):=by
 obtain ⟨t,p,hk⟩:=Dm hS ha;obtain ⟨s,h1,h2,_⟩:=Ck hS hc hk;unfold qZ
 rw [h1,h2]
 exact ⟨rfl,rfl⟩
def isEmpty (h:History) (a:Ask):Prop:=qZ h a=[]
open Classical in
noncomputable def empties (h:History) (l:List Ask):List Ask:=l.filter (fun a=>decide (isEmpty h a))
theorem xV {l:List Ask} {j:Nat} (hj:j < l.length):idx l (j:Int) ∈ l:=by rw [dm (n:=j) rfl hj]; exact List.getElem_mem _
theorem vo {h:History} {l:List Ask} {k:Nat} (hk:k < l.length):(isEmpty h (idx l (k:Int))→empties h (l.take (k + 1))=empties h (l.take k)++[idx l (k:Int)])∧(¬ isEmpty h (idx l (k:Int))→empties h (l.take (k + 1))=empties h (l.take k)):=by
 unfold empties
 rw [List.take_succ_eq_append_getElem hk,List.filter_append,(dm (n:=k) rfl hk:idx l (k:Int)=l[k])]
 constructor <;> intro h1 <;> simp [h1]
section
variable {h:History}
theorem Ec (hS:eY h) (hc:aC h=some 0) {a:Ask} (ha:a ∈ bu h h.Txns.length):Tri (lX a h) (fun r=>r=true ↔ ¬ isEmpty h a):=by
 unfold lX;refine bK (Hr hS hc ha).1 (ag ?_)
 rw [decide_eq_true_iff]
 unfold isEmpty
 constructor
 ·intro h1 h2
  rw [h2] at h1
  simp at h1
 ·intro h1;have:=List.length_pos_iff.2 h1
  omega
theorem LC (hS:eY h) (hc:aC h=some 0) {l:List Ask} (hl:∀ a ∈ l,a ∈ bu h h.Txns.length) (hb:l.length < 2 ^ 60) :
  Tri (bO l h) (fun r=>(r = -1∧∀ j:Nat,j < l.length→isEmpty h (idx l (j:Int)))∨∃ k:Nat,r=(k:Int)∧k < l.length ∧ ¬ isEmpty h (idx l (k:Int))∧∀ j:Nat,j < k→isEmpty h (idx l (j:Int))):=by
 unfold bO;refine dH (k0:=0) l.length (fun k s=>s=(k:Int)∧∀ j:Nat,j < k→isEmpty h (idx l (j:Int))) (Nat.zero_le _) ⟨rfl,fun j h=>absurd h (Nat.not_lt_zero _)⟩ ?_;rintro k s hk ⟨rfl,hno⟩;have hw:w64 ((k:Int) + 1)=((k + 1:Nat):Int):=aZ (by omega);unfold gz
 dsimp only
 rw [hw]
 refine az (fun h1 => ?_) (fun h1 => ?_)
 ·have a1:k < l.length:=by omega
  refine ah (by omega) ?_;refine dN (Ec hS hc (hl _ (xV a1))) (fun r hr => ?_);refine az (fun h2 => ?_) (fun h2 => ?_)
  ·exact ax (ag (.inr ⟨k,rfl,a1,hr.1 h2,hno⟩))
  ·refine ag ⟨a1,rfl,fun j hj => ?_⟩;rcases Nat.lt_or_ge j k with h3 | h3
   ·exact hno j h3
   ·have:j=k:=by omega
    subst this;exact Classical.byContradiction fun h4=>h2 (hr.2 h4)
 ·have:k=l.length:=by omega
  subst this;exact ax (ag (.inl ⟨rfl,hno⟩))
theorem zQ {l:List Ask}:∀ k:Nat,k≤l.length→(∀ j:Nat,j < k→isEmpty h (idx l (j:Int)))→empties h (l.take k)=l.take k
 | 0,_,_=>by simp [empties]
 | k + 1,hk,hj=>by
  rw [(vo (by omega)).1 (hj k (by omega)),zQ k (by omega) (fun j h=>hj j (by omega)),List.take_succ_eq_append_getElem (by omega),(dm (n:=k) rfl (by omega):idx l (k:Int)=l[k])]
theorem JU (hS:eY h) (hc:aC h=some 0) {l:List Ask} (hl:∀ a ∈ l,a ∈ bu h h.Txns.length) (hb:l.length < 2 ^ 60):bv l h=some (empties h l):=by
 refine eQ.1 ?_;unfold bv;refine dN (LC hS hc hl hb) (fun r hr => ?_);rcases hr with ⟨rfl,hr⟩ | ⟨k0,rfl,a3,hne,hr⟩
 ·refine ag ?_;have:=zQ (h:=h) (l:=l) l.length (Nat.le_refl _) hr
  rw [List.take_length] at this
  exact this.symm
 ·have a2:w64 ((k0:Int) + 1)=((k0 + 1:Nat):Int):=aZ (by omega);refine az (fun h1=>absurd h1 (by omega)) (fun _ => ?_);refine ah (by omega) ?_
  rw [a2,Int.toNat_natCast]
  refine dH (k0:=k0 + 1) l.length (fun k s=>s.1=empties h (l.take k)∧s.2=(k:Int)) (by omega) ⟨?_,rfl⟩ ?_
  ·dsimp only
   rw [(vo a3).2 hne,zQ k0 (by omega) hr]
  rintro k ⟨m,x⟩ hk ⟨e1,e2⟩
  dsimp only at e1 e2
  subst e1 e2;have hw:w64 ((k:Int) + 1)=((k + 1:Nat):Int):=aZ (by omega);unfold gm
  dsimp only
  rw [hw]
  refine az (fun h1 => ?_) (fun h1 => ?_)
  ·have a1:k < l.length:=by omega
   refine ah (by omega) ?_;refine dN (Ec hS hc (hl _ (xV a1))) (fun r hr => ?_);cases r
   ·refine ag ⟨a1,?_,rfl⟩
    dsimp only
    rw [(vo a1).1 (Classical.byContradiction fun h4=>by have:=hr.2 h4; cases this)]
   ·refine ag ⟨a1,?_,rfl⟩
    dsimp only
    rw [(vo a1).2 (hr.1 rfl)]
  ·have:k=l.length:=by omega
   subst this;exact ax (ag (by rw [List.take_length]; rfl))
end
end Go.Proofs.YtfpeabnehpclnaaGreatT
namespace Go.Proofs.YtfpeabnehpclnaaGreatT
open Go Go.Proofs Go.Proofs.YtfpeabnehpclnaaGreatE
set_option linter.unusedVariables false
set_option linter.unusedSimpArgs false
theorem JV {b a:Ask} (ha:a.Base.length < 2 ^ 60):Tri (oq b a) (fun r=>r=true↔a=b):=by
 unfold oq
 rw [Bp (by omega)]
 obtain ⟨a1,a2,a3,a4⟩:=a;obtain ⟨b1,b2,b3,b4⟩:=b
 dsimp only
 refine az (fun e1 => ?_) (fun e1=>ag ?_)
 ·refine az (fun e2 => ?_) (fun e2=>ag ?_)
  ·refine az (fun e3=>ag ?_) (fun e3=>ag ?_)
   ·simp [e1,e2,e3]
   ·simp [e3]
  ·simp [e2]
 ·simp [e1]
theorem GH {l:List Ask} {a:Ask} (ha:a.Base.length < 2 ^ 60) (hl:l.length < 2 ^ 60):Tri (dV l a) (fun r=>r=true↔a ∈ l):=by
 have h1:Tri (bN l a) (fun r=>0≤r↔a ∈ l):=by
  unfold bN;refine dH (k0:=0) l.length (fun k s=>s=(k:Int)∧∀ j:Nat,j < k→a≠idx l (j:Int)) (Nat.zero_le _) ⟨rfl,fun j h=>absurd h (Nat.not_lt_zero _)⟩ ?_;rintro k s hk ⟨rfl,hno⟩;have hw:w64 ((k:Int) + 1)=((k + 1:Nat):Int):=aZ (by omega);unfold gu
  dsimp only
  rw [hw]
  refine az (fun h1 => ?_) (fun h1 => ?_)
  ·have a1:k < l.length:=by omega
   refine ah (by omega) (dN (JV ha) (fun r hr => ?_));refine az (fun h2 => ?_) (fun h2 => ?_)
   ·refine ax (ag ⟨fun _ => ?_,fun _=>by omega⟩)
    rw [hr.1 h2]
    exact xV a1
   ·refine ag ⟨a1,rfl,fun j hj => ?_⟩;rcases Nat.lt_or_ge j k with h3 | h3
    ·exact hno j h3
    ·have:j=k:=by omega
     subst this;exact fun e=>h2 (hr.2 e)
  ·have:k=l.length:=by omega
   subst this;refine ax (ag ⟨fun h=>absurd h (by decide),fun h => ?_⟩);obtain ⟨j,hj,e⟩:=List.getElem_of_mem h;exact absurd (e.symm.trans (dm rfl hj).symm) (hno j hj)
 unfold dV;refine dN h1 (fun r hr=>ag ?_)
 rw [decide_eq_true_iff]
 exact hr
theorem FB {h:History} (hs:qM h) (hS:eY h) (hc:aC h=some 0) {a:Ask} (ha:a.Base.length < 2 ^ 60) :
  Tri (pg h a) (fun r=>(r=0∧a ∈ bu h h.Txns.length)∨(r=1∧a ∉ bu h h.Txns.length)):=by
 have a1:=hS.len;obtain ⟨i1,_,_⟩:=vH hS h.Txns.length (Nat.le_refl _);have hA:jJ h=some (bu h h.Txns.length,0):=by unfold jJ; rw [Cg hs hS hc]; rfl
 unfold pg;refine bK hA ?_;refine az (fun h1=>absurd rfl h1) (fun _ => ?_);refine dN (GH ha (by dsimp only; omega)) (fun r hr => ?_);refine az (fun h1 => ?_) (fun h1 => ?_)
 ·exact ag (.inl ⟨rfl,hr.1 h1⟩)
 ·exact ag (.inr ⟨rfl,fun h2=>h1 (hr.2 h2)⟩)
theorem JW {h:History} (hS:eY h) {a:Ask} (ha:a ∈ bu h h.Txns.length):a.Base.length < 2 ^ 60:=by
 obtain ⟨t,p,hk⟩:=Dm hS ha;have:=hk.b64
 omega
theorem II {h:History} (hs:qM h) (hS:eY h) (hc:aC h=some 0) {a:Ask} (ha:a ∈ bu h h.Txns.length):ou h a=some (qZ h a,0):=by
 refine eQ.1 ?_;unfold ou;refine dN (FB hs hS hc (JW hS ha)) (fun r hr => ?_);rcases hr with ⟨rfl,_⟩ | ⟨_,h1⟩
 ·refine az (fun h1=>absurd rfl h1) (fun _ => ?_);exact bK (Hr hS hc ha).1 (ag rfl)
 ·exact absurd ha h1
end Go.Proofs.YtfpeabnehpclnaaGreatT
namespace Go.Proofs.YtfpeabnehpclnaaGreatT
open Go Go.Proofs Go.Proofs.YtfpeabnehpclnaaGreatE
set_option linter.unusedVariables false
set_option linter.unusedSimpArgs false
end Go.Proofs.YtfpeabnehpclnaaGreatT
namespace Go.Proofs.YtfpeabnehpclnaaGreatT
open Go Go.Proofs Go.Proofs.YtfpeabnehpclnaaGreatE
set_option linter.unusedVariables false
set_option linter.unusedSimpArgs false
theorem Og {O:List Int} {W:Int→List Int} {base:List Int}:(xU O W base).length≤O.length:=List.length_filter_le _ _
theorem FC {O:List Int} {W:Int→List Int} {base:List Int} {r:List Int×Bool} (h:zO O W base r):r.1.length≤O.length:=by
 rcases h with ⟨_,h1,h2,_⟩ | ⟨rfl,_⟩
 ·exact yG h2 h1
 ·exact Nat.zero_le _
theorem Ht {O:List Int} {W:Int→List Int} {base:List Int} {r:List Int×Bool} (h:qz O W base r):r.1.length≤O.length:=by
 rcases h with ⟨rfl,_⟩ | ⟨rfl,_⟩
 ·exact Og
 ·exact Nat.zero_le _
theorem IJ {h:History} (hS:eY h) {a:Ask}:(oth h a).length≤32:=Nat.le_trans vg hS.len
def IK (h:History) (a:Ask) (ty:Int) (r:List Int×Bool):Prop :=
 (ty=2→zO (oth h a) (wro h a) a.Base r)∧(ty=3→qz (oth h a) (wro h a) a.Base r)∧(ty≠2→ty≠3→r=([],false))
theorem LD {h:History} (hS:eY h) (hc:aC h=some 0) {a:Ask} {t p:Nat} (ha:Eb h a t p) :
  ∃ r,gV h a=some r∧r.1.length≤32∧IK h a (typ (opAt h (t:Int) (p:Int)).Kind) r:=by
 have a7:=hS.len;have hT:fI h a.Key=some (typ (opAt h (t:Int) (p:Int)).Kind):=Am hS hc ha.tl ha.pl ha.e3.symm;have hF:cZ h a=some (Cj (oth h a) (wro h a)):=zN hS hc;have hO:aW h a=some (oth h a):=zL hS;have hol:=IJ hS (a:=a);have hW:∀ u ∈ oth h a,aS h u a.Key=some (wro h a u):=fun u hu=>by
  obtain ⟨⟨h0,h1,_,h3⟩,_⟩:=lC.1 hu;have hn:u.toNat < h.Txns.length:=by omega
  have e:u=(u.toNat:Int):=by omega
  rw [e]
  exact yF ⟨by omega,by omega⟩ (hS.txn u.toNat hn).ops.1
 have hP:=fun a5=>Fs (a:=a) hS ha a5;have a3:=ha.b64;have a4:=ha.b3;generalize typ (opAt h (t:Int) (p:Int)).Kind=ty at hT a4 hP;unfold gV
 simp only [hT,hF,Option.bind_some]
 by_cases h2:ty=2
 ·subst h2;obtain ⟨r,a2,a6,a1⟩:=Dq (hP (.inl rfl)) hW hO a3;refine ⟨r,?_,Nat.le_trans (FC a1) hol,fun _=>a1,fun h=>absurd h (by decide),fun h=>absurd rfl h⟩
  rw [a2]; rfl
 ·by_cases h3:ty=3
  ·subst h3;obtain ⟨r,a2,a6,a1⟩:=Fx (hP (.inr rfl)) vk hW hO a3 (a4 rfl);refine ⟨r,?_,Nat.le_trans (Ht a1) hol,fun h=>absurd h (by decide),fun _=>a1,fun _ h=>absurd rfl h⟩
   rw [a2]; rfl
  ·refine ⟨([],false),?_,Nat.zero_le _,fun h=>absurd h h2,fun h=>absurd h h3,fun _ _=>rfl⟩
   rw [beq_eq_false_iff_ne.2 h2,beq_eq_false_iff_ne.2 h3]; rfl
theorem LF {h:History} (hS:eY h) (hc:aC h=some 0) {a:Ask} {t p:Nat} (ha:Eb h a t p) :
  ∃ r,gV h a=some r∧tJ h a=some r∧r.1.length≤32∧IK h a (typ (opAt h (t:Int) (p:Int)).Kind) r:=by
 have a7:=hS.len;have hT:fI h a.Key=some (typ (opAt h (t:Int) (p:Int)).Kind):=Am hS hc ha.tl ha.pl ha.e3.symm;have hK:=Ha hS ha.tl ha.pl ha.e1 ha.e2;have hF:cZ h a=some (Cj (oth h a) (wro h a)):=zN hS hc;have hO:aW h a=some (oth h a):=zL hS;have hol:=IJ hS (a:=a);have hW:∀ u ∈ oth h a,aS h u a.Key=some (wro h a u):=fun u hu=>by
  obtain ⟨⟨h0,h1,_,h3⟩,_⟩:=lC.1 hu;have hn:u.toNat < h.Txns.length:=by omega
  have e:u=(u.toNat:Int):=by omega
  rw [e]
  exact yF ⟨by omega,by omega⟩ (hS.txn u.toNat hn).ops.1
 have hP:=fun a6=>Fs (a:=a) hS ha a6;have a4:=ha.b64;have a5:=ha.b3;generalize typ (opAt h (t:Int) (p:Int)).Kind=ty at hT hK a5 hP;unfold gV tJ
 simp only [hT,hK,hF,Option.bind_some]
 by_cases h2:ty=2
 ·subst h2;obtain ⟨r,a3,a2,a1⟩:=Dq (hP (.inl rfl)) hW hO a4;refine ⟨r,?_,?_,Nat.le_trans (FC a1) hol,fun _=>a1,fun h=>absurd h (by decide),fun h=>absurd rfl h⟩
  ·rw [a3]; rfl
  ·rw [a2]; rfl
 ·by_cases h3:ty=3
  ·subst h3;obtain ⟨r,a3,a2,a1⟩:=Fx (hP (.inr rfl)) vk hW hO a4 (a5 rfl);refine ⟨r,?_,?_,Nat.le_trans (Ht a1) hol,fun h=>absurd h (by decide),fun _=>a1,fun _ h=>absurd rfl h⟩
   ·rw [a3]; rfl
   ·rw [a2]; rfl
  ·refine ⟨([],false),?_,?_,Nat.zero_le _,fun h=>absurd h h2,fun h=>absurd h h3,fun _ _=>rfl⟩
   ·rw [beq_eq_false_iff_ne.2 h2,beq_eq_false_iff_ne.2 h3]; rfl
   ·rw [beq_eq_false_iff_ne.2 h2,beq_eq_false_iff_ne.2 h3]; rfl
noncomputable def pts (h:History) (a:Ask):List Int×Bool:=(gV h a).getD ([],false)
theorem PU {h:History} (hS:eY h) (hc:aC h=some 0) {a:Ask} (ha:a ∈ bu h h.Txns.length):gV h a=some (pts h a)∧tJ h a=some (pts h a)∧(pts h a).1.length≤32:=by
 obtain ⟨t,p,hk⟩:=Dm hS ha;obtain ⟨r,h1,h2,h3,_⟩:=LF hS hc hk;have e:pts h a=r:=by unfold pts; rw [h1]; rfl
 rw [e]
 exact ⟨h1,h2,h3⟩
section
variable {h:History}
end
end Go.Proofs.YtfpeabnehpclnaaGreatT
namespace Go.Proofs.YtfpeabnehpclnaaGreatT
open Go Go.Proofs Go.Proofs.YtfpeabnehpclnaaGreatE
set_option linter.unusedVariables false
set_option linter.unusedSimpArgs false
def pos (l:List Int) (t:Int):Nat:=l.findIdx (fun x=>decide (x=t))
theorem PV {l:List Int} {i j:Nat} (hn:l.Nodup) (hi:i < l.length) (hj:j < l.length) (e:idx l (i:Int)=idx l (j:Int)):i=j:=by
 rw [dm (n:=i) rfl hi,dm (n:=j) rfl hj] at e
 have hp:=List.pairwise_iff_getElem.1 hn;rcases Nat.lt_trichotomy i j with h | h | h
 ·exact absurd e (hp i j hi hj h)
 ·exact h
 ·exact absurd e.symm (hp j i hj hi h)
theorem PW {l:List Int} {k:Nat} {t:Int}:t ∈ l.take k↔∃ j:Nat,j < k∧j < l.length∧idx l (j:Int)=t:=by
 constructor
 ·intro h;obtain ⟨j,hj,e⟩:=List.getElem_of_mem h
  rw [List.length_take] at hj
  refine ⟨j,by omega,by omega,?_⟩
  rw [dm (n:=j) rfl (by omega),← e,List.getElem_take]
 ·rintro ⟨j,h1,h2,e⟩
  rw [dm (n:=j) rfl h2] at e
  rw [← e]
  exact List.mem_iff_getElem.2 ⟨j,by rw [List.length_take]; omega,by rw [List.getElem_take]⟩
section
variable {h:History} {l:List Int}
end
end Go.Proofs.YtfpeabnehpclnaaGreatT
namespace Go.Proofs.YtfpeabnehpclnaaGreatT
open Go Go.Proofs Go.Proofs.YtfpeabnehpclnaaGreatE
set_option linter.unusedVariables false
set_option linter.unusedSimpArgs false
abbrev srt (l:List Int):List Int:=l.mergeSort fun x y=>decide (x≤y)
def fin (ty:Int) (w:List Int):List Int:=if ty=1 then w.drop (w.length - 1) else if ty=3 then srt w else if ty=4 then [w64 w.sum] else w
section
variable {h:History} {l:List Int}
end
end Go.Proofs.YtfpeabnehpclnaaGreatT
namespace Go.Proofs.YtfpeabnehpclnaaGreatT
open Go Go.Proofs Go.Proofs.YtfpeabnehpclnaaGreatE
set_option linter.unusedVariables false
set_option linter.unusedSimpArgs false
theorem PX {h:History} {a:Ask} (ha:a ∈ bu h h.Txns.length):∃ t:Nat,a.Txn=(t:Int)∧t < h.Txns.length∧(idx h.Txns (t:Int)).Status=1:=by
 unfold bu at ha;obtain ⟨t,ht,ha⟩:=List.mem_flatMap.1 ha;have ht:=List.mem_range.1 ht;unfold xH at ha
 split at ha
 case isFalse=>cases ha
 case isTrue hst =>
 unfold ww at ha;obtain ⟨p,hp,ha⟩:=List.mem_flatMap.1 ha;refine ⟨t,?_,ht,hst⟩;unfold DX at ha
 dsimp only at ha
 split at ha
 ·cases ha
 ·split at ha
  ·rw [List.mem_singleton] at ha
   rw [ha]
  ·split at ha
   ·rw [List.mem_singleton] at ha
    rw [ha]
   ·cases ha
def kd (h:History) (a:Ask):Int:=typ (opAt h a.Txn a.Place).Kind
section
variable {h:History} {l:List Int} {m:List (Int×Int)}
theorem SB {a:Ask} {t p:Nat} (hk:Eb h a t p):kd h a=typ (opAt h (t:Int) (p:Int)).Kind:=by
 unfold kd
 rw [hk.e1,hk.e2]
theorem PY (hS:eY h) (hc:aC h=some 0) {a:Ask} (ha:a ∈ bu h h.Txns.length):fI h a.Key=some (kd h a):=by
 obtain ⟨t,p,hk⟩:=Dm hS ha
 rw [SB hk]
 exact Am hS hc hk.tl hk.pl hk.e3.symm
end
end Go.Proofs.YtfpeabnehpclnaaGreatT
namespace Go.Proofs.YtfpeabnehpclnaaGreatT
open Go Go.Proofs Go.Proofs.YtfpeabnehpclnaaGreatE
set_option linter.unusedVariables false
set_option linter.unusedSimpArgs false
section
variable {h:History} {l at_:List Int}
end
end Go.Proofs.YtfpeabnehpclnaaGreatT
namespace Go.Proofs.YtfpeabnehpclnaaGreatT
open Go Go.Proofs Go.Proofs.YtfpeabnehpclnaaGreatE
set_option linter.unusedVariables false
set_option linter.unusedSimpArgs false
end Go.Proofs.YtfpeabnehpclnaaGreatT
namespace Go.Proofs.YtfpeabnehpclnaaGreatT
open Go Go.Proofs Go.Proofs.YtfpeabnehpclnaaGreatE
set_option linter.unusedVariables false
set_option linter.unusedSimpArgs false
section
variable {h:History}
abbrev don (h:History) (t:Nat):Prop:=(idx h.Txns (t:Int)).Status=1
def ff (h:History) (p:Int):Nat→Option Nat
 | 0=>none
 | d + 1=>if don h (h.Txns.length - (d + 1))∧(idx h.Txns ((h.Txns.length - (d + 1):Nat):Int)).Proc=p then some (h.Txns.length - (d + 1)) else ff h p d
theorem MU {p:Int}:∀ {d b:Nat},d≤h.Txns.length→ff h p d=some b→h.Txns.length - d≤b∧b < h.Txns.length∧don h b∧(idx h.Txns (b:Int)).Proc=p
 | 0,_,_,e=>nomatch e
 | d + 1,b,hd,e=>by
  unfold ff at e
  split at e
  ·rename_i hc
   cases e;exact ⟨Nat.le_refl _,by omega,hc.1,hc.2⟩
  ·obtain ⟨h1,h2,h3⟩:=MU (by omega) e;exact ⟨by omega,h2,h3⟩
def soE (h:History) (a:Nat):List Edge:=if don h a then (match ff h (idx h.Txns (a:Int)).Proc (h.Txns.length - 1 - a) with | some b=>[⟨a,b,1,-1⟩] | none=>[]) else []
def IL (h:History) (a b:Nat):List Edge:=if don h a∧don h b∧(idx h.Txns (a:Int)).To < (idx h.Txns (b:Int)).From then [⟨a,b,2,-1⟩] else []
def rtE (h:History) (a k:Nat):List Edge:=(List.range k).flatMap (IL h a)
def upE {β:Type} (f:Nat→List β) (k:Nat):List β:=(List.range k).flatMap f
theorem uD {β:Type} {f:Nat→List β} {k:Nat}:upE f (k + 1)=upE f k++f k:=by
 unfold upE
 rw [List.range_succ,List.flatMap_append]
 simp
theorem vv {β:Type} {f:Nat→List β} {m:Nat} (hf:∀ k,(f k).length≤m):∀ k,(upE f k).length≤k * m
 | 0=>by simp [upE]
 | k + 1=>by
  rw [uD,List.length_append,Nat.add_mul,Nat.one_mul]
  have:=vv hf k;have:=hf k
  omega
theorem RD {a:Nat}:(soE h a).length≤1:=by
 unfold soE
 split
 ·split <;> simp
 ·simp
theorem PZ {a b:Nat}:(IL h a b).length≤1:=by
 unfold IL
 split <;> simp
theorem JX {a k:Nat}:rtE h a (k + 1)=rtE h a k++IL h a k:=uD
theorem MV {a k:Nat}:(rtE h a k).length≤k:=by
 have:=vv (f:=IL h a) (fun k=>PZ) k
 rwa [Nat.mul_one] at this
abbrev soL (h:History) (k:Nat):List Edge:=upE (soE h) k
abbrev rtL (h:History) (k:Nat):List Edge:=upE (fun a=>rtE h a h.Txns.length) k
theorem EJ {k:Nat}:(soL h k).length≤k:=by
 have:=vv (f:=soE h) (fun k=>RD) k
 rwa [Nat.mul_one] at this
theorem IM (hS:eY h) {k:Nat} (hk:k≤h.Txns.length):(rtL h k).length≤1024:=by
 have a1:=hS.len;have h1:(rtL h k).length≤k * 32:=vv (fun k=>Nat.le_trans MV a1) k
 omega
theorem EK {m:aD} {t:Nat} (ht:t < m.h.Txns.length):iG m (t:Int)=some (decide (don m.h t)):=by
 unfold iG
 rw [iQ _ (by omega)]
 by_cases h1:don m.h t
 ·rw [decide_eq_true h1,show ((idx m.h.Txns (t:Int)).Status == 1)=true from beq_iff_eq.2 h1]
 ·rw [decide_eq_false h1,show ((idx m.h.Txns (t:Int)).Status == 1)=false from beq_eq_false_iff_ne.2 h1]
theorem Dw {m:aD} {a b k y:Int} (hl:m.edges.length < 2 ^ 40):fM m a b k y=some ⟨m.h,m.asks,m.edges++[⟨a,b,k,y⟩]⟩:=by
 unfold fM
 rw [iQ _ (by omega)]
def nx (h:History) (t:Nat):Int:=if don h t then (match ff h (idx h.Txns (t:Int)).Proc (h.Txns.length - 1 - t) with | some b=>(b:Int) | none => -1) else -1
theorem SN {t:Nat}:soE h t=if nx h t ≥ 0 then [⟨t,nx h t,1,-1⟩] else []:=by
 unfold soE nx
 split
 ·split
  ·rename_i b _
   rw [if_pos (by omega)]
  ·rw [if_neg (by omega)]
 ·rw [if_neg (by omega)]
theorem GI {m:aD} (a7:m.h.Txns.length≤32) (hl:m.edges.length < 2 ^ 30):aM m=some ⟨m.h,m.asks,m.edges++soL m.h m.h.Txns.length⟩:=by
 refine eQ.1 ?_;unfold aM;refine ah (by omega) ?_;have hn:(m.h.Txns.length:Int).toNat=m.h.Txns.length:=by omega
 rw [hn]
 by_cases h0:m.h.Txns.length=0
 ·
  rw [ul]
  unfold jE
  dsimp only
  have hw:w64 ((m.h.Txns.length:Int) - 1) = -1:=by rw [h0]; decide
  rw [hw,decide_eq_false (by decide),cond_false,ul]
  unfold jD
  dsimp only
  rw [List.length_replicate,decide_eq_false (by omega),cond_false]
  refine ⟨_,rfl,?_⟩
  rw [h0]
  simp [soL,upE]
 have hw:w64 ((m.h.Txns.length:Int) - 1)=((m.h.Txns.length:Int) - 1 - (0:Nat)):=by rw [nK (by omega) (by omega)]; omega
 rw [hw]
 refine dH (k0:=0) m.h.Txns.length (fun k s=>s.1.length=m.h.Txns.length∧s.2.2=(m.h.Txns.length:Int) - 1 - (k:Int)∧(∀ t:Nat,m.h.Txns.length - k≤t→t < m.h.Txns.length→idx s.1 (t:Int)=nx m.h t) ∧
  ∀ p:Int,(iR s.2.1 p=true↔(ff m.h p k).isSome=true)∧∀ b,ff m.h p k=some b→mat s.2.1 p=(b:Int)) (Nat.zero_le _)
  ⟨by simp,rfl,fun t h1 h2=>by omega,fun p=>⟨by simp [FV,ff],fun b hb=>(nomatch hb)⟩⟩ ?_
 rintro k ⟨l,mp,x⟩ hk ⟨e1,rfl,e3,e4⟩
 dsimp only at e1 e3 e4
 unfold jE
 dsimp only
 refine az (fun h1 => ?_) (fun h1 => ?_)
 ·have a2:k < m.h.Txns.length:=by omega
  obtain ⟨t,ht,hx⟩:∃ t:Nat,t < m.h.Txns.length∧(m.h.Txns.length:Int) - 1 - (k:Int)=(t:Int):=⟨m.h.Txns.length - 1 - k,by omega,by omega⟩
  have htk:t=m.h.Txns.length - (k + 1):=by omega
  have a3:m.h.Txns.length - 1 - t=k:=by omega
  rw [hx]
  have a4:w64 ((t:Int) - 1)=(m.h.Txns.length:Int) - 1 - ((k + 1:Nat):Int):=by rw [nK (by omega) (by omega)]; omega
  have hset:∀ v:Int,∀ u:Nat,u < m.h.Txns.length→idx (l.set t v) (u:Int)=if u=t then v else idx l (u:Int):=fun v u hu=>by
   rw [dm (n:=u) rfl (by simpa using by omega),List.getElem_set]
   by_cases e:t=u
   ·rw [if_pos e,if_pos e.symm]
   ·rw [if_neg e,if_neg (fun h=>e h.symm),dm (n:=u) rfl (by omega)]
  have hset2:∀ v v':Int,(l.set t v).set t v'=l.set t v':=fun v v'=>by simp
  have hto:(t:Int).toNat=t:=by omega
  refine ah (by omega) (bK (EK (m:=m) ht) ?_);unfold jB jA
  rw [a4,hto]
  have ffk:∀ p,ff m.h p (k + 1)=if don m.h t∧(idx m.h.Txns (t:Int)).Proc=p then some t else ff m.h p k:=fun p=>by
   have e:ff m.h p (k + 1)=if don m.h (m.h.Txns.length - (k + 1))∧(idx m.h.Txns ((m.h.Txns.length - (k + 1):Nat):Int)).Proc=p then some (m.h.Txns.length - (k + 1)) else ff m.h p k:=rfl
   rw [e,← htk]
  by_cases hd:don m.h t
  ·rw [decide_eq_true hd]
   refine az (fun h=>absurd h (by simp)) (fun _ => ?_);refine ah (by omega) ?_;have last:∀ v,v=nx m.h t→Upm m.h.Txns.length k (fun (k:Nat) (s:List Int×List (Int×Int)×Int)=>s.1.length=m.h.Txns.length∧s.2.2=(m.h.Txns.length:Int) - 1 - (k:Int)∧(∀ t:Nat,m.h.Txns.length - k≤t→t < m.h.Txns.length→idx s.1 (t:Int)=nx m.h t) ∧
      ∀ p:Int,(iR s.2.1 p=true↔(ff m.h p k).isSome=true)∧∀ b,ff m.h p k=some b→mat s.2.1 p=(b:Int)) (fun b:aD=>b=⟨m.h,m.asks,m.edges++soL m.h m.h.Txns.length⟩)
     (.inl (l.set t v,fC mp (idx m.h.Txns (t:Int)).Proc (t:Int),(m.h.Txns.length:Int) - 1 - ((k + 1:Nat):Int))):=fun v hv=>by
    refine ⟨a2,by dsimp only; simp [e1],rfl,fun u a5 a1 => ?_,fun p => ?_⟩
    ·dsimp only
     rw [hset v u a1]
     by_cases e:u=t
     ·rw [if_pos e,hv,e]
     ·rw [if_neg e]; exact e3 u (by omega) a1
    ·dsimp only
     rw [oO,qA,ffk p]
     by_cases e:(idx m.h.Txns (t:Int)).Proc=p
     ·rw [if_pos ⟨hd,e⟩,if_pos e.symm]
      exact ⟨by simp [e],fun b hb=>by cases hb; rfl⟩
     ·rw [if_neg (fun h=>e h.2),if_neg (fun h=>e h.symm)]
      refine ⟨⟨fun h => ?_,fun h => .inr ((e4 p).1.2 h)⟩,(e4 p).2⟩;rcases h with h | h
      ·exact absurd h.symm e
      ·exact (e4 p).1.1 h
   refine az (fun h2 => ?_) (fun h2 => ?_)
   ·have h3:=(e4 (idx m.h.Txns (t:Int)).Proc).1.1 h2;obtain ⟨b,hb⟩:=Option.isSome_iff_exists.1 h3;have h4:=(e4 (idx m.h.Txns (t:Int)).Proc).2 b hb;refine ah (by simp [e1]; omega) (ah (by omega) (ag ?_))
    rw [hset2,h4]
    refine last _ ?_;unfold nx
    rw [if_pos hd,a3,hb]
   ·refine ah (by omega) (ag (last _ ?_));have h3:ff m.h (idx m.h.Txns (t:Int)).Proc k=none:=by
     cases h4:ff m.h (idx m.h.Txns (t:Int)).Proc k with
     | none=>rfl
     | some b=>exact absurd ((e4 _).1.2 (by rw [h4]; rfl)) (by simpa using h2)
    unfold nx
    rw [if_pos hd,a3,h3]
  ·rw [decide_eq_false hd]
   rw [Bool.not_false,cond_true]
   refine ag ⟨a2,by dsimp only; simp [e1],rfl,fun u a5 a1 => ?_,fun p => ?_⟩
   ·dsimp only
    rw [hset _ u a1]
    by_cases e:u=t
    ·rw [if_pos e,e]; unfold nx; rw [if_neg hd]
    ·rw [if_neg e]; exact e3 u (by omega) a1
   ·rw [ffk p,if_neg (fun h=>hd h.1)]
    exact e4 p
 ·have:k=m.h.Txns.length:=by omega
  subst this;refine dH (k0:=0) l.length (fun k s=>s=(m.edges++soL m.h k,(k:Int))) (Nat.zero_le _) (by simp [soL,upE]) ?_;rintro k s hk ⟨rfl⟩;have a6:w64 ((k:Int) + 1)=((k + 1:Nat):Int):=aZ (by omega);have hsl:=EJ (h:=m.h) (k:=k);unfold jD jC
  dsimp only
  rw [a6]
  refine az (fun h2 => ?_) (fun h2 => ?_)
  ·have a2:k < m.h.Txns.length:=by omega
   refine ah (by omega) ?_
   rw [e3 k (by omega) a2]
   have hsu:soL m.h (k + 1)=soL m.h k++soE m.h k:=uD
   rw [SN] at hsu
   refine az (fun h3 => ?_) (fun h3 => ?_)
   ·refine bK (Dw (by simp only [List.length_append]; omega)) (ag ⟨by omega,?_⟩)
    dsimp only
    rw [hsu,if_pos h3,List.append_assoc]
   ·refine ag ⟨by omega,?_⟩
    dsimp only
    rw [hsu,if_neg h3,List.append_nil]
  ·have:k=l.length:=by omega
   subst this;refine ax (ax (ag ?_))
   show aD.mk _ _ _=_
   rw [e1]
theorem Oh {m:aD} (hS:eY m.h) (hl:m.edges.length < 2 ^ 30):bQ m=some ⟨m.h,m.asks,m.edges++rtL m.h m.h.Txns.length⟩:=by
 have a5:=hS.len;refine eQ.1 ?_;unfold bQ;refine dH (k0:=0) m.h.Txns.length (fun k s=>s=(m.edges++rtL m.h k,(k:Int))) (Nat.zero_le _) (by simp [rtL,upE]) ?_;rintro k s hk rfl;have hw:w64 ((k:Int) + 1)=((k + 1:Nat):Int):=aZ (by omega);have hrl:=IM hS hk;unfold qE
 dsimp only
 refine az (fun h1 => ?_) (fun h1 => ?_)
 ·have a2:k < m.h.Txns.length:=by omega
  refine ah (by omega) ?_;refine dH (k0:=0) m.h.Txns.length (fun q s=>s=(m.edges++rtL m.h k++rtE m.h k q,(q:Int))) (Nat.zero_le _) (by simp [rtE]) ?_;rintro q s hq rfl;have a4:w64 ((q:Int) + 1)=((q + 1:Nat):Int):=aZ (by omega);have hel:=MV (h:=m.h) (a:=k) (k:=q);unfold qD jK mF
  dsimp only
  rw [hw,a4]
  refine az (fun h2 => ?_) (fun h2 => ?_)
  ·have a1:q < m.h.Txns.length:=by omega
   refine ah (by omega) (bK (EK (m:=⟨m.h,m.asks,_⟩) a2) ?_);have no:¬ (don m.h k∧don m.h q∧(idx m.h.Txns (k:Int)).To < (idx m.h.Txns (q:Int)).From)→Tri (bif false then (fM (⟨m.h,m.asks,m.edges++rtL m.h k++rtE m.h k q⟩:aD) (k:Int) (q:Int) 2 (-1)).bind fun a3=>some (.inl (a3.edges,((q + 1:Nat):Int))) else some (.inl (m.edges++rtL m.h k++rtE m.h k q,((q + 1:Nat):Int))))
     (Upm m.h.Txns.length q (fun q s=>s=(m.edges++rtL m.h k++rtE m.h k q,(q:Int))) (Upm m.h.Txns.length k (fun k s=>s=(m.edges++rtL m.h k,(k:Int))) (fun b:aD=>b=⟨m.h,m.asks,m.edges++rtL m.h m.h.Txns.length⟩))):=fun hn=>by
    rw [cond_false]
    refine ag ⟨a1,?_⟩
    dsimp only
    rw [JX,IL,if_neg hn,List.append_nil]
   by_cases d1:don m.h k
   rotate_left
   ·rw [decide_eq_false d1,cond_false]; exact no (fun h=>d1 h.1)
   rw [decide_eq_true d1,cond_true]
   refine bK (EK (m:=⟨m.h,m.asks,_⟩) a1) ?_
   by_cases d2:don m.h q
   rotate_left
   ·rw [decide_eq_false d2,cond_false]; exact no (fun h=>d2 h.2.1)
   rw [decide_eq_true d2,cond_true]
   by_cases d3:(idx m.h.Txns (k:Int)).To < (idx m.h.Txns (q:Int)).From
   rotate_left
   ·rw [decide_eq_false d3]; exact no (fun h=>d3 h.2.2)
   rw [decide_eq_true d3,cond_true]
   refine bK (Dw (by simp only [List.length_append]; omega)) (ag ⟨a1,?_⟩)
   dsimp only
   rw [JX,IL,if_pos ⟨d1,d2,d3⟩,List.append_assoc]
  ·have:q=m.h.Txns.length:=by omega
   subst this;refine ax (ag ⟨a2,?_⟩);have e:rtL m.h (k + 1)=rtL m.h k++rtE m.h k m.h.Txns.length:=uD
   dsimp only
   rw [e,List.append_assoc]
 ·have:k=m.h.Txns.length:=by omega
  subst this;exact ax (ag rfl)
end
end Go.Proofs.YtfpeabnehpclnaaGreatT
namespace Go.Proofs.YtfpeabnehpclnaaGreatT
open Go Go.Proofs Go.Proofs.YtfpeabnehpclnaaGreatE
set_option linter.unusedVariables false
set_option linter.unusedSimpArgs false
section
variable {h:History}
theorem RF (hS:eY h) (hc:aC h=some 0) {a:Ask} {t p:Nat} (hk:Eb h a t p):zP h a (typ (opAt h (t:Int) (p:Int)).Kind) (qZ h a):=by
 obtain ⟨s,h1,_,h3⟩:=Ck hS hc hk;have e:qZ h a=s:=by unfold qZ; rw [h1]; rfl
 rw [e]
 exact h3
theorem SQ (hS:eY h) (hc:aC h=some 0) {a:Ask} {t p:Nat} (hk:Eb h a t p):(pts h a).1.length≤32∧IK h a (typ (opAt h (t:Int) (p:Int)).Kind) (pts h a):=by
 obtain ⟨r,h1,h2,h3⟩:=LD hS hc hk;have e:pts h a=r:=by unfold pts; rw [h1]; rfl
 rw [e]
 exact ⟨h2,h3⟩
theorem Qa (hS:eY h) (hc:aC h=some 0) {a:Ask} (ha:a ∈ bu h h.Txns.length) {x:Int} (hx:x ∈ qZ h a):x = -1∨x ∈ oth h a:=by
 classical
 obtain ⟨t,p,hk⟩:=Dm hS ha;have h2:=RF hS hc hk;generalize qZ h a=s at h2 hx;unfold zP at h2
 split at h2
 ·rw [h2] at hx
  rcases List.mem_append.1 hx with hx | hx
  ·split at hx
   ·exact .inl (by simpa using hx)
   ·simp at hx
  ·right
   unfold picks at hx
   simp only [List.mem_map,List.mem_filter,List.mem_range,decide_eq_true_eq] at hx
   obtain ⟨j,⟨h1,_⟩,rfl⟩:=hx;exact fA h1
 ·split at h2
  ·rw [h2] at hx
   exact .inl (by simpa using hx)
  ·rename_i hb
   split at h2
   ·rw [h2] at hx
    exact .inr (List.mem_filter.1 hx).1
   ·split at h2
    ·obtain ⟨r,hr,rfl⟩:=h2;rcases hr with ⟨q1,q2,q3,q4⟩ | ⟨rfl,_⟩
     ·rw [if_pos q1,List.mem_singleton] at hx
      right
      rw [hx]
      refine q2 _ ?_;have hne:0 < r.1.length:=by
       rcases Nat.eq_zero_or_pos r.1.length with h0 | h0
       ·rw [List.length_eq_zero_iff.1 h0] at q4
        rw [q4] at hb
        exact absurd rfl hb
       ·exact h0
      unfold zb;exact fA (by omega)
     ·simp at hx
    ·obtain ⟨r,hr,rfl⟩:=h2;rcases hr with ⟨rfl,_⟩ | ⟨rfl,_⟩
     ·exact .inr (List.mem_filter.1 hx).1
     ·simp at hx
theorem FD (hS:eY h) (hc:aC h=some 0) {a:Ask} (ha:a ∈ bu h h.Txns.length):(∀ x ∈ (pts h a).1,x ∈ oth h a)∧(pts h a).1.Nodup∧((pts h a).2=true→kd h a=2∨kd h a=3)∧(pts h a).1.length≤32:=by
 obtain ⟨t,p,hk⟩:=Dm hS ha;obtain ⟨hl,p2,p3,p4⟩:=SQ hS hc hk
 rw [SB hk]
 generalize typ (opAt h (t:Int) (p:Int)).Kind=ty at p2 p3 p4;generalize pts h a=r at p2 p3 p4 hl
 by_cases e2:ty=2
 ·rcases p2 e2 with ⟨_,q1,q2,_⟩ | ⟨rfl,_⟩
  ·exact ⟨q1,q2,fun _ => .inl e2,hl⟩
  ·exact ⟨fun x hx=>(nomatch hx),List.nodup_nil,fun _ => .inl e2,hl⟩
 ·by_cases e3:ty=3
  ·rcases p3 e3 with ⟨rfl,_⟩ | ⟨rfl,_⟩
   ·exact ⟨fun x hx=>(List.mem_filter.1 hx).1,vk.filter _,fun _ => .inr e3,hl⟩
   ·exact ⟨fun x hx=>(nomatch hx),List.nodup_nil,fun _ => .inr e3,hl⟩
  ·have:=p4 e2 e3;subst this;exact ⟨fun x hx=>(nomatch hx),List.nodup_nil,fun h=>(nomatch h),hl⟩
open Classical
def made (h:History) (a:Ask):Prop:=(pts h a).2=true∧0 < a.Base.length
noncomputable def dwr (h:History) (a:Ask):List Int:=(iq h a.Key h.Txns.length).filter (fun t=>decide (¬ (t=a.Txn∨(idx h.Txns t).Status≠1)))
theorem IP {a:Ask} {t:Int}:t ∈ dwr h a↔(0≤t∧t < (h.Txns.length:Int)∧0 < (gJ h t a.Key).length)∧t≠a.Txn∧(idx h.Txns t).Status=1:=by
 unfold dwr
 rw [List.mem_filter,wX,decide_eq_true_eq]
 constructor
 ·rintro ⟨⟨h1,h2,h3,h4⟩,h5⟩;exact ⟨⟨h1,h2,h4⟩,fun h=>h5 (.inl h),Classical.byContradiction fun h=>h5 (.inr h)⟩
 ·rintro ⟨⟨h1,h2,h4⟩,h5,h6⟩;exact ⟨⟨h1,h2,by rw [h6]; decide,h4⟩,fun h=>h.elim h5 (fun h=>h h6)⟩
theorem Cm {a:Ask}:(dwr h a).length≤h.Txns.length:=Nat.le_trans (List.length_filter_le _ _) qh
def ovr (h:History) (a:Ask) (t:Int):Prop:=qZ h a=[-1]∨(made h a∧t ∉ (pts h a).1) ∨
 (¬ made h a∧kd h a=1∧∃ p,qZ h a=[p]∧p≠t∧∃ b ∈ bu h h.Txns.length,b.Txn=t∧b.Key=a.Key∧qZ h b=[p])
noncomputable def wrE (h:History) (a:Ask):List Edge:=match qZ h a with
 | [p]=>if p = -1 then [] else [⟨p,a.Txn,4,a.Key⟩]
 | _=>[]
noncomputable def wwT (h:History) (a:Ask) (p t:Int):List Edge:=if t ∈ (pts h a).1 then [] else [⟨p,t,8,a.Key⟩]
noncomputable def zR (h:History) (a:Ask) (i:Nat):List Edge:=if kd h a=2∧i + 1 < (pts h a).1.length then [⟨idx (pts h a).1 (i:Int),idx (pts h a).1 ((i + 1:Nat):Int),8,a.Key⟩]
 else upE (fun k=>wwT h a (idx (pts h a).1 (i:Int)) (idx (dwr h a) (k:Int))) (dwr h a).length
noncomputable def wwE (h:History) (a:Ask):List Edge:=if made h a then upE (zR h a) (pts h a).1.length else []
noncomputable def rwT (h:History) (a:Ask) (t:Int):List Edge:=if ovr h a t then [⟨a.Txn,t,16,a.Key⟩] else []
noncomputable def rwE (h:History) (a:Ask):List Edge:=upE (fun k=>rwT h a (idx (dwr h a) (k:Int))) (dwr h a).length
noncomputable def FE (h:History) (a:Ask):List Edge:=wrE h a++wwE h a++rwE h a
theorem MW {a:Ask}:(wrE h a).length≤1:=by
 unfold wrE
 split
 ·split <;> simp
 ·simp
theorem MX {a:Ask} {p t:Int}:(wwT h a p t).length≤1:=by unfold wwT; split <;> simp
theorem RG {a:Ask} {t:Int}:(rwT h a t).length≤1:=by unfold rwT; split <;> simp
theorem Qb (hS:eY h) {a:Ask} {i:Nat}:(zR h a i).length≤32:=by
 unfold zR
 split
 ·simp
 ·have:=vv (f:=fun k=>wwT h a (idx (pts h a).1 (i:Int)) (idx (dwr h a) (k:Int))) (m:=1) (fun k=>MX) (dwr h a).length;have h1:=Cm (h:=h) (a:=a);have h2:=hS.len
  omega
theorem IQ {a:Ask} {k:Nat}:(upE (fun k=>rwT h a (idx (dwr h a) (k:Int))) k).length≤k:=by
 have:=vv (f:=fun k=>rwT h a (idx (dwr h a) (k:Int))) (m:=1) (fun k=>RG) k
 omega
theorem MZ (hS:eY h) {a:Ask} {k:Nat}:(upE (zR h a) k).length≤k * 32:=vv (fun k=>Qb hS) k
theorem Qc (hS:eY h) (hc:aC h=some 0) {a:Ask} (ha:a ∈ bu h h.Txns.length):(FE h a).length≤2000:=by
 obtain ⟨_,_,_,h1⟩:=FD hS hc ha;have h2:=MZ hS (a:=a) (k:=(pts h a).1.length);have h3:=MW (h:=h) (a:=a);have h4:=IQ (h:=h) (a:=a) (k:=(dwr h a).length);have h5:=Cm (h:=h) (a:=a);have h6:=hS.len;unfold FE rwE wwE
 simp only [List.length_append]
 split
 ·omega
 ·simp only [List.length_nil]; omega
noncomputable def qO (h:History) (a:Ask):aI:=⟨a,qZ h a,(pts h a).1,decide (made h a),kd h a⟩
theorem Na {x:aI} {p:Int}:kE x p=some (decide (x.sources=[p])):=by
 refine Au.1 ?_;unfold kE;refine az (fun h1 => ?_) (fun h1=>ag ⟨fun h=>(nomatch h),fun h=>absurd (by rw [h]; rfl) h1⟩);refine ah (by omega) (ag ?_);have hl:x.sources.length=1:=by omega
 obtain ⟨y,hy⟩:=List.length_eq_one_iff.1 hl
 rw [hy]
 show ((y == p)=true)↔_
 simp
variable {m:aD}
theorem Nb {x:aI} {t:Int} (ht:0≤t∧t < (m.h.Txns.length:Int)):jG t x m=some (decide (t=x.Ask.Txn∨(idx m.h.Txns t).Status≠1)):=by
 refine Au.1 ?_;unfold jG;refine az (fun h1=>ag ⟨fun _ => .inl h1,fun _=>rfl⟩) (fun h1 => ?_);obtain ⟨n,rfl⟩:∃ n:Nat,t=(n:Int):=⟨t.toNat,by omega⟩
 refine bK (EK (by omega)) (ag ?_)
 simp [h1]
theorem RH {l:List Int} {x:aI} (hl:l.length < 2 ^ 60) (hr:∀ t ∈ l,0≤t∧t < (m.h.Txns.length:Int)):Tri (bI l x m) (fun r=>(r = -1∧∀ t ∈ l,¬ (t=x.Ask.Txn∨(idx m.h.Txns t).Status≠1)) ∨
  ∃ k:Nat,r=(k:Int)∧k < l.length∧(idx l (k:Int)=x.Ask.Txn∨(idx m.h.Txns (idx l (k:Int))).Status≠1)∧∀ j:Nat,j < k → ¬ (idx l (j:Int)=x.Ask.Txn∨(idx m.h.Txns (idx l (j:Int))).Status≠1)):=by
 unfold bI;refine dH (k0:=0) l.length (fun k s=>s=(k:Int)∧∀ j:Nat,j < k → ¬ (idx l (j:Int)=x.Ask.Txn∨(idx m.h.Txns (idx l (j:Int))).Status≠1)) (Nat.zero_le _) ⟨rfl,fun j h=>absurd h (Nat.not_lt_zero _)⟩ ?_;rintro k s hk ⟨rfl,hno⟩;have hw:w64 ((k:Int) + 1)=((k + 1:Nat):Int):=aZ (by omega);unfold fQ
 dsimp only
 rw [hw]
 refine az (fun h1 => ?_) (fun h1 => ?_)
 ·have a1:k < l.length:=by omega
  refine ah (by omega) (bK (Nb (hr _ (fA a1))) ?_)
  by_cases h2:idx l (k:Int)=x.Ask.Txn∨(idx m.h.Txns (idx l (k:Int))).Status≠1
  ·rw [decide_eq_true h2,cond_true]
   exact ax (ag (.inr ⟨k,rfl,a1,h2,hno⟩))
  ·rw [decide_eq_false h2,cond_false]
   refine ag ⟨a1,rfl,fun j hj => ?_⟩;rcases Nat.lt_or_ge j k with h3 | h3
   ·exact hno j h3
   ·have:j=k:=by omega
    subst this;exact h2
 ·have:k=l.length:=by omega
  subst this;refine ax (ag (.inl ⟨rfl,fun t ht => ?_⟩));obtain ⟨j,hj,e⟩:=wY ht
  rw [← e]
  exact hno j hj
theorem Oi {l:List Int} {x:aI} (hl:l.length < 2 ^ 60) (hr:∀ t ∈ l,0≤t∧t < (m.h.Txns.length:Int)):bE l x m=some (l.filter fun t=>decide (¬ (t=x.Ask.Txn∨(idx m.h.Txns t).Status≠1))):=by
 refine eQ.1 ?_;unfold bE;refine dN (RH hl hr) (fun r a3 => ?_);rcases a3 with ⟨rfl,h1⟩ | ⟨k,rfl,hk,h1,h2⟩
 ·refine az (fun _=>ag ?_) (fun h=>absurd rfl h);exact (List.filter_eq_self.2 fun t ht=>decide_eq_true (h1 t ht)).symm
 ·refine az (fun h=>by omega) (fun _ => ?_);refine ah (by omega) ?_;have hw:w64 ((k:Int) + 1)=((k + 1:Nat):Int):=aZ (by omega)
  rw [hw]
  have e0:l.take (k:Int).toNat=(l.take (k + 1)).filter fun t=>decide (¬ (t=x.Ask.Txn∨(idx m.h.Txns t).Status≠1)):=by
   rw [nu hk,List.filter_append]
   have e1:(l.take k).filter (fun t=>decide (¬ (t=x.Ask.Txn∨(idx m.h.Txns t).Status≠1)))=l.take k:=List.filter_eq_self.2 fun t ht=>by
    obtain ⟨j,hj,_,e⟩:=PW.1 ht
    rw [← e]
    exact decide_eq_true (h2 j hj)
   have e2:[idx l (k:Int)].filter (fun t=>decide (¬ (t=x.Ask.Txn∨(idx m.h.Txns t).Status≠1)))=[]:=by
    rw [List.filter_eq_nil_iff]
    intro t ht
    rw [List.mem_singleton.1 ht,decide_eq_true_eq]
    exact fun h=>h h1
   rw [e1,e2,List.append_nil]
   congr 1
  rw [e0]
  refine dH (k0:=k + 1) l.length (fun q s=>s=((l.take q).filter (fun t=>decide (¬ (t=x.Ask.Txn∨(idx m.h.Txns t).Status≠1))),(q:Int))) (by omega) rfl ?_;rintro q s hq rfl;have a2:w64 ((q:Int) + 1)=((q + 1:Nat):Int):=aZ (by omega);unfold fO
  dsimp only
  rw [a2]
  refine az (fun h3 => ?_) (fun h3 => ?_)
  ·have a1:q < l.length:=by omega
   refine ah (by omega) (bK (Nb (hr _ (fA a1))) ?_)
   by_cases h4:idx l (q:Int)=x.Ask.Txn∨(idx m.h.Txns (idx l (q:Int))).Status≠1
   ·rw [decide_eq_true h4]
    refine ag ⟨a1,?_⟩
    dsimp only
    rw [nu a1,List.filter_append,List.filter_cons_of_neg (by rw [decide_eq_true_eq]; exact fun h=>h h4)]
    simp
   ·rw [decide_eq_false h4]
    refine ag ⟨a1,?_⟩
    dsimp only
    rw [nu a1,List.filter_append,List.filter_cons_of_pos (by rw [decide_eq_true_eq]; exact h4)]
    simp
  ·have:q=l.length:=by omega
   subst this;refine ax (ag ?_)
   show List.filter _ _=_
   rw [List.take_length]
theorem Oj {l:List aI} {x:aI} {t:Int} (hl:l.length < 2 ^ 60) (hx:0 < x.sources.length):dD l t x=some (decide (∃ b ∈ l,b.Ask.Txn=t∧b.Ask.Key=x.Ask.Key∧b.sources=[idx x.sources 0])):=by
 refine Au.1 ?_;have h1:Tri (bn l t x) (fun r=>0≤r↔∃ b ∈ l,b.Ask.Txn=t∧b.Ask.Key=x.Ask.Key∧b.sources=[idx x.sources 0]):=by
  unfold bn;refine dH (k0:=0) l.length (fun k s=>s=(k:Int)∧∀ j:Nat,j < k → ¬ ((idx l (j:Int)).Ask.Txn=t∧(idx l (j:Int)).Ask.Key=x.Ask.Key∧(idx l (j:Int)).sources=[idx x.sources 0])) (Nat.zero_le _) ⟨rfl,fun j h=>absurd h (Nat.not_lt_zero _)⟩ ?_;rintro k s hk ⟨rfl,hno⟩;have hw:w64 ((k:Int) + 1)=((k + 1:Nat):Int):=aZ (by omega);unfold fB
  dsimp only
  rw [hw]
  refine az (fun h1 => ?_) (fun h1 => ?_)
  ·have a1:k < l.length:=by omega
   have hm:idx l (k:Int) ∈ l:=by rw [dm (n:=k) rfl a1]; exact List.getElem_mem _
   have o1:kN (idx l (k:Int)) t x=some (decide ((idx l (k:Int)).Ask.Txn=t∧(idx l (k:Int)).Ask.Key=x.Ask.Key∧(idx l (k:Int)).sources=[idx x.sources 0])):=by
    refine Au.1 ?_;unfold kN;refine az (fun q1 => ?_) (fun q1=>ag ⟨fun h=>(nomatch h),fun h=>absurd h.1 q1⟩);refine az (fun q2 => ?_) (fun q2=>ag ⟨fun h=>(nomatch h),fun h=>absurd h.2.1 q2⟩);refine ah (by omega) (bK Na (ag ?_))
    simp [q1,q2]
   refine ah (by omega) (bK o1 ?_)
   by_cases h2:(idx l (k:Int)).Ask.Txn=t∧(idx l (k:Int)).Ask.Key=x.Ask.Key∧(idx l (k:Int)).sources=[idx x.sources 0]
   ·rw [decide_eq_true h2,cond_true]
    exact ax (ag ⟨fun _=>⟨_,hm,h2⟩,fun _=>by omega⟩)
   ·rw [decide_eq_false h2,cond_false]
    refine ag ⟨a1,rfl,fun j hj => ?_⟩;rcases Nat.lt_or_ge j k with h3 | h3
    ·exact hno j h3
    ·have:j=k:=by omega
     subst this;exact h2
  ·have:k=l.length:=by omega
   subst this;refine ax (ag ⟨fun h=>absurd h (by decide),?_⟩);rintro ⟨b,hb,h2⟩;obtain ⟨j,hj,e⟩:=List.getElem_of_mem hb
   rw [← e,← dm (n:=j) rfl hj] at h2
   exact absurd h2 (hno j hj)
 unfold dD;refine dN h1 (fun r hr=>ag ?_)
 rw [decide_eq_true_iff]
 exact hr
theorem Ol (hS:eY h) (hc:aC h=some 0) {l:List Edge} {a:Ask} (ha:a ∈ bu h h.Txns.length) {t:Int}:eT ⟨h,(bu h h.Txns.length).map (qO h),l⟩ (qO h a) t=some (decide (ovr h a t)):=by
 refine Au.1 ?_;obtain ⟨i1,_,_⟩:=vH hS h.Txns.length (Nat.le_refl _);obtain ⟨_,_,_,hpl⟩:=FD hS hc ha;unfold eT;refine bK Na ?_
 by_cases h1:qZ h a=[-1]
 ·have:(qO h a).sources=[-1]:=h1
  rw [decide_eq_true this,cond_true]
  exact ag ⟨fun _ => .inl h1,fun _=>rfl⟩
 ·have:¬ (qO h a).sources=[-1]:=h1
  rw [decide_eq_false this,cond_false]
  unfold qO
  dsimp only
  by_cases h2:made h a
  ·rw [decide_eq_true h2,cond_true]
   refine bK (Dp (by omega)) (ag ?_);unfold ovr
   simp [h1,h2]
  ·rw [decide_eq_false h2,cond_false]
   have no:¬ (kd h a=1∧∃ p,qZ h a=[p]∧p≠t)→Tri (gX ⟨h,(bu h h.Txns.length).map (qO h),l⟩ ⟨a,qZ h a,(pts h a).1,false,kd h a⟩ t true) (fun b=>b=true↔ovr h a t):=fun hn=>by
    unfold gX
    rw [cond_true]
    refine ag ⟨fun h=>(nomatch h),?_⟩;rintro (h | h | h)
    ·exact absurd h h1
    ·exact absurd h.1 h2
    ·obtain ⟨_,q1,p,q2,q3,_⟩:=h;exact absurd ⟨q1,p,q2,q3⟩ hn
   refine az (fun h3=>no (fun h=>h3 h.1)) (fun h3 => ?_);refine az (fun h4=>no ?_) (fun h4 => ?_)
   ·rintro ⟨_,p,q,_⟩
    rw [q] at h4
    exact h4 rfl
   have h4:(qZ h a).length=1:=Classical.byContradiction fun h=>h4 (by omega);have h3:kd h a=1:=Classical.byContradiction h3;obtain ⟨p,hp⟩:=List.length_eq_one_iff.1 h4;refine ah (by omega) ?_;have a2:idx (qZ h a) 0=p:=by rw [hp]; rfl
   rw [a2]
   by_cases h5:p=t
   ·rw [beq_iff_eq.2 h5]
    refine no ?_;rintro ⟨_,q,e,hn⟩
    rw [hp] at e
    cases e;exact hn h5
   ·rw [beq_eq_false_iff_ne.2 h5]
    unfold gX
    rw [cond_false]
    have a3:=hS.len;refine bK (Oj (by rw [List.length_map]; omega) (by show 0 < (qZ h a).length; omega)) (ag ?_)
    rw [decide_eq_true_iff]
    dsimp only
    rw [a2]
    unfold ovr
    constructor
    ·rintro ⟨b,hb,q1,q2,q3⟩;obtain ⟨c,a1,rfl⟩:=List.mem_map.1 hb;exact .inr (.inr ⟨h2,h3,p,hp,h5,c,a1,q1,q2,q3⟩)
    ·rintro (h | h | h)
     ·exact absurd h h1
     ·exact absurd h.1 h2
     ·obtain ⟨_,_,q,e,_,c,a1,q1,q2,q3⟩:=h
      rw [hp] at e
      cases e;exact ⟨_,List.mem_map.2 ⟨c,a1,rfl⟩,q1,q2,q3⟩
end
end Go.Proofs.YtfpeabnehpclnaaGreatT
namespace Go.Proofs.YtfpeabnehpclnaaGreatT
open Go Go.Proofs Go.Proofs.YtfpeabnehpclnaaGreatE
set_option linter.unusedVariables false
set_option linter.unusedSimpArgs false
open Classical
section
variable {h:History}
noncomputable abbrev wy (h:History):List aI:=(bu h h.Txns.length).map (qO h)
theorem Nc (hS:eY h) (hc:aC h=some 0) {a:Ask} (ha:a ∈ bu h h.Txns.length) {l0 l:List Edge} (hl:l.length < 2 ^ 30):jf ⟨h,wy h,l0⟩ (qO h a) (dwr h a) l=some ⟨h,wy h,l++rwE h a⟩:=by
 have a2:=hS.len;have hd:=Cm (h:=h) (a:=a);refine eQ.1 ?_;unfold jf;refine dH (k0:=0) (dwr h a).length (fun k s=>s=(l++upE (fun k=>rwT h a (idx (dwr h a) (k:Int))) k,(k:Int))) (Nat.zero_le _) (by simp [upE]) ?_;rintro k s hk rfl;have hw:w64 ((k:Int) + 1)=((k + 1:Nat):Int):=aZ (by omega);have hu:=IQ (h:=h) (a:=a) (k:=k);have hsu:upE (fun k=>rwT h a (idx (dwr h a) (k:Int))) (k + 1)=upE (fun k=>rwT h a (idx (dwr h a) (k:Int))) k++rwT h a (idx (dwr h a) (k:Int)):=uD;unfold rG nP
 dsimp only
 rw [hw]
 refine az (fun h1 => ?_) (fun h1 => ?_)
 ·have a1:k < (dwr h a).length:=by omega
  refine ah (by omega) (bK (Ol hS hc ha) ?_)
  by_cases h2:ovr h a (idx (dwr h a) (k:Int))
  ·rw [decide_eq_true h2,cond_true]
   refine bK (Dw (by simp only [List.length_append]; omega)) (ag ⟨a1,?_⟩)
   dsimp only
   rw [hsu,rwT,if_pos h2,List.append_assoc]
   rfl
  ·rw [decide_eq_false h2,cond_false]
   refine ag ⟨a1,?_⟩
   dsimp only
   rw [hsu,rwT,if_neg h2,List.append_nil]
 ·have:k=(dwr h a).length:=by omega
  subst this;exact ax (ag rfl)
theorem Nf (hS:eY h) (hc:aC h=some 0) {a:Ask} (ha:a ∈ bu h h.Txns.length) {l0 l:List Edge} (hl:l.length < 2 ^ 29):iB ⟨h,wy h,l0⟩ (qO h a) l=some ⟨h,wy h,l++wwE h a++rwE h a⟩:=by
 have a6:=hS.len;have hd:=Cm (h:=h) (a:=a);obtain ⟨_,_,_,hpl⟩:=FD hS hc ha;refine eQ.1 ?_;unfold iB;refine bK (Ch hS hc) ?_;have hwl:=qh (h:=h) (key:=a.Key) (k:=h.Txns.length);refine bK (Oi (m:=⟨h,wy h,l⟩) (x:=qO h a) (show (iq h a.Key h.Txns.length).length < 2 ^ 60 by omega) (fun t ht=>by have:=wX.1 ht; exact ⟨this.1,this.2.1⟩)) ?_
 show Tri (bif (qO h a).made then iter (nT ⟨h,wy h,l0⟩ (qO h a) (dwr h a)) (l,0) else jf ⟨h,wy h,l0⟩ (qO h a) (dwr h a) l) _
 by_cases hm:made h a
 ·rw [show (qO h a).made=true from decide_eq_true hm,cond_true]
  refine dH (k0:=0) (pts h a).1.length (fun k s=>s=(l++upE (zR h a) k,(k:Int))) (Nat.zero_le _) (by simp [upE]) ?_;rintro k s hk rfl;have hw:w64 ((k:Int) + 1)=((k + 1:Nat):Int):=aZ (by omega);have hu:=MZ hS (a:=a) (k:=k);have hsu:upE (zR h a) (k + 1)=upE (zR h a) k++zR h a k:=uD;unfold nT nS kP
  dsimp only
  rw [hw]
  show Tri (bif decide ((k:Int) < ((pts h a).1.length:Int)) then must (0≤(k:Int)∧(k:Int) < ((pts h a).1.length:Int)) _ else _) _
  refine az (fun h1 => ?_) (fun h1 => ?_)
  ·have a2:k < (pts h a).1.length:=by omega
   refine ah (by omega) ?_;have rest:¬ (kd h a=2∧k + 1 < (pts h a).1.length)→Tri (iter (nR ⟨h,wy h,l0⟩ (qO h a) (dwr h a) (k:Int)) (l++upE (zR h a) k,0)) (Upm (pts h a).1.length k (fun k s=>s=(l++upE (zR h a) k,(k:Int))) (fun b:aD=>b=⟨h,wy h,l++wwE h a++rwE h a⟩)):=fun hn=>by
    refine dH (k0:=0) (dwr h a).length (fun q s=>s=(l++upE (zR h a) k++upE (fun q=>wwT h a (idx (pts h a).1 (k:Int)) (idx (dwr h a) (q:Int))) q,(q:Int))) (Nat.zero_le _) (by simp [upE]) ?_;rintro q s hq rfl;have a4:w64 ((q:Int) + 1)=((q + 1:Nat):Int):=aZ (by omega);have a5:=vv (f:=fun q=>wwT h a (idx (pts h a).1 (k:Int)) (idx (dwr h a) (q:Int))) (m:=1) (fun q=>MX) q;have a3:upE (fun q=>wwT h a (idx (pts h a).1 (k:Int)) (idx (dwr h a) (q:Int))) (q + 1)=upE (fun q=>wwT h a (idx (pts h a).1 (k:Int)) (idx (dwr h a) (q:Int))) q++wwT h a (idx (pts h a).1 (k:Int)) (idx (dwr h a) (q:Int)):=uD;unfold nR nQ kP
    dsimp only
    rw [hw,a4]
    refine az (fun h2 => ?_) (fun h2 => ?_)
    ·have a1:q < (dwr h a).length:=by omega
     refine ah (by omega) (bK (Dp (l:=(pts h a).1) (by omega)) ?_)
     by_cases h3:idx (dwr h a) (q:Int) ∈ (pts h a).1
     ·rw [decide_eq_true h3,Bool.not_true,cond_false]
      refine ag ⟨a1,?_⟩
      dsimp only
      rw [a3,wwT,if_pos h3,List.append_nil]
     ·rw [decide_eq_false h3,Bool.not_false,cond_true]
      refine bK (Dw (by simp only [List.length_append]; omega)) (ag ⟨a1,?_⟩)
      dsimp only
      rw [a3,wwT,if_neg h3,List.append_assoc]
      rfl
    ·have:q=(dwr h a).length:=by omega
     subst this;refine ax (ag ⟨a2,?_⟩)
     dsimp only
     rw [hsu,zR,if_neg hn,List.append_assoc]
   have kk:(qO h a).kind=kd h a:=rfl
   by_cases h2:kd h a=2
   ·rw [kk,beq_iff_eq.2 h2,cond_true]
    show Tri (bif decide (((k + 1:Nat):Int) < ((pts h a).1.length:Int)) then must (0≤((k + 1:Nat):Int)∧((k + 1:Nat):Int) < ((pts h a).1.length:Int)) _ else _) _
    refine az (fun h3 => ?_) (fun h3=>rest (fun h=>by omega));refine ah (by omega) (bK (Dw (by simp only [List.length_append]; omega)) (ag ⟨a2,?_⟩))
    dsimp only
    rw [hsu,zR,if_pos ⟨h2,by omega⟩,List.append_assoc]
    rfl
   ·rw [kk,beq_eq_false_iff_ne.2 h2,cond_false,cond_false]
    exact rest (fun h=>h2 h.1)
  ·have:k=(pts h a).1.length:=by omega
   subst this;refine ax ?_
   rw [Nc hS hc ha (by rw [List.length_append]; omega)]
   refine ag ?_
   show aD.mk _ _ _=_
   rw [wwE,if_pos hm]
 ·rw [show (qO h a).made=false from decide_eq_false hm,cond_false,Nc hS hc ha (by omega)]
  refine ag ?_
  rw [wwE,if_neg hm,List.append_nil]
theorem Qd (hS:eY h) (hc:aC h=some 0) {a:Ask} (ha:a ∈ bu h h.Txns.length) {l:List Edge} (hl:l.length < 2 ^ 28):ay ⟨h,wy h,l⟩ (qO h a)=some ⟨h,wy h,l++FE h a⟩:=by
 refine eQ.1 ?_;unfold ay FE;have none_:wrE h a=[]→Tri (gy ⟨h,wy h,l⟩ (qO h a) false) (fun b=>b=⟨h,wy h,l++(wrE h a++wwE h a++rwE h a)⟩):=fun e=>by
  unfold gy
  rw [cond_false]
  show Tri (iB ⟨h,wy h,l⟩ (qO h a) l) _
  rw [Nf hS hc ha (by omega),e]
  exact ag (by rw [List.nil_append,List.append_assoc])
 show Tri (bif (((qZ h a).length:Int) == 1) then must (0≤(0:Int)∧(0:Int) < ((qZ h a).length:Int)) (gy ⟨h,wy h,l⟩ (qO h a) (decide (idx (qZ h a) (0:Int) ≥ 0))) else gy ⟨h,wy h,l⟩ (qO h a) false) _
 refine az (fun h1 => ?_) (fun h1=>none_ ?_)
 ·refine ah (by omega) ?_;have a1:(qZ h a).length=1:=by omega
  obtain ⟨p,hp⟩:=List.length_eq_one_iff.1 a1;have e0:idx (qZ h a) 0=p:=by rw [hp]; rfl
  have hpo:=Qa hS hc ha (x:=p) (by rw [hp]; simp)
  rw [e0]
  by_cases h2:p = -1
  ·rw [decide_eq_false (by omega)]
   refine none_ ?_;unfold wrE
   rw [hp]
   exact if_pos h2
  ·have h3:0≤p:=((lC.1 (hpo.resolve_left h2)).1).1
   rw [decide_eq_true h3]
   have ew:wrE h a=[⟨p,a.Txn,4,a.Key⟩]:=by
    unfold wrE
    rw [hp]
    exact if_neg h2
   unfold gy
   rw [cond_true]
   show Tri (must (0≤(0:Int)∧(0:Int) < ((qZ h a).length:Int)) ((fM ⟨h,wy h,l⟩ (idx (qZ h a) (0:Int)) a.Txn 4 a.Key).bind _)) _
   refine ah (by omega) (bK (Dw (by show l.length < _; omega)) ?_)
   rw [e0]
   show Tri (iB ⟨h,wy h,l⟩ (qO h a) (l++([(⟨p,a.Txn,4,a.Key⟩:Edge)]:List Edge))) _
   rw [Nf hS hc ha (by rw [List.length_append,List.length_singleton]; omega),ew]
   exact ag (by simp only [List.append_assoc])
 ·unfold wrE
  split
  ·rename_i p hp
   rw [hp] at h1
   exact absurd rfl h1
  ·rfl
noncomputable def pW (h:History):List Edge:=soL h h.Txns.length++rtL h h.Txns.length++(bu h h.Txns.length).flatMap (FE h)
noncomputable def vw (h:History) (k:Nat):List Edge:=soL h h.Txns.length++rtL h h.Txns.length++((bu h h.Txns.length).take k).flatMap (FE h)
theorem Cn {k:Nat} (hk:k < (bu h h.Txns.length).length):vw h (k + 1)=vw h k++FE h (idx (bu h h.Txns.length) (k:Int)):=by
 unfold vw
 rw [nu hk,List.flatMap_append]
 simp
theorem Ed (hS:eY h) (hc:aC h=some 0):∀ k:Nat,k≤(bu h h.Txns.length).length→(vw h k).length≤32 + 1024 + 2000 * k
 | 0,_=>by
  have h1:=EJ (h:=h) (k:=h.Txns.length);have h2:=IM hS (Nat.le_refl _);have h3:=hS.len;unfold vw
  simp only [List.take_zero,List.flatMap_nil,List.append_nil,List.length_append]
  omega
 | k + 1,hk=>by
  rw [Cn (by omega),List.length_append]
  have h1:=Ed hS hc k (by omega);have h2:=Qc hS hc (xV (show k < (bu h h.Txns.length).length by omega))
  omega
theorem LG (hs:qM h) (hS:eY h) (hc:aC h=some 0) {a:Ask} (ha:a ∈ bu h h.Txns.length):rF h a=some ((pts h a).1,(pts h a).2,0):=by
 refine eQ.1 ?_;unfold rF;refine dN (FB hs hS hc (JW hS ha)) (fun r hr => ?_);rcases hr with ⟨rfl,_⟩ | ⟨_,h1⟩
 ·refine az (fun h1=>absurd rfl h1) (fun _ => ?_);exact bK (PU hS hc ha).1 (ag rfl)
 ·exact absurd ha h1
theorem LH (hs:qM h) (hS:eY h) (hc:aC h=some 0):dO h=some (⟨(h.Txns.length:Int),pW h⟩,0):=by
 have a3:=hS.len;have hA:jJ h=some (bu h h.Txns.length,0):=by unfold jJ; rw [Cg hs hS hc]; rfl
 obtain ⟨i1,_,_⟩:=vH hS h.Txns.length (Nat.le_refl _);refine eQ.1 ?_;unfold dO;refine bK hA ?_;refine az (fun h1=>absurd rfl h1) (fun _ => ?_);refine dH (k0:=0) (bu h h.Txns.length).length (fun k s=>s=(((bu h h.Txns.length).take k).map (qO h),(k:Int))) (Nat.zero_le _) (by simp) ?_;rintro k s hk rfl;have hw:w64 ((k:Int) + 1)=((k + 1:Nat):Int):=aZ (by omega);unfold xA xz uh xy
 dsimp only
 rw [hw]
 refine az (fun h1 => ?_) (fun h1 => ?_)
 ·have a1:k < (bu h h.Txns.length).length:=by omega
  have ha:=xV a1;refine ah (by omega) (bK (PY hS hc ha) (bK (II hs hS hc ha) (bK (LG hs hS hc ha) ?_)));have hlen:(((bu h h.Txns.length).take k).map (qO h)).length=k:=by rw [List.length_map,List.length_take]; omega
  have last:∀ b:Bool,b=decide (made h (idx (bu h h.Txns.length) (k:Int)))→Tri (must (((((bu h h.Txns.length).take k).map (qO h)).length + 1 + ((((bu h h.Txns.length).take k).map (qO h)).length + 1) / 4 + 192) * 112≤281474976710656∧(((bu h h.Txns.length).take k).map (qO h)).length + 1≤9223372036854775807)
    (some (.inl (((bu h h.Txns.length).take k).map (qO h)++([(⟨(idx (bu h h.Txns.length) (k:Int)),qZ h (idx (bu h h.Txns.length) (k:Int)),(pts h (idx (bu h h.Txns.length) (k:Int))).1,b,kd h (idx (bu h h.Txns.length) (k:Int))⟩:aI)]:List aI),((k + 1:Nat):Int))))) (Upm (bu h h.Txns.length).length k (fun k s=>s=(((bu h h.Txns.length).take k).map (qO h),(k:Int))) (fun b:cz×Int=>b=(⟨(h.Txns.length:Int),pW h⟩,0))):=by
   rintro b rfl;refine ah (by rw [hlen]; omega) (ag ⟨a1,?_⟩)
   dsimp only
   rw [nu a1,List.map_append]
   rfl
  dsimp only
  by_cases h2:(pts h (idx (bu h h.Txns.length) (k:Int))).2=true
  ·rw [h2,cond_true]
   refine last _ ?_;have e:made h (idx (bu h h.Txns.length) (k:Int))↔(((idx (bu h h.Txns.length) (k:Int)).Base.length:Int) > 0):=⟨fun h=>by have:=h.2; omega,fun h=>⟨h2,by omega⟩⟩
   exact (decide_eq_decide.2 e).symm
  ·rw [Bool.not_eq_true] at h2
   rw [h2,cond_false]
   exact last _ (decide_eq_false (fun h=>by have:=h.1; rw [h2] at this; cases this)).symm
 ·have:k=(bu h h.Txns.length).length:=by omega
  subst this
  rw [List.take_length]
  refine bK (GI (m:=⟨h,wy h,[]⟩) a3 (by simp)) ?_;have hsl:=EJ (h:=h) (k:=h.Txns.length);refine bK (Oh (m:=⟨h,wy h,[]++soL h h.Txns.length⟩) hS (by rw [List.nil_append]; show (soL h h.Txns.length).length < _; omega)) ?_
  suffices a4:Tri (iter (ui h (wy h)) ([]++soL h h.Txns.length++rtL h h.Txns.length,0)) (fun y:(List aI×Int) ⊕ (cz×Int)=>y = .inr (⟨(h.Txns.length:Int),pW h⟩,0)) from fV a4 (by rintro y rfl; rfl)
  refine dH (k0:=0) (bu h h.Txns.length).length (fun k s=>s=(vw h k,(k:Int))) (Nat.zero_le _) (by simp [vw]) ?_;rintro k s hk rfl;have a2:w64 ((k:Int) + 1)=((k + 1:Nat):Int):=aZ (by omega);have hel:=Ed hS hc k hk;have hal:(wy h).length=(bu h h.Txns.length).length:=List.length_map ..;unfold ui
  dsimp only
  rw [a2,hal]
  refine az (fun h2 => ?_) (fun h2 => ?_)
  ·have a1:k < (bu h h.Txns.length).length:=by omega
   have ha:=xV a1;have hi:idx (wy h) (k:Int)=qO h (idx (bu h h.Txns.length) (k:Int)):=by
    rw [dm (n:=k) rfl (by omega),dm (n:=k) rfl a1,List.getElem_map]
   refine ah (by omega) ?_
   rw [hi]
   refine bK (Qd hS hc ha (l:=vw h k) (by omega)) (ag ⟨a1,?_⟩)
   dsimp only
   rw [Cn a1]
  ·have:k=(bu h h.Txns.length).length:=by omega
   subst this;refine ax (ax (ag ?_))
   show Sum.inr _=_
   unfold vw pW
   rw [List.take_length]
end
end Go.Proofs.YtfpeabnehpclnaaGreatT
namespace Go.Proofs.YtfpeabnehpclnaaGreatT
open Go Go.Proofs Go.Proofs.YtfpeabnehpclnaaGreatE
set_option linter.unusedVariables false
set_option linter.unusedSimpArgs false
open Classical
section
variable {h:History}
noncomputable def lone (h:History) (a:Ask):Int×Bool:=match qZ h a with
 | [p]=>(p,true)
 | _=>(0,false)
end
end Go.Proofs.YtfpeabnehpclnaaGreatT
namespace Go.Proofs.YtfpeabnehpclnaaGreatT
open Go Go.Proofs Go.Proofs.YtfpeabnehpclnaaGreatE
set_option linter.unusedVariables false
set_option linter.unusedSimpArgs false
section
variable {h:History}
end
end Go.Proofs.YtfpeabnehpclnaaGreatT
namespace Go.Proofs.YtfpeabnehpclnaaGreatT
open Go Go.Proofs Go.Proofs.YtfpeabnehpclnaaGreatE
set_option linter.unusedVariables false
set_option linter.unusedSimpArgs false
set_option maxRecDepth 4096
def zS (N:Int) (e:Edge):Prop:=0≤e.From∧e.From < N∧0≤e.To∧e.To < N∧1≤e.Kind∧e.Kind≤16∧cK .i64 e.Kind (w64 (e.Kind - 1))=0
structure Good (g:cz):Prop where
 n0:0≤g.N
 n1:g.N≤64
 m:g.Edges.length≤262144
 e:∀ k:Nat,k < g.Edges.length→zS g.N (idx g.Edges k)
theorem ones (k:Int) (h1:1≤k) (h2:k≤16):Tri (lY (IntKind.wrap .u64 k)) (fun c=>(c != 1)=(cK .i64 k (w64 (k - 1)) != 0)):=by
 have h:k=1∨k=2∨k=3∨k=4∨k=5∨k=6∨k=7∨k=8∨k=9∨k=10∨k=11∨k=12∨k=13∨k=14∨k=15∨k=16:=by omega
 have key:∀ n:Fin 17,1≤n.1→(lY (IntKind.wrap .u64 (n.1:Int))).map (fun c=>(c != 1))=some (cK .i64 (n.1:Int) (w64 ((n.1:Int) - 1)) != 0):=by decide +kernel
 obtain ⟨n,rfl⟩:∃ n:Nat,k=n:=⟨k.toNat,by omega⟩
 have:=key ⟨n,by omega⟩ (by simp; omega)
 simp only at this
 cases hb:lY (IntKind.wrap .u64 (n:Int)) with
 | none=>rw [hb] at this; cases this
 | some c=>rw [hb] at this; exact ⟨c,rfl,Option.some.inj this⟩
theorem Ni (x:Int) (g:cz):nk x g=some (decide (0≤x) && decide (x < g.N)):=by
 unfold nk
 by_cases h:x ≥ 0
 ·have h':0≤x:=h
  simp [h']
 ·have h':¬ 0≤x:=h
  simp [h']
def Told (g:cz) (r:Int):Prop:=(r=0∧Good g)∨(r=60 ∧ ¬ Good g)
theorem Co {g:cz} {k:Nat} (b:Bool) (hk:k < g.Edges.length) (hm:g.Edges.length≤262144) (hb:b=true → ¬ zS g.N (idx g.Edges k)) (hb':b=false→zS g.N (idx g.Edges k))
  (hJ:∀ i:Nat,i < k→zS g.N (idx g.Edges i)):Tri (jb (k:Int) b) (Up g.Edges.length k (fun k=>∀ i:Nat,i < k→zS g.N (idx g.Edges i)) (Told g)):=by
 unfold jb;cases b with
 | true=>exact ⟨_,rfl,Or.inr ⟨rfl,fun hg=>hb rfl (hg.e k hk)⟩⟩
 | false =>
  refine ⟨_,rfl,aZ (by omega),hk,fun i hi => ?_⟩
  by_cases e:i=k
  ·subst e; exact hb' rfl
  ·exact hJ i (by omega)
theorem Dx (g:cz):Tri (dz g) (Told g):=by
 have hj:∀ b:Bool,0≤g.N→g.N≤64→b=decide ((g.Edges.length:Int) > 262144)→Tri (lZ g b) (Told g):=by
  intro b h0 h1 hb;unfold lZ;refine eP (fun h => ?_) (fun h => ?_)
  ·subst hb;have:(g.Edges.length:Int) > 262144:=of_decide_eq_true h;exact ⟨_,rfl,Or.inr ⟨rfl,fun hg=>by have:=hg.m; omega⟩⟩
  ·subst hb;have hm:¬ (g.Edges.length:Int) > 262144:=of_decide_eq_false h;refine LY g.Edges.length (fun k=>∀ i:Nat,i < k→zS g.N (idx g.Edges i)) (fun i hi=>by omega) (fun k hk hJ => ?_)
   show Tri (bif decide ((k:Int) < (g.Edges.length:Int)) then _ else _) _
   refine eP (fun h => ?_) (fun h => ?_)
   ·have h:(k:Int) < g.Edges.length:=of_decide_eq_true h;have hk':k < g.Edges.length:=by omega
    refine ah ⟨by omega,h⟩ ?_
    rw [Ni,Ni]
    refine eP (fun h => ?_) (fun h => ?_)
    ·refine Co true hk' (by omega) (fun _ ho => ?_) (fun h=>by cases h) hJ
     simp [ho.1,ho.2.1] at h
    ·simp only [Bool.not_eq_false',Bool.and_eq_true,decide_eq_true_eq] at h
     refine eP (fun h' => ?_) (fun h' => ?_)
     ·refine Co true hk' (by omega) (fun _ ho => ?_) (fun h=>by cases h) hJ
      simp [ho.2.2.1,ho.2.2.2.1] at h'
     ·simp only [Bool.not_eq_false',Bool.and_eq_true,decide_eq_true_eq] at h'
      refine eP (fun h1 => ?_) (fun h1 => ?_)
      ·refine Co true hk' (by omega) (fun _ ho => ?_) (fun h=>by cases h) hJ;have:=of_decide_eq_true h1;have:=ho.2.2.2.2.1
       omega
      ·refine eP (fun h2 => ?_) (fun h2 => ?_)
       ·refine Co true hk' (by omega) (fun _ ho => ?_) (fun h=>by cases h) hJ;have:=of_decide_eq_true h2;have:=ho.2.2.2.2.2.1
        omega
       ·have h1:=of_decide_eq_false h1;have h2:=of_decide_eq_false h2;refine dN (ones _ (by omega) (by omega)) (fun c hc => ?_)
        rw [hc]
        refine Co _ hk' (by omega) (fun hx ho => ?_) (fun hx => ?_) hJ
        ·have:=ho.2.2.2.2.2.2
         rw [this] at hx
         cases hx
        ·refine ⟨h.1,h.2,h'.1,h'.2,by omega,by omega,?_⟩
         simpa using hx
   ·have h:¬ (k:Int) < g.Edges.length:=of_decide_eq_false h;exact ax ⟨_,rfl,Or.inl ⟨rfl,h0,h1,by omega,fun i hi=>hJ i (by omega)⟩⟩
 unfold dz;refine eP (fun h => ?_) (fun h => ?_)
 ·exact ⟨_,rfl,Or.inr ⟨rfl,fun hg=>by have:=of_decide_eq_true h; have:=hg.n0; omega⟩⟩
 ·have h:=of_decide_eq_false h;refine eP (fun h' => ?_) (fun h' => ?_)
  ·exact ⟨_,rfl,Or.inr ⟨rfl,fun hg=>by have:=of_decide_eq_true h'; have:=hg.n1; omega⟩⟩
  ·have h':=of_decide_eq_false h';exact hj _ (by omega) (by omega) rfl
theorem FI (g:cz):(Good g∧dz g=some 0)∨(¬ Good g∧dz g=some 60):=by
 obtain ⟨r,h,h' | h'⟩:=Dx g
 ·exact Or.inl ⟨h'.2,h'.1 ▸ h⟩
 ·exact Or.inr ⟨h'.2,h'.1 ▸ h⟩
theorem FJ {g:cz} (hg:Good g):dz g=some 0:=by
 rcases FI g with h | h
 ·exact h.2
 ·exact absurd hg h.1
def Rows (ws:List Int) (n:Nat) (p:Nat→Nat→Prop):Prop:=ws.length=n∧∀ i:Nat,i < n→Wd (idx ws (i:Int)) (p i)
end Go.Proofs.YtfpeabnehpclnaaGreatT
namespace Go.Proofs.YtfpeabnehpclnaaGreatT
open Go Go.Proofs Go.Proofs.YtfpeabnehpclnaaGreatE
set_option linter.unusedVariables false
set_option linter.unusedSimpArgs false
open Classical
section
variable {h:History}
theorem Aq {β:Type} {f:Nat→List β} {k:Nat} {e:β}:e ∈ upE f k↔∃ j:Nat,j < k∧e ∈ f j:=by
 unfold upE
 rw [List.mem_flatMap]
 constructor
 ·rintro ⟨j,h1,h2⟩; exact ⟨j,List.mem_range.1 h1,h2⟩
 ·rintro ⟨j,h1,h2⟩; exact ⟨j,List.mem_range.2 h1,h2⟩
theorem Qe {α β:Type} [Inhabited α] {g:α→List β} {l:List α}:upE (fun k=>g (idx l (k:Int))) l.length=l.flatMap g:=by
 have key:∀ k:Nat,k≤l.length→upE (fun k=>g (idx l (k:Int))) k=(l.take k).flatMap g:=by
  intro k
  induction k with
  | zero=>intro _; simp [upE]
  | succ k ih =>
   intro hk
   rw [uD,ih (by omega),nu (by omega),List.flatMap_append]
   simp
 rw [key l.length (Nat.le_refl _),List.take_length]
structure EOk (h:History) (e:Edge):Prop where
 f0:0≤e.From
 f1:e.From < (h.Txns.length:Int)
 t0:0≤e.To
 t1:e.To < (h.Txns.length:Int)
 ne:e.From≠e.To
 sf:(idx h.Txns e.From).Status≠2
 st:(idx h.Txns e.To).Status≠2
 kd:(e.Kind=1∧e.Key = -1∧(idx h.Txns e.From).Proc=(idx h.Txns e.To).Proc∧e.From < e.To∧(idx h.Txns e.From).Status=1∧(idx h.Txns e.To).Status=1) ∨
  (e.Kind=2∧e.Key = -1∧(idx h.Txns e.From).Status=1∧(idx h.Txns e.To).Status=1∧(idx h.Txns e.From).To < (idx h.Txns e.To).From) ∨
  (e.Kind=4∧0 < (gJ h e.From e.Key).length∧(idx h.Txns e.To).Status=1) ∨
  (e.Kind=8∧0 < (gJ h e.From e.Key).length∧0 < (gJ h e.To e.Key).length) ∨
  (e.Kind=16∧0 < (gJ h e.To e.Key).length∧(idx h.Txns e.From).Status=1∧(idx h.Txns e.To).Status=1)
theorem TH {a:Nat} (ha:a < h.Txns.length) {e:Edge} (he:e ∈ soE h a):EOk h e:=by
 unfold soE at he
 split at he
 ·rename_i hd
  split at he
  ·rename_i b hb
   obtain ⟨q1,q2,q3,q4⟩:=MU (by omega) hb
   rw [List.mem_singleton] at he
   subst he;have hd:(idx h.Txns (a:Int)).Status=1:=hd;have q3:(idx h.Txns (b:Int)).Status=1:=q3;exact ⟨by dsimp only; omega,by dsimp only; omega,by dsimp only; omega,by dsimp only; omega,by dsimp only; omega,by dsimp only; omega,by dsimp only; omega,.inl ⟨rfl,rfl,q4.symm,by dsimp only; omega,hd,q3⟩⟩
  ·cases he
 ·cases he
theorem TI (hS:eY h) {a b:Nat} (ha:a < h.Txns.length) (hb:b < h.Txns.length) {e:Edge} (he:e ∈ IL h a b):EOk h e:=by
 unfold IL at he
 split at he
 ·rename_i hd
  obtain ⟨d1,d2,d3⟩:=hd
  rw [List.mem_singleton] at he
  subst he;have d1:(idx h.Txns (a:Int)).Status=1:=d1;have d2:(idx h.Txns (b:Int)).Status=1:=d2;have hne:(a:Int)≠(b:Int):=by
   intro e;have e:a=b:=by omega
   subst e;obtain ⟨⟨_,_,_,f4,f5,_⟩,_⟩:=hS.txn a ha;have:(idx h.Txns (a:Int)).To ≠ -1:=fun e=>by have:=f4 e; omega
   have:=f5 this
   omega
  exact ⟨by dsimp only; omega,by dsimp only; omega,by dsimp only; omega,by dsimp only; omega,hne,by dsimp only; omega,by dsimp only; omega,.inr (.inl ⟨rfl,rfl,d1,d2,d3⟩)⟩
 ·cases he
theorem Ng {a:Ask} (ha:a ∈ bu h h.Txns.length):0≤a.Txn∧a.Txn < (h.Txns.length:Int)∧(idx h.Txns a.Txn).Status=1:=by
 obtain ⟨t,e,h1,h2⟩:=PX ha
 rw [e]
 exact ⟨by omega,by omega,h2⟩
theorem TJ (hS:eY h) (hc:aC h=some 0) {a:Ask} (ha:a ∈ bu h h.Txns.length) {e:Edge} (he:e ∈ wrE h a):EOk h e:=by
 obtain ⟨t0,t1,td⟩:=Ng ha;unfold wrE at he
 split at he
 ·rename_i p hp
  split at he
  ·cases he
  ·rename_i hn
   rw [List.mem_singleton] at he
   subst he;obtain ⟨⟨q1,q2,q3,q4⟩,q5⟩:=lC.1 ((Qa hS hc ha (x:=p) (by rw [hp]; simp)).resolve_left hn);exact ⟨q1,q2,t0,t1,q5,q3,by dsimp only; omega,.inr (.inr (.inl ⟨rfl,q4,td⟩))⟩
 ·cases he
theorem TK (hS:eY h) (hc:aC h=some 0) {a:Ask} (ha:a ∈ bu h h.Txns.length) {e:Edge} (he:e ∈ wwE h a):EOk h e:=by
 obtain ⟨p1,p2,_,_⟩:=FD hS hc ha;unfold wwE at he
 split at he
 rotate_left
 ·cases he
 obtain ⟨i,hi,he⟩:=Aq.1 he;have hpi:=lC.1 (p1 _ (fA hi));obtain ⟨⟨q1,q2,q3,q4⟩,q5⟩:=hpi;unfold zR at he
 split at he
 ·rename_i hk
  rw [List.mem_singleton] at he
  subst he;obtain ⟨⟨r1,r2,r3,r4⟩,r5⟩:=lC.1 (p1 _ (fA hk.2));refine ⟨q1,q2,r1,r2,fun e => ?_,q3,r3,.inr (.inr (.inr (.inl ⟨rfl,q4,r4⟩)))⟩;have:=PV p2 hi hk.2 e
  omega
 ·obtain ⟨k,hk,he⟩:=Aq.1 he;unfold wwT at he
  split at he
  ·cases he
  ·rename_i hn
   rw [List.mem_singleton] at he
   subst he;obtain ⟨⟨r1,r2,r3⟩,r4,r5⟩:=IP.1 (fA hk);refine ⟨q1,q2,r1,r2,fun e => ?_,q3,by dsimp only; omega,.inr (.inr (.inr (.inl ⟨rfl,q4,r3⟩)))⟩
   dsimp only at e
   rw [← e] at hn
   exact hn (fA hi)
theorem TL {a:Ask} (ha:a ∈ bu h h.Txns.length) {e:Edge} (he:e ∈ rwE h a):EOk h e:=by
 obtain ⟨t0,t1,td⟩:=Ng ha;unfold rwE at he;obtain ⟨k,hk,he⟩:=Aq.1 he;unfold rwT at he
 split at he
 ·rw [List.mem_singleton] at he
  subst he;obtain ⟨⟨r1,r2,r3⟩,r4,r5⟩:=IP.1 (fA hk);exact ⟨t0,t1,r1,r2,fun e=>r4 e.symm,by dsimp only; omega,by dsimp only; omega,.inr (.inr (.inr (.inr ⟨rfl,r3,td,r5⟩)))⟩
 ·cases he
theorem Qf (hS:eY h) (hc:aC h=some 0) {e:Edge} (he:e ∈ pW h):EOk h e:=by
 unfold pW at he;rcases List.mem_append.1 he with he | he
 ·rcases List.mem_append.1 he with he | he
  ·obtain ⟨j,hj,he⟩:=Aq.1 he;exact TH hj he
  ·obtain ⟨j,hj,he⟩:=Aq.1 he;obtain ⟨k,hk,he⟩:=Aq.1 he;exact TI hS hj hk he
 ·obtain ⟨a,ha,he⟩:=List.mem_flatMap.1 he;unfold FE at he;rcases List.mem_append.1 he with he | he
  ·rcases List.mem_append.1 he with he | he
   ·exact TJ hS hc ha he
   ·exact TK hS hc ha he
  ·exact TL ha he
theorem Nh {a:Ask} {p:Int}:∀ d:List Int,(d.flatMap (wwT h a p)).length=(d.filter fun t=>decide (t ∉ (pts h a).1)).length
 | []=>rfl
 | t::d=>by
  rw [List.flatMap_cons,List.length_append,Nh d]
  by_cases ht:t ∈ (pts h a).1
  ·rw [wwT,if_pos ht,List.filter_cons_of_neg (by simpa using ht)]
   simp
  ·rw [wwT,if_neg ht,List.filter_cons_of_pos (by simpa using ht)]
   simp
   omega
theorem RI (hS:eY h) (hc:aC h=some 0) {a:Ask} (ha:a ∈ bu h h.Txns.length):(FE h a).length≤305:=by
 obtain ⟨p1,p2,_,p3⟩:=FD hS hc ha;have h3:=MW (h:=h) (a:=a);have h4:=IQ (h:=h) (a:=a) (k:=(dwr h a).length);have h5:=Cm (h:=h) (a:=a);have h6:=hS.len;have h7:=IJ hS (a:=a);have hdn:(dwr h a).Nodup:=Bb.filter _;have hsum:((pts h a).1++(dwr h a).filter fun t=>decide (t ∉ (pts h a).1)).length≤(oth h a).length:=by
  refine yG ?_ (fun x hx => ?_)
  ·rw [List.nodup_append]
   refine ⟨p2,hdn.filter _,fun x hx y hy e => ?_⟩;subst e;have:=(List.mem_filter.1 hy).2
   rw [decide_eq_true_eq] at this
   exact this hx
  ·rcases List.mem_append.1 hx with hx | hx
   ·exact p1 x hx
   ·obtain ⟨⟨r1,r2,r3⟩,r4,r5⟩:=IP.1 (List.mem_filter.1 hx).1;exact lC.2 ⟨⟨r1,r2,by rw [r5]; decide,r3⟩,r4⟩
 rw [List.length_append] at hsum
 generalize hcn:((dwr h a).filter fun t=>decide (t ∉ (pts h a).1)).length=c at hsum;have hat:∀ i,(zR h a i).length≤c + 1:=fun i=>by
  unfold zR
  split
  ·simp
  ·have e:=Qe (g:=wwT h a (idx (pts h a).1 (i:Int))) (l:=dwr h a)
   rw [e,Nh,hcn]
   omega
 have hw:=vv (f:=zR h a) hat (pts h a).1.length;have hm:∀ p:Nat,p≤32→p * (33 - p)≤272:=by decide
 have h8:=hm (pts h a).1.length p3;have h9:(pts h a).1.length * (c + 1)≤(pts h a).1.length * (33 - (pts h a).1.length):=Nat.mul_le_mul_left _ (by omega);unfold FE rwE wwE
 simp only [List.length_append]
 split
 ·omega
 ·simp only [List.length_nil]; omega
theorem Om (hS:eY h) (hc:aC h=some 0):(pW h).length≤262144:=by
 obtain ⟨i1,_,_⟩:=vH hS h.Txns.length (Nat.le_refl _);have a1:=hS.len;have h1:=EJ (h:=h) (k:=h.Txns.length);have h2:=IM hS (Nat.le_refl h.Txns.length);have key:∀ l:List Ask,(∀ a ∈ l,a ∈ bu h h.Txns.length)→(l.flatMap (FE h)).length≤305 * l.length:=by
  intro l
  induction l with
  | nil=>intro _; simp
  | cons a l ih =>
   intro hl
   rw [List.flatMap_cons,List.length_append,List.length_cons]
   have:=RI hS hc (hl a (by simp));have:=ih (fun b hb=>hl b (by simp [hb]))
   omega
 have h3:=key _ (fun a ha=>ha);unfold pW
 rw [List.length_append,List.length_append]
 omega
theorem FH (hS:eY h) (hc:aC h=some 0):Good ⟨(h.Txns.length:Int),pW h⟩:=by
 have a1:=hS.len;refine ⟨by dsimp only; omega,by dsimp only; omega,Om hS hc,fun k hk => ?_⟩
 dsimp only at hk ⊢
 have he:=Qf hS hc (e:=idx (pW h) (k:Int)) (by rw [dm (n:=k) rfl hk]; exact List.getElem_mem _);have hkd:(idx (pW h) (k:Int)).Kind=1∨(idx (pW h) (k:Int)).Kind=2∨(idx (pW h) (k:Int)).Kind=4∨(idx (pW h) (k:Int)).Kind=8∨(idx (pW h) (k:Int)).Kind=16:=by
  rcases he.kd with h | h | h | h | h
  ·exact .inl h.1
  ·exact .inr (.inl h.1)
  ·exact .inr (.inr (.inl h.1))
  ·exact .inr (.inr (.inr (.inl h.1)))
  ·exact .inr (.inr (.inr (.inr h.1)))
 refine ⟨he.f0,he.f1,he.t0,he.t1,by omega,by omega,?_⟩
 rcases hkd with e | e | e | e | e <;> rw [e] <;> decide
end
end Go.Proofs.YtfpeabnehpclnaaGreatT
