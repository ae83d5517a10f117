import Derived.Test.YtfpeabnehpclnaaGreatTPXB
namespace Go.Proofs.YtfpeabnehpclnaaGreatT
open Go Go.Proofs Go.Proofs.YtfpeabnehpclnaaGreatE
set_option linter.unusedVariables false
set_option linter.unusedSimpArgs false
def MJ (h:History) (key ty:Int):Prop:=∀ t p:Nat,t < h.Txns.length→p < (idx h.Txns (t:Int)).Ops.length→(opAt h (t:Int) (p:Int)).Key=key→typ (opAt h (t:Int) (p:Int)).Kind=ty
def Apart (e f:Call×Int):Prop:=e.1.Key=f.1.Key→(e.1.Kind=2∨e.1.Kind=3)→(f.1.Kind=2∨f.1.Kind=3)→e.1.Arg≠f.1.Arg
theorem IM {L:List (Call×Int)} (h:uM [] L):L.Pairwise Apart:=by
 rw [List.pairwise_iff_getElem]
 intro i j hi hj hij hk h1 h2;have:=(h j hj).2.1
 rw [dJ (n:=j) rfl hj] at this
 exact this h2 L[i] (by rw [List.nil_append]; exact List.mem_take_iff_getElem.2 ⟨i,by omega,rfl⟩) hk h1
theorem Kt {h:History} {t key v:Int}:v ∈ jA h t key↔∃ o ∈ (idx h.Txns t).Ops,o.Key=key∧o.Kind≤4∧o.Arg=v:=by
 unfold jA xZ
 rw [List.take_length]
 simp only [List.mem_map,List.mem_filter,decide_eq_true_eq]
 constructor
 ·rintro ⟨o,⟨h1,h2,h3⟩,h4⟩; exact ⟨o,h1,h2,h3,h4⟩
 ·rintro ⟨o,h1,h2,h3,h4⟩; exact ⟨o,⟨h1,h2,h3⟩,h4⟩
theorem Vn {h:History} {t:Nat} {o:Op} (ho:o ∈ (idx h.Txns (t:Int)).Ops):∃ p:Nat,p < (idx h.Txns (t:Int)).Ops.length∧opAt h (t:Int) (p:Int)=o:=by
 obtain ⟨p,hp,rfl⟩:=List.getElem_of_mem ho;exact ⟨p,hp,dJ rfl hp⟩
theorem Ib {h:History} (hS:fo h) {key ty:Int} (hty:MJ h key ty) (a1:ty=2∨ty=3) {t:Nat} (ht:t < h.Txns.length) {o:Op} (ho:o ∈ (idx h.Txns (t:Int)).Ops) (hk:o.Key=key) (h4:o.Kind≤4):o.Kind=2∨o.Kind=3:=by
 obtain ⟨p,hp,rfl⟩:=Vn ho;have h1:=hty t p ht hp hk;obtain ⟨k1,k2⟩:=Dq hS ht hp;unfold typ at h1
 omega
theorem MK {h:History} (hS:fo h) {key ty:Int} (hty:MJ h key ty) (a1:ty=2∨ty=3) {t:Nat} (ht:t < h.Txns.length):(jA h (t:Int) key).Nodup:=by
 have hp:=(List.pairwise_flatMap.1 (IM hS.ents)).1 t (List.mem_range.2 ht);unfold Ef eF at hp
 rw [List.map_map,List.pairwise_map] at hp
 unfold jA xZ
 rw [List.take_length]
 unfold List.Nodup
 rw [List.pairwise_map,List.pairwise_filter]
 refine List.Pairwise.imp_of_mem (fun {x y} hx hy hR => ?_) hp;intro h1 h2
 rw [decide_eq_true_eq] at h1 h2
 refine hR ?_ (Ib hS hty a1 ht hx h1.1 h1.2) (Ib hS hty a1 ht hy h2.1 h2.2)
 show idx h.Keys _=idx h.Keys _
 rw [h1.1,h2.1]
theorem ML {h:History} (hS:fo h) {key ty:Int} (hty:MJ h key ty) (a1:ty=2∨ty=3) {t u:Nat} (ht:t < h.Txns.length) (hu:u < h.Txns.length) (hn:t≠u) {v:Int}
  (h1:v ∈ jA h (t:Int) key):v ∉ jA h (u:Int) key:=by
 intro h2;have hp:=(List.pairwise_flatMap.1 (IM hS.ents)).2;obtain ⟨o,ho,k1,k2,k3⟩:=Kt.1 h1;obtain ⟨o',ho',l1,l2,l3⟩:=Kt.1 h2;have a2:∀ {t u:Nat} (ht:t < h.Txns.length) (hu:u < h.Txns.length),t < u→∀ {o o':Op},o ∈ (idx h.Txns (t:Int)).Ops→o' ∈ (idx h.Txns (u:Int)).Ops→o.Key=key→o'.Key=key→o.Kind≤4→o'.Kind≤4→o.Arg≠o'.Arg:=by
  intro t u ht hu htu o o' ho ho' e1 e2 e3 e4;have:=(List.pairwise_iff_getElem.1 hp) t u (by simpa using ht) (by simpa using hu) htu
  rw [List.getElem_range,List.getElem_range] at this
  refine this (Ag h o,(t:Int)) ?_ (Ag h o',(u:Int)) ?_ ?_ (Ib hS hty a1 ht ho e1 e3) (Ib hS hty a1 hu ho' e2 e4)
  ·unfold Ef eF; rw [List.map_map]; exact List.mem_map.2 ⟨o,ho,rfl⟩
  ·unfold Ef eF; rw [List.map_map]; exact List.mem_map.2 ⟨o',ho',rfl⟩
  ·show idx h.Keys _=idx h.Keys _
   rw [e1,e2]
 rcases Nat.lt_or_gt_of_ne hn with hlt | hlt
 ·exact a2 ht hu hlt ho ho' k1 l1 k2 l2 (k3.trans l3.symm)
 ·exact a2 hu ht hlt ho' ho l1 k1 l2 k2 (l3.trans k3.symm)
structure GK (h:History) (a:Ask) (t p:Nat):Prop where
 tl:t < h.Txns.length
 pl:p < (idx h.Txns (t:Int)).Ops.length
 e1:a.Txn=(t:Int)
 e2:a.Place=(p:Int)
 e3:a.Key=(opAt h (t:Int) (p:Int)).Key
 rd:5≤(opAt h (t:Int) (p:Int)).Kind
 b64:a.Base.length≤64
 b4:typ (opAt h (t:Int) (p:Int)).Kind=4→a.Base.length=1
 b3:typ (opAt h (t:Int) (p:Int)).Kind=3→a.Base.Nodup
theorem Ku {s:List Int} (h:Asc s):s.Nodup:=by
 exact (Dm.1 h).imp (fun h=>by omega)
theorem Ex {h:History} (hS:fo h) {a:Ask} (ha:a ∈ bn h h.Txns.length):∃ t p,GK h a t p:=by
 unfold bn at ha;obtain ⟨t,ht,ha⟩:=List.mem_flatMap.1 ha;have ht:=List.mem_range.1 ht;unfold yO at ha
 split at ha
 case isFalse=>cases ha
 case isTrue hst =>
 unfold yN at ha;obtain ⟨p,hp,ha⟩:=List.mem_flatMap.1 ha;have hp:=List.mem_range.1 hp;refine ⟨t,p,?_⟩;obtain ⟨k1,k8⟩:=Dq hS ht hp;obtain ⟨_,_,_,_,_,hcs⟩:=hS.txn t ht;have hc:=hcs p (by simpa [DZ,eF] using hp)
 dsimp only [DZ,eF] at hc
 rw [BC hp] at hc
 unfold xM Ag at hc
 dsimp only at hc
 unfold GI at ha
 dsimp only at ha
 have ho:idx (idx h.Txns (t:Int)).Ops (p:Int)=opAt h (t:Int) (p:Int):=rfl
 rw [ho] at ha hc
 generalize opAt h (t:Int) (p:Int)=o at ha hc k1 k8 ho;obtain ⟨c1,c8,c3,c4,c5,c6⟩:=hc;have hoo:opAt h (t:Int) (p:Int)=o:=ho
 split at ha
 ·cases ha
 ·rename_i h4
  obtain ⟨d1,d2,d3,d4⟩:=c6 (by omega);have hg:o.Got=true:=d2.2 hst;obtain ⟨f1,f2,f3,f4⟩:=d4 hg
  split at ha
  ·rw [List.mem_singleton] at ha
   subst ha;exact ⟨ht,hp,rfl,rfl,by rw [hoo],by rw [hoo]; omega,f4,fun h=>f2 (by rw [hoo] at h; unfold typ at h; omega),fun h=>Ku (f3 (by rw [hoo] at h; unfold typ at h; omega))⟩
  ·split at ha
   ·rename_i hb
    rw [List.mem_singleton] at ha
    subst ha;obtain ⟨hb,h5⟩:=hb;refine ⟨ht,hp,rfl,rfl,by rw [hoo],by rw [hoo]; omega,?_,fun h => ?_,fun h => ?_⟩
    ·dsimp only
     unfold before;have:=List.length_filter_le (fun x=>decide (x ∉ xZ (idx h.Txns (t:Int)).Ops o.Key p)) o.Vals
     split
     ·simp
     ·split
      ·simp
      ·split
       ·split
        ·simp; omega
        ·simp
       ·split
        ·split
         ·dsimp only; omega
         ·simp
        ·simp
    ·have h8:o.Kind=8:=by rw [hoo] at h; unfold typ at h; omega
     dsimp only
     unfold before at hb ⊢
     rw [h8] at hb ⊢
     split at hb
     ·cases hb
     ·rename_i hq
      rw [if_neg hq]
      simp
    ·have h7:o.Kind=7:=by rw [hoo] at h; unfold typ at h; omega
     have hnd:=Ku (f3 h7)
     dsimp only
     unfold before
     rw [h7]
     split
     ·simp
     ·simp only [show ¬ ((7:Int) - 4=1) by omega,show ¬ ((7:Int) - 4=2) by omega,if_false]
      split
      ·split
       ·exact hnd.filter _
       ·simp
      ·rename_i h0
       exact absurd (show (7:Int) - 4=3 by omega) h0
   ·cases ha
end Go.Proofs.YtfpeabnehpclnaaGreatT
namespace Go.Proofs.YtfpeabnehpclnaaGreatT
open Go Go.Proofs Go.Proofs.YtfpeabnehpclnaaGreatE
set_option linter.unusedVariables false
set_option linter.unusedSimpArgs false
theorem Gh {α:Type} [Inhabited α] {l:List α} {k:Nat}:jT l (k:Int) (l.length:Int)=l.drop k:=by
 unfold jT
 simp
theorem Gi {l:List Int} {v:Int} (hl:l.length < 2 ^ 60):slices_Contains_int l v=some (decide (v ∈ l)):=by
 have h1:Tri (slices_Index_int l v) (fun r=>0≤r↔∃ j:Nat,j < l.length∧idx l (j:Int)=v):=by
  unfold slices_Index_int;refine tH l.length (fun j=>idx l (j:Int)≠v) ?_;intro k hk hJ;unfold tO
  dsimp only
  repeat' (first | contradiction | with_reducible refine aA (fun hq => ?_) (fun hq => ?_) | with_reducible refine aj (by first | omega | grind [cZ]) ?_ | with_reducible refine aD ?_ | with_reducible refine dA ?_ | with_reducible refine dQ ?_ | with_reducible refine dR ?_ | with_reducible refine dS ?_ | with_reducible refine ag ?_)
  all_goals grind [Nxt,cZ]
 refine eH.1 ?_;unfold slices_Contains_int;refine dZ h1 (fun r hr=>ag ?_);have:(∃ j:Nat,j < l.length∧idx l (j:Int)=v)↔v ∈ l:=by
  rw [List.mem_iff_getElem]
  constructor
  ·rintro ⟨j,hj,e⟩; exact ⟨j,hj,by rw [← e,dJ (n:=j) rfl hj]⟩
  ·rintro ⟨j,hj,e⟩; exact ⟨j,hj,by rw [← e,dJ (n:=j) rfl hj]⟩
 rw [decide_eq_decide]
 exact hr.trans this
theorem MM {s p:List Int} (hs:s.length < 2 ^ 60):mo s p=some (decide (p <+: s)):=by
 refine eH.1 ?_;unfold mo;refine aA (fun h => ?_) (fun h => ?_)
 ·refine ag ?_
  rw [eq_comm,decide_eq_false_iff_not]
  intro hp;have:=hp.length_le
  omega
 ·have hl:p.length≤s.length:=by omega
  refine aj (by omega) ?_;have hsv:dN (jT s (0:Int) (p.length:Int)) p=some (decide (jT s (0:Int) (p.length:Int)=p)):=JS (by rw [sJ hl,List.length_take]; omega);refine bA hsv (ag ?_)
  rw [decide_eq_decide,sJ hl,List.prefix_iff_eq_take,eq_comm]
structure Parts (O:List Int) (W:Int→List Int):Prop where
 ne:∀ t ∈ O,0 < (W t).length
 ap:∀ t ∈ O,∀ u ∈ O,∀ v,v ∈ W t→v ∈ W u→t=u
 nd:∀ t ∈ O,(W t).Nodup
 ol:O.length≤32
 wl:∀ t ∈ O,(W t).length≤16
 pos:∀ t ∈ O,0≤t
theorem IP {h:History} (hS:fo h) {a:Ask} {t p:Nat} (ha:GK h a t p) (a1:typ (opAt h (t:Int) (p:Int)).Kind=2∨typ (opAt h (t:Int) (p:Int)).Kind=3) :
  Parts (mD h a h.Txns.length) (fun t=>jA h t a.Key):=by
 have a2:=hS.len;have hty:MJ h a.Key (typ (opAt h (t:Int) (p:Int)).Kind):=fun t' p' ht' hp' hk=>MI hS ht' hp' ha.tl ha.pl (hk.trans ha.e3);have hm:∀ u ∈ mD h a h.Txns.length,∃ n:Nat,u=(n:Int)∧n < h.Txns.length∧0 < (jA h u a.Key).length:=by
  intro u hu;obtain ⟨⟨h0,h1,_,h3⟩,_⟩:=wU.1 hu;exact ⟨u.toNat,by omega,by omega,h3⟩
 refine ⟨fun u hu => ?_,fun u hu v hv x h1 h2 => ?_,fun u hu => ?_,Nat.le_trans yf a2,fun u hu => ?_,fun u hu=>(wU.1 hu).1.1⟩
 ·obtain ⟨n,_,_,h3⟩:=hm u hu; exact h3
 ·obtain ⟨n,rfl,hn,_⟩:=hm u hu;obtain ⟨m,rfl,hm',_⟩:=hm v hv
  by_cases hne:n=m
  ·rw [hne]
  ·exact absurd h2 (ML hS hty a1 hn hm' hne h1)
 ·obtain ⟨n,rfl,hn,_⟩:=hm u hu;exact MK hS hty a1 hn
 ·obtain ⟨n,rfl,hn,_⟩:=hm u hu;exact Nat.le_trans GJ (hS.txn n hn).ops.1
section
variable {O:List Int} {W:Int→List Int}
def Fj (O:List Int) (W:Int→List Int):List bu:=O.map (fun t=>⟨t,W t⟩)
theorem AU:(Fj O W).length=O.length:=List.length_map _
theorem Dt {j:Nat} (hj:j < O.length):idx (Fj O W) (j:Int)=⟨idx O (j:Int),W (idx O (j:Int))⟩:=BC hj
theorem iC {l:List Int} {j:Nat} (hj:j < l.length):idx l (j:Int) ∈ l:=by rw [dJ (n:=j) rfl hj]; exact List.getElem_mem _
theorem yg {l:List Int} {t:Int} (h:t ∈ l):∃ j:Nat,j < l.length∧idx l (j:Int)=t:=by
 obtain ⟨j,hj,e⟩:=List.getElem_of_mem h;exact ⟨j,hj,(dJ rfl hj).trans e⟩
theorem ui {p s:List Int} (hp:p <+: s) (h0:0 < p.length):idx p 0=idx s 0:=by
 obtain ⟨r,rfl⟩:=hp;exact (nY (j:=0) h0).symm
theorem Qa (hP:Parts O W) {rest:List Int} (hr:0 < rest.length):Tri (bW (Fj O W) rest)
  (fun y=>(∃ j:Nat,j < O.length∧y=(j:Int)∧idx (W (idx O (j:Int))) 0=idx rest 0)∨(y = -1∧∀ t ∈ O,idx (W t) 0≠idx rest 0)):=by
 have hol:=hP.ol;unfold bW;refine bX (k0:=0) O.length (fun k s=>s=(k:Int)∧∀ j:Nat,j < k→idx (W (idx O (j:Int))) 0≠idx rest 0) (Nat.zero_le _) ⟨rfl,fun j h=>absurd h (Nat.not_lt_zero _)⟩ ?_;rintro k s hk ⟨rfl,hno⟩;have hw:w64 ((k:Int) + 1)=((k + 1:Nat):Int):=aZ (by omega);unfold iy xg
 dsimp only
 rw [hw,AU]
 refine aA (fun a2 => ?_) (fun a2 => ?_)
 ·have a1:k < O.length:=by omega
  have h0:=hP.ne _ (iC a1)
  rw [Dt a1]
  refine aj (by omega) ?_
  simp only [lJ _ (show 0≤(0:Int)∧(0:Int) < ((W (idx O (k:Int))).length:Int) by omega),lJ _ (show 0≤(0:Int)∧(0:Int) < (rest.length:Int) by omega),Option.bind_some]
  refine aA (fun he => ?_) (fun he => ?_)
  ·exact aD (ag (.inl ⟨k,a1,rfl,he⟩))
  ·refine ag ⟨a1,rfl,fun j hj => ?_⟩;rcases Nat.lt_or_ge j k with h1 | h1
   ·exact hno j h1
   ·have:j=k:=by omega
    subst this;exact he
 ·have:k=O.length:=by omega
  subst this;refine aD (ag (.inr ⟨rfl,fun t ht => ?_⟩));obtain ⟨j,hj,rfl⟩:=yg ht;exact hno j hj
theorem wV (hP:Parts O W) {rest:List Int} {t u:Int} (ht:t ∈ O) (hu:u ∈ O) (h1:idx (W t) 0=idx rest 0) (h2:idx (W u) 0=idx rest 0):t=u:=by
 have e1:=hP.ne t ht;have e2:=hP.ne u hu;refine hP.ap t ht u hu (idx rest 0) ?_ ?_
 ·rw [← h1]; exact iC (j:=0) e1
 ·rw [← h2]; exact iC (j:=0) e2
end
end Go.Proofs.YtfpeabnehpclnaaGreatT
namespace Go.Proofs.YtfpeabnehpclnaaGreatT
open Go Go.Proofs Go.Proofs.YtfpeabnehpclnaaGreatE
set_option linter.unusedVariables false
set_option linter.unusedSimpArgs false
def Stp (O:List Int) (W:Int→List Int) (rest l:List Int):Option (Option Int)→Prop
 | none=>rest.length=0
 | some none=>0 < rest.length∧∀ t ∈ O,W t <+: rest→t ∈ l
 | some (some t)=>0 < rest.length∧t ∈ O∧W t <+: rest∧t ∉ l
section
variable {O:List Int} {W:Int→List Int} {rest l:List Int}
theorem Stp.det (hP:Parts O W) {x y:Option (Option Int)} (hx:Stp O W rest l x) (hy:Stp O W rest l y):x=y:=by
 match x,y,hx,hy with
 | none,none,_,_=>rfl
 | none,some none,h1,h2=>exact absurd (show rest.length=0 from h1) (by have:0 < rest.length:=h2.1; omega)
 | none,some (some t),h1,h2=>exact absurd (show rest.length=0 from h1) (by have:0 < rest.length:=h2.1; omega)
 | some none,none,h1,h2=>exact absurd (show rest.length=0 from h2) (by have:0 < rest.length:=h1.1; omega)
 | some (some t),none,h1,h2=>exact absurd (show rest.length=0 from h2) (by have:0 < rest.length:=h1.1; omega)
 | some none,some none,_,_=>rfl
 | some none,some (some t),h1,h2=>exact absurd (h1.2 t h2.2.1 h2.2.2.1) h2.2.2.2
 | some (some t),some none,h1,h2=>exact absurd (h2.2 t h1.2.1 h1.2.2.1) h1.2.2.2
 | some (some t),some (some u),h1,h2 =>
  rw [wV hP h1.2.1 h2.2.1 (ui h1.2.2.1 (hP.ne t h1.2.1)) (ui h2.2.2.1 (hP.ne u h2.2.1))]
def VA (W:Int→List Int) (rest l:List Int):Option (Option Int)→(List Int×List Int) ⊕ (List Int×Bool)
 | none => .inr (l,true)
 | some none => .inr ([],false)
 | some (some t) => .inl (rest.drop (W t).length,l++[t])
def VB (W:Int→List Int) (rest l:List Int):Option (Option Int)→(List Int×List Int) ⊕ (List Int×Bool)
 | none => .inr (l,true)
 | some none => .inr ([],false)
 | some (some t) => .inl (l++[t],rest.drop (W t).length)
theorem Qb (hP:Parts O W) (hr:rest.length≤64) (hl:l.length≤64):Tri (vo (Fj O W) (rest,l)) (fun x=>∃ o,Stp O W rest l o∧x=VA W rest l o):=by
 have hol:=hP.ol;unfold vo
 dsimp only
 refine aA (fun h0 => ?_) (fun h0 => ?_)
 ·have h0:0 < rest.length:=by omega
  refine dZ (Qa hP h0) (fun y hy => ?_);unfold oV
  rw [AU]
  rcases hy with ⟨j,hj,rfl,hh⟩ | ⟨rfl,hno⟩
  ·have a1:=hP.wl _ (iC hj);refine aA (fun h1=>absurd h1 (by omega)) (fun _ => ?_);refine aj (by omega) ?_
   rw [Dt hj]
   dsimp only
   generalize hg:idx O (j:Int)=t at *;have ht:t ∈ O:=hg ▸ iC hj;refine aA (fun h2 => ?_) (fun h2 => ?_)
   ·refine aD (ag ⟨some none,⟨h0,fun u hu hp => ?_⟩,rfl⟩);have:=wV hP hu ht (ui hp (hP.ne u hu)) hh;subst this;have:=hp.length_le
    omega
   ·have h2:(W t).length≤rest.length:=by omega
    refine aj (by omega) ?_;refine bA (Et (by omega)) ?_
    rw [sJ h2]
    refine aA (fun h3 => ?_) (fun h3 => ?_)
    ·refine aD (ag ⟨some none,⟨h0,fun u hu hp => ?_⟩,rfl⟩);have:=wV hP hu ht (ui hp (hP.ne u hu)) hh;subst this;have:=List.prefix_iff_eq_take.1 hp;exact absurd this (by simpa using h3)
    ·have h3:W t=rest.take (W t).length:=by simpa using h3
     refine bA (Gi (by omega)) ?_;refine aA (fun h4 => ?_) (fun h4 => ?_)
     ·refine aD (ag ⟨some none,⟨h0,fun u hu hp => ?_⟩,rfl⟩);have:=wV hP hu ht (ui hp (hP.ne u hu)) hh;subst this;exact h4
     ·refine aj (by omega) (aj (by omega) (aj (by omega) ?_))
      rw [Gh]
      exact ag ⟨some (some t),⟨h0,ht,List.prefix_iff_eq_take.2 h3,h4⟩,rfl⟩
  ·refine aA (fun h1 => ?_) (fun h1=>absurd h1 (by omega));exact aD (ag ⟨some none,⟨h0,fun u hu hp=>absurd (ui hp (hP.ne u hu)) (hno u hu)⟩,rfl⟩)
 ·exact aD (ag ⟨none,by show rest.length=0; omega,rfl⟩)
theorem RL {h:History} {a:Ask} (hP:Parts O W) (hW:∀ t ∈ O,bf h t a.Key=some (W t)) (hr:rest.length≤64) (hl:l.length≤64) :
  Tri (lG h a O (l,rest)) (fun x=>∃ o,Stp O W rest l o∧x=VB W rest l o):=by
 have hol:=hP.ol;unfold lG
 dsimp only
 refine aA (fun h0 => ?_) (fun h0 => ?_)
 ·have h0:0 < rest.length:=by omega
  refine bX (k0:=0) O.length (fun k s=>s.2=(k:Int)∧((s.1 = -1∧∀ j:Nat,j < k → ¬ W (idx O (j:Int)) <+: rest)∨(s.1 ∈ O∧W s.1 <+: rest))) (Nat.zero_le _) ⟨rfl,.inl ⟨rfl,fun j h=>absurd h (Nat.not_lt_zero _)⟩⟩ ?_;rintro k ⟨x,y⟩ hk ⟨e,hx⟩
  dsimp only at e hx
  subst e;have hw:w64 ((k:Int) + 1)=((k + 1:Nat):Int):=aZ (by omega);unfold tX oG
  dsimp only
  rw [hw]
  refine aA (fun a5 => ?_) (fun a5 => ?_)
  ·have a1:k < O.length:=by omega
   refine aj (by omega) ?_;refine bA (hW _ (iC a1)) ?_;refine bA (MM (by omega)) ?_;refine aA (fun h1 => ?_) (fun h1 => ?_)
   ·exact ag ⟨a1,rfl,.inr ⟨iC a1,h1⟩⟩
   ·refine ag ⟨a1,rfl,?_⟩;rcases hx with ⟨e,hx⟩ | hx
    ·refine .inl ⟨e,fun j hj => ?_⟩;rcases Nat.lt_or_ge j k with h2 | h2
     ·exact hx j h2
     ·have:j=k:=by omega
      subst this;exact h1
    ·exact .inr hx
  ·have:k=O.length:=by omega
   subst this;rcases hx with ⟨rfl,hx⟩ | ⟨hx,hp⟩
   ·refine aA (fun _ => ?_) (fun h1=>absurd h1 (by omega));refine aD (aD (ag ⟨some none,⟨h0,fun t ht hp => ?_⟩,rfl⟩));obtain ⟨j,hj,rfl⟩:=yg ht;exact absurd hp (hx j hj)
   ·have h2:=hP.pos x hx;have h3:=hp.length_le;refine aA (fun h1=>absurd h1 (by omega)) (fun _ => ?_);refine bX (k0:=0) l.length (fun k s=>s=(k:Int)∧∀ j:Nat,j < k→idx l (j:Int)≠x) (Nat.zero_le _) ⟨rfl,fun j h=>absurd h (Nat.not_lt_zero _)⟩ ?_;rintro m s hm ⟨rfl,hno⟩;have a3:w64 ((m:Int) + 1)=((m + 1:Nat):Int):=aZ (by omega);unfold tV
    dsimp only
    rw [a3]
    refine aA (fun a4 => ?_) (fun a4 => ?_)
    ·have a2:m < l.length:=by omega
     refine aj (by omega) ?_;refine aA (fun h4 => ?_) (fun h4 => ?_)
     ·refine aD (aD (aD (ag ⟨some none,⟨h0,fun u hu hq => ?_⟩,rfl⟩)))
      rw [wV hP hu hx (ui hq (hP.ne u hu)) (ui hp (hP.ne x hx)),← h4]
      exact iC a2
     ·refine ag ⟨a2,rfl,fun j hj => ?_⟩;rcases Nat.lt_or_ge j m with h5 | h5
      ·exact hno j h5
      ·have:j=m:=by omega
       subst this;exact h4
    ·have:m=l.length:=by omega
     subst this;refine aj (by omega) ?_;refine bA (hW x hx) ?_;refine aj (by omega) ?_
     rw [Gh]
     refine aD (aD (ag ⟨some (some x),⟨h0,hx,hp,fun hmem => ?_⟩,rfl⟩));obtain ⟨j,hj,e⟩:=yg hmem;exact hno j hj e
 ·exact aD (ag ⟨none,by show rest.length=0; omega,rfl⟩)
end
end Go.Proofs.YtfpeabnehpclnaaGreatT
namespace Go.Proofs.YtfpeabnehpclnaaGreatT
open Go Go.Proofs Go.Proofs.YtfpeabnehpclnaaGreatE
set_option linter.unusedVariables false
set_option linter.unusedSimpArgs false
def Pm (O:List Int) (W:Int→List Int) (base m:List Int):Prop:=(∀ t ∈ m,t ∈ O)∧m.Nodup∧base=m.flatMap W
def CS (O:List Int) (W:Int→List Int) (base:List Int) (r:List Int×Bool):Prop:=(r.2=true∧Pm O W base r.1)∨(r=([],false)∧∀ m,¬ Pm O W base m)
section
variable {O:List Int} {W:Int→List Int} {rest l:List Int}
theorem Qc (hP:Parts O W) {m:List Int} (hm:∀ t ∈ m,t ∈ O) (hr:0 < rest.length) (e:rest=m.flatMap W):∃ u m',m=u::m'∧u ∈ O∧W u <+: rest∧idx (W u) 0=idx rest 0:=by
 cases m with
 | nil=>rw [e] at hr; simp at hr
 | cons u m' =>
  have hu:=hm u (by simp);have hp:W u <+: rest:=⟨m'.flatMap W,by rw [e,List.flatMap_cons]⟩
  exact ⟨u,m',rfl,hu,hp,ui hp (hP.ne u hu)⟩
theorem Gj (hP:Parts O W) {h:History} {a:Ask} (hW:∀ t ∈ O,bf h t a.Key=some (W t)) (ho:bv h a=some O) (hb:a.Base.length≤64) :
  ∃ r,gm a.Base (Fj O W)=some r∧bO h a=some r∧CS O W a.Base r:=by
 have key:Tri (gm a.Base (Fj O W)) (fun r=>Tri (iter (lG h a O) ([],a.Base)) (fun r'=>r=r'∧CS O W a.Base r)):=by
  unfold gm;refine Gv (k0:=0) a.Base.length (fun (k:Nat) (s t:List Int×List Int)=>s.1=t.2∧s.2=t.1∧s.1.length + k≤a.Base.length∧s.2.length≤k∧(∀ t ∈ s.2,t ∈ O)∧s.2.Nodup∧a.Base=s.2.flatMap W++s.1∧∀ m,Pm O W a.Base m→∃ m',m=s.2++m')
   (Nat.zero_le _) ⟨rfl,rfl,Nat.le_refl _,Nat.le_refl _,fun t h=>(nomatch h),List.nodup_nil,by simp,fun m _=>⟨m,rfl⟩⟩ ?_
  rintro k ⟨rest,l⟩ ⟨l',rest'⟩ hk ⟨e1,e2,i1,i2,i3,i4,i5,i6⟩
  dsimp only at e1 e2 i1 i2 i3 i4 i5 i6
  subst e1 e2;refine gX (Qb hP (by omega) (by omega)) ?_;rintro x ⟨o,hs,rfl⟩;refine gX (RL hP hW (by omega) (by omega)) ?_;rintro y ⟨o',hs',rfl⟩;obtain rfl:=Stp.det hP hs hs';have nxt:∀ m,Pm O W a.Base m→0 < rest.length→∃ u m',m=l++u::m'∧u ∈ O∧W u <+: rest∧idx (W u) 0=idx rest 0:=by
   intro m hm hr;obtain ⟨m',rfl⟩:=i6 m hm;obtain ⟨h1,h2,h3⟩:=hm
   rw [i5,List.flatMap_append,List.append_cancel_left_eq] at h3
   obtain ⟨u,m2,rfl,q1,q2,q3⟩:=Qc hP (fun t ht=>h1 t (List.mem_append_right _ ht)) hr h3;exact ⟨u,m2,rfl,q1,q2,q3⟩
  match o,hs with
  | none,hs =>
   refine ⟨rfl,.inl ⟨rfl,i3,i4,?_⟩⟩
   rw [i5,List.length_eq_zero_iff.1 (show rest.length=0 from hs),List.append_nil]
  | some none,hs =>
   refine ⟨rfl,.inr ⟨rfl,fun m hm => ?_⟩⟩;obtain ⟨u,m',rfl,q1,q2,q3⟩:=nxt m hm hs.1;have:=(List.nodup_append.1 hm.2.1).2.2;exact this u (hs.2 u q1 q2) u (by simp) rfl
  | some (some t),⟨s1,s2,s3,s4⟩ =>
   have h1:=hP.ne t s2;have h2:=s3.length_le;refine ⟨by omega,rfl,rfl,by rw [List.length_drop]; omega,by rw [List.length_append,List.length_singleton]; omega,fun u hu => ?_,?_,?_,fun m hm => ?_⟩
   ·rcases List.mem_append.1 hu with hu | hu
    ·exact i3 u hu
    ·rw [List.mem_singleton.1 hu]; exact s2
   ·rw [List.nodup_append]
    refine ⟨i4,List.nodup_cons.2 ⟨by simp,List.nodup_nil⟩,fun u hu v hv => ?_⟩
    rw [List.mem_singleton.1 hv]
    intro e;exact s4 (e ▸ hu)
   ·dsimp only
    rw [List.flatMap_append,List.append_assoc,i5]
    congr 1
    rw [List.flatMap_cons,List.flatMap_nil,List.append_nil]
    obtain ⟨z,hz⟩:=s3
    rw [← hz,List.drop_left]
   ·obtain ⟨u,m',rfl,q1,q2,q3⟩:=nxt m hm s1;have:=wV hP q1 s2 q3 (ui s3 h1);subst this;exact ⟨m',by simp⟩
 obtain ⟨r,hr,r',hr',rfl,ht⟩:=key;refine ⟨r,hr,?_,ht⟩;unfold bO
 rw [ho]
 exact hr'
end
end Go.Proofs.YtfpeabnehpclnaaGreatT
namespace Go.Proofs.YtfpeabnehpclnaaGreatT
open Go Go.Proofs Go.Proofs.YtfpeabnehpclnaaGreatE
set_option linter.unusedVariables false
set_option linter.unusedSimpArgs false
theorem Du {l:List Int}:∀ {m:List Int},l.Nodup→(∀ x ∈ l,x ∈ m)→l.length≤m.length:=by
 induction l with
 | nil=>intro m _ _; simp
 | cons x l ih =>
  intro m hn hs;obtain ⟨h1,h2⟩:=List.nodup_cons.1 hn;have hx:=hs x (by simp);have:=ih (m:=m.erase x) h2 (fun y hy=>(List.mem_erase_of_ne (fun (e:y=x)=>h1 (e ▸ hy))).2 (hs y (by simp [hy])))
  rw [List.length_erase_of_mem hx] at this
  have:0 < m.length:=List.length_pos_of_mem hx
  simp
  omega
def keysOf (m:List (Int×Unit)):List Int:=m.map (·.1)
theorem Kv {m:List (Int×Unit)} {x:Int}:kZ m x=true↔x ∈ keysOf m:=by
 unfold kZ keysOf
 simp [List.any_eq_true]
theorem Gl {x:Int}:∀ {m:List (Int×Unit)},keysOf (Hy m x)=(keysOf m).erase x
 | []=>rfl
 | p::m=>by
  unfold Hy keysOf
  rw [List.map_cons,List.erase_cons]
  by_cases e:p.1=x
  ·simp [e]
  ·rw [if_neg e,if_neg (by simpa using e),List.map_cons]
   congr 1
   exact Gl
theorem Kw {x:Int}:∀ {m:List (Int×Unit)},x ∉ keysOf m→keysOf (iB m x ())=keysOf m++[x]
 | [],_=>rfl
 | p::m,h=>by
  have h1:¬ p.1=x:=fun e=>h (by simp [keysOf,e]);have h2:x ∉ keysOf m:=fun h'=>h (by simp only [keysOf,List.map_cons,List.mem_cons]; exact .inr h');unfold iB
  rw [if_neg h1]
  show p.1::keysOf (iB m x ())=p.1::keysOf m++[x]
  rw [Kw h2]
  rfl
def cnt (base w:List Int):Nat:=(w.filter (fun v=>decide (v ∈ base))).length
theorem IQ {base w:List Int}:cnt base w≤w.length:=List.length_filter_le _ _
theorem MN {base w:List Int} {i:Nat} (hi:i < w.length):cnt base (w.take (i + 1))=if idx w (i:Int) ∈ base then cnt base (w.take i) + 1 else cnt base (w.take i):=by
 unfold cnt
 rw [List.take_succ_eq_append_getElem hi,List.filter_append,List.length_append,(dJ (n:=i) rfl hi:idx w (i:Int)=w[i])]
 by_cases h:w[i] ∈ base <;> simp [h]
def Whole (O:List Int) (W:Int→List Int) (base:List Int):Prop:=(∀ t ∈ O,cnt base (W t)=0∨cnt base (W t)=(W t).length)∧∀ v ∈ base,∃ t ∈ O,v ∈ W t
def AV (O:List Int) (W:Int→List Int) (base:List Int):List Int:=O.filter (fun t=>decide (0 < cnt base (W t)))
def uy (O:List Int) (W:Int→List Int) (base:List Int) (r:List Int×Bool):Prop:=(r=(AV O W base,true)∧Whole O W base)∨(r=([],false) ∧ ¬ Whole O W base)
theorem uy.det {O:List Int} {W:Int→List Int} {base:List Int} {r s:List Int×Bool} (h1:uy O W base r) (h2:uy O W base s):r=s:=by
 rcases h1 with ⟨rfl,h1⟩ | ⟨rfl,h1⟩ <;> rcases h2 with ⟨rfl,h2⟩ | ⟨rfl,h2⟩
 ·rfl
 ·exact absurd h1 h2
 ·exact absurd h2 h1
 ·rfl
section
variable {O:List Int} {W:Int→List Int} {base:List Int}
theorem IR {k:Nat} (hk:k < O.length):AV (O.take (k + 1)) W base=if 0 < cnt base (W (idx O (k:Int))) then AV (O.take k) W base++[idx O (k:Int)] else AV (O.take k) W base:=by
 unfold AV
 rw [List.take_succ_eq_append_getElem hk,List.filter_append,(dJ (n:=k) rfl hk:idx O (k:Int)=O[k])]
 by_cases h:0 < cnt base (W O[k]) <;> simp [h]
theorem Ky {k:Nat}:(AV (O.take k) W base).length≤O.length:=Nat.le_trans (List.length_filter_le _ _) (by rw [List.length_take]; omega)
theorem Lh {i j:Nat} (hn:O.Nodup) (hi:i < O.length) (hj:j < O.length) (e:idx O (i:Int)=idx O (j:Int)):i=j:=by
 rw [dJ (n:=i) rfl hi,dJ (n:=j) rfl hj] at e
 have hp:=List.pairwise_iff_getElem.1 hn;rcases Nat.lt_trichotomy i j with h | h | h
 ·exact absurd e (hp i j hi hj h)
 ·exact h
 ·exact absurd e.symm (hp j i hj hi h)
theorem RN (hP:Parts O W) (hO:O.Nodup) (hb:base.length≤64) (hn:base.Nodup):Tri (dD base (Fj O W)) (uy O W base):=by
 have hol:=hP.ol;unfold dD;refine bX (k0:=0) base.length (fun k s=>s.2=(k:Int)∧keysOf s.1=base.take k) (Nat.zero_le _) ⟨rfl,rfl⟩ ?_;rintro k ⟨m,x⟩ hk ⟨e,hm⟩
 dsimp only at e hm
 subst e;have hw:w64 ((k:Int) + 1)=((k + 1:Nat):Int):=aZ (by omega);unfold zQ
 dsimp only
 rw [hw]
 refine aA (fun a3 => ?_) (fun a3 => ?_)
 ·have a1:k < base.length:=by omega
  refine aj (by omega) (ag ⟨a1,rfl,?_⟩);have hni:idx base (k:Int) ∉ keysOf m:=by
   rw [hm]
   intro h;obtain ⟨i,hi,e⟩:=List.mem_take_iff_getElem.1 h;have:=Lh (i:=i) (j:=k) hn (by omega) a1 ((dJ rfl (by omega)).trans e)
   omega
  dsimp only
  rw [Kw hni,hm,List.take_succ_eq_append_getElem a1,(dJ (n:=k) rfl a1:idx base (k:Int)=base[k])]
 ·have:k=base.length:=by omega
  subst this
  rw [List.take_length] at hm
  refine bX (k0:=0) O.length (fun k s=>s.1=AV (O.take k) W base∧(keysOf s.2.1).Nodup∧(∀ v,v ∈ keysOf s.2.1↔v ∈ base∧∀ j:Nat,j < k→v ∉ W (idx O (j:Int)))∧s.2.2=(k:Int)∧∀ j:Nat,j < k→cnt base (W (idx O (j:Int)))=0∨cnt base (W (idx O (j:Int)))=(W (idx O (j:Int))).length)
   (Nat.zero_le _) ⟨by simp [AV],by rw [hm]; exact hn,fun v=>by rw [hm]; exact ⟨fun h=>⟨h,fun j h=>absurd h (Nat.not_lt_zero _)⟩,fun h=>h.1⟩,rfl,fun j h=>absurd h (Nat.not_lt_zero _)⟩ ?_
  rintro k ⟨l,m,x⟩ hk ⟨e1,e2,e3,e4,e5⟩
  dsimp only at e1 e2 e3 e4 e5
  subst e1 e4;have hw:w64 ((k:Int) + 1)=((k + 1:Nat):Int):=aZ (by omega);have hsl:=Ky (O:=O) (W:=W) (base:=base) (k:=k);unfold zP
  dsimp only
  rw [AU]
  refine aA (fun a3 => ?_) (fun a3 => ?_)
  ·have a1:k < O.length:=by omega
   refine aj (by omega) ?_;have ht:=iC a1;have hss:=IR (W:=W) (base:=base) a1;generalize hg:idx O (k:Int)=t at ht hss;have hwl:=hP.wl t ht;have hwn:=hP.nd t ht;refine bX (k0:=0) (W t).length (fun i s=>(keysOf s.1).Nodup∧(∀ v,v ∈ keysOf s.1↔(v ∈ base∧∀ j:Nat,j < k→v ∉ W (idx O (j:Int)))∧v ∉ (W t).take i)∧s.2.1=(cnt base ((W t).take i):Int)∧s.2.2=(i:Int))
    (Nat.zero_le _) ⟨e2,fun v=>⟨fun h=>⟨(e3 v).1 h,by simp⟩,fun h=>(e3 v).2 h.1⟩,by simp [cnt],rfl⟩ ?_
   rintro i ⟨m2,c,x⟩ hi ⟨f1,f2,f3,f4⟩
   dsimp only at f1 f2 f3 f4
   subst f3 f4;have hcl:cnt base ((W t).take i)≤i:=Nat.le_trans IQ (by rw [List.length_take]; omega);have a6:w64 ((i:Int) + 1)=((i + 1:Nat):Int):=aZ (by omega);have a9:w64 ((cnt base ((W t).take i):Int) + 1)=((cnt base ((W t).take i) + 1:Nat):Int):=aZ (by omega);unfold zO xk xm xh
   dsimp only
   rw [a6,a9,Dt a1,hg]
   dsimp only
   refine aA (fun a5 => ?_) (fun a5 => ?_)
   ·have a2:i < (W t).length:=by omega
    refine aj (by omega) ?_;have hct:=MN (base:=base) a2;have hmem:∀ v,v ∈ (W t).take (i + 1)↔v ∈ (W t).take i∨v=idx (W t) (i:Int):=by
     intro v
     rw [List.take_succ_eq_append_getElem a2,(dJ (n:=i) rfl a2:idx (W t) (i:Int)=(W t)[i]),List.mem_append,List.mem_singleton]
    have hni:idx (W t) (i:Int) ∉ (W t).take i:=by
     intro h;obtain ⟨j,hj,e⟩:=List.mem_take_iff_getElem.1 h;have:=Lh (i:=j) (j:=i) hwn (by omega) a2 ((dJ rfl (by omega)).trans e)
     omega
    have hout:∀ j:Nat,j < k→idx (W t) (i:Int) ∉ W (idx O (j:Int)):=by
     intro j hj h;have:=hP.ap _ (iC (show j < O.length by omega)) t ht _ h (iC a2)
     rw [← hg] at this
     have:=Lh hO (by omega) a1 this
     omega
    have a4:idx (W t) (i:Int) ∈ keysOf m2↔idx (W t) (i:Int) ∈ base:=by
     rw [f2]
     exact ⟨fun h=>h.1.1,fun h=>⟨⟨h,hout⟩,hni⟩⟩
    cases hmh:kZ m2 (idx (W t) (i:Int))
    ·have hnb:idx (W t) (i:Int) ∉ base:=fun h=>by rw [Kv.2 (a4.2 h)] at hmh; cases hmh
     rw [cond_false]
     refine ag ⟨a2,f1,fun v => ?_,?_,rfl⟩
     ·dsimp only
      rw [f2,hmem]
      constructor
      ·rintro ⟨h1,h2⟩;refine ⟨h1,?_⟩;rintro (h3 | h3)
       ·exact h2 h3
       ·subst h3;exact hnb h1.1
      ·rintro ⟨h1,h2⟩;exact ⟨h1,fun h=>h2 (.inl h)⟩
     ·dsimp only
      rw [hct,if_neg hnb]
    ·have hib:idx (W t) (i:Int) ∈ base:=a4.1 (Kv.1 hmh)
     rw [cond_true]
     refine ag ⟨a2,?_,fun v => ?_,?_,rfl⟩
     ·dsimp only
      rw [Gl]
      exact f1.erase _
     ·dsimp only
      rw [Gl,List.Nodup.mem_erase_iff f1,f2,hmem]
      constructor
      ·rintro ⟨h1,h2,h3⟩;exact ⟨h2,fun h=>h.elim h3 h1⟩
      ·rintro ⟨h1,h2⟩;exact ⟨fun h=>h2 (.inr h),h1,fun h=>h2 (.inl h)⟩
     ·dsimp only
      rw [hct,if_pos hib]
   ·have:i=(W t).length:=by omega
    subst this
    rw [List.take_length] at f2 ⊢
    have hcw:cnt base (W t)≤(W t).length:=IQ;have fin:∀ (hc:cnt base (W t)=0∨cnt base (W t)=(W t).length) (l':List Int),l'=AV (O.take (k + 1)) W base→Upm O.length k (fun k s=>s.1=AV (O.take k) W base∧(keysOf s.2.1).Nodup∧(∀ v,v ∈ keysOf s.2.1↔v ∈ base∧∀ j:Nat,j < k→v ∉ W (idx O (j:Int)))∧s.2.2=(k:Int)∧∀ j:Nat,j < k→cnt base (W (idx O (j:Int)))=0∨cnt base (W (idx O (j:Int)))=(W (idx O (j:Int))).length) (uy O W base) (.inl (l',m2,((k + 1:Nat):Int))):=by
     intro hc l' hl';refine ⟨a1,hl',f1,fun v => ?_,rfl,fun j hj => ?_⟩
     ·dsimp only
      rw [f2]
      constructor
      ·rintro ⟨⟨h1,h2⟩,h3⟩;refine ⟨h1,fun j hj => ?_⟩;rcases Nat.lt_or_ge j k with h4 | h4
       ·exact h2 j h4
       ·have:j=k:=by omega
        subst this
        rw [hg]; exact h3
      ·rintro ⟨h1,h2⟩;exact ⟨⟨h1,fun j hj=>h2 j (by omega)⟩,by have:=h2 k (by omega); rwa [hg] at this⟩
     ·rcases Nat.lt_or_ge j k with h4 | h4
      ·exact e5 j h4
      ·have:j=k:=by omega
       subst this
       rw [hg]; exact hc
    have bad:¬ (cnt base (W t)=0∨cnt base (W t)=(W t).length)→uy O W base ([],false):=fun hc => .inr ⟨rfl,fun hW=>hc (hW.1 t ht)⟩
    rw [hw]
    refine aA (fun h1 => ?_) (fun h1 => ?_)
    ·refine aA (fun h2 => ?_) (fun h2 => ?_)
     ·exact aD (aD (aD (ag (bad (by omega)))))
     ·refine aA (fun h3 => ?_) (fun h3 => ?_)
      ·refine aj (by omega) ?_;refine aD (ag (fin (by omega) _ ?_))
       rw [hss,if_pos (by omega)]
      ·exact absurd h1 h3
    ·rw [cond_false]
     refine aA (fun h3=>absurd h3 h1) (fun h3 => ?_);refine aD (ag (fin (by omega) _ ?_))
     rw [hss,if_neg (by omega)]
  ·have:k=O.length:=by omega
   subst this
   rw [List.take_length]
   have hml:0 < m.length↔∃ v,v ∈ keysOf m:=by
    unfold keysOf;cases m with
    | nil=>simp
    | cons p m=>exact ⟨fun _=>⟨p.1,by simp⟩,fun _=>by simp⟩
   have hall:(∀ t ∈ O,cnt base (W t)=0∨cnt base (W t)=(W t).length):=by
    intro t ht;obtain ⟨j,hj,rfl⟩:=yg ht;exact e5 j hj
   refine aA (fun h1 => ?_) (fun h1 => ?_)
   ·refine aD (aD (ag (.inr ⟨rfl,fun hW => ?_⟩)));obtain ⟨v,hv⟩:=hml.1 (by omega);obtain ⟨b0,a7⟩:=(e3 v).1 hv;obtain ⟨t,ht,a8⟩:=hW.2 v b0;obtain ⟨j,hj,rfl⟩:=yg ht;exact a7 j hj a8
   ·refine aD (aD (ag (.inl ⟨rfl,hall,fun v hv => ?_⟩)))
    apply Classical.byContradiction
    intro hno;refine h1 ?_;have:=hml.2 ⟨v,(e3 v).2 ⟨hv,fun j hj h=>hno ⟨_,iC hj,h⟩⟩⟩
    omega
end
end Go.Proofs.YtfpeabnehpclnaaGreatT
namespace Go.Proofs.YtfpeabnehpclnaaGreatT
open Go Go.Proofs Go.Proofs.YtfpeabnehpclnaaGreatE
set_option linter.unusedVariables false
set_option linter.unusedSimpArgs false
theorem NY {l:List Int} {v:Int} (hl:l.length < 2 ^ 60):iw l v=some (decide (v ∈ l)):=by
 refine eH.1 ?_;unfold iw;refine bX (k0:=0) l.length (fun k s=>s=(k:Int)∧∀ j:Nat,j < k→idx l (j:Int)≠v) (Nat.zero_le _) ⟨rfl,fun j h=>absurd h (Nat.not_lt_zero _)⟩ ?_;rintro k s hk ⟨rfl,hno⟩;have hw:w64 ((k:Int) + 1)=((k + 1:Nat):Int):=aZ (by omega);unfold sw
 dsimp only
 rw [hw]
 refine aA (fun a2 => ?_) (fun a2 => ?_)
 ·have a1:k < l.length:=by omega
  refine aj (by omega) ?_;refine aA (fun h1 => ?_) (fun h1 => ?_)
  ·refine aD (ag ?_)
   show true=decide (v ∈ l)
   rw [eq_comm,decide_eq_true_iff,← h1]
   exact iC a1
  ·refine ag ⟨a1,rfl,fun j hj => ?_⟩;rcases Nat.lt_or_ge j k with h2 | h2
   ·exact hno j h2
   ·have:j=k:=by omega
    subst this;exact h1
 ·have:k=l.length:=by omega
  subst this;refine aD (ag ?_)
  show false=decide (v ∈ l)
  rw [eq_comm,decide_eq_false_iff_not]
  intro h;obtain ⟨j,hj,e⟩:=yg h;exact hno j hj e
section
variable {O:List Int} {W:Int→List Int} {base:List Int}
def hits (O:List Int) (W:Int→List Int) (base:List Int):List Int:=O.flatMap (fun t=>(W t).filter (fun v=>decide (v ∈ base)))
theorem Kz {k:Nat} (hk:k < O.length):(hits (O.take (k + 1)) W base).length=(hits (O.take k) W base).length + cnt base (W (idx O (k:Int))):=by
 unfold hits cnt
 rw [List.take_succ_eq_append_getElem hk,List.flatMap_append,List.length_append,(dJ (n:=k) rfl hk:idx O (k:Int)=O[k])]
 simp
theorem NZ (hP:Parts O W):∀ k,k≤O.length→(hits (O.take k) W base).length≤16 * k:=by
 intro k
 induction k with
 | zero=>intro _; simp [hits]
 | succ k ih =>
  intro hk
  rw [Kz (by omega)]
  have:=ih (by omega);have h1:=hP.wl _ (iC (show k < O.length by omega));have h2:cnt base (W (idx O (k:Int)))≤_:=IQ
  omega
theorem IU {v:Int}:v ∈ hits O W base↔∃ t ∈ O,v ∈ W t∧v ∈ base:=by
 unfold hits
 simp only [List.mem_flatMap,List.mem_filter,decide_eq_true_eq]
theorem Oa (hP:Parts O W) (hO:O.Nodup):(hits O W base).Nodup:=by
 unfold hits List.Nodup
 rw [List.pairwise_flatMap]
 refine ⟨fun t ht=>(hP.nd t ht).filter _,List.Pairwise.imp_of_mem (fun {t u} ht hu hne => ?_) hO⟩;intro x hx y hy e;subst e
 rw [List.mem_filter] at hx hy
 exact hne (hP.ap t ht u hu x hx.1 hy.1)
theorem Qd (hP:Parts O W) (hO:O.Nodup) (hn:base.Nodup):(hits O W base).length=base.length↔∀ v ∈ base,∃ t ∈ O,v ∈ W t:=by
 have hN:=Oa (base:=base) hP hO;have hS:∀ v ∈ hits O W base,v ∈ base:=fun v hv=>by obtain ⟨_,_,_,h⟩:=IU.1 hv; exact h
 constructor
 ·intro e v hv
  apply Classical.byContradiction
  intro hno;have h1:v ∉ hits O W base:=fun h=>by
   obtain ⟨t,ht,h2,_⟩:=IU.1 h;exact hno ⟨t,ht,h2⟩
  have:=Du (l:=v::hits O W base) (m:=base) (List.nodup_cons.2 ⟨h1,hN⟩) (fun x hx=>by
   rcases List.mem_cons.1 hx with rfl | hx
   ·exact hv
   ·exact hS x hx)
  simp at this
  omega
 ·intro hc;refine Nat.le_antisymm (Du hN hS) (Du hn (fun v hv => ?_));obtain ⟨t,ht,h⟩:=hc v hv;exact IU.2 ⟨t,ht,h,hv⟩
theorem TT {h:History} {a:Ask} (hP:Parts O W) (hO:O.Nodup) (hW:∀ t ∈ O,bf h t a.Key=some (W t)) (ho:bv h a=some O) (hb:a.Base.length≤64) (hn:a.Base.Nodup) :
  Tri (bI h a) (uy O W a.Base):=by
 have hol:=hP.ol;unfold bI;refine bA ho ?_;refine bX (k0:=0) O.length (fun k s=>s.1=AV (O.take k) W a.Base∧s.2.1=((hits (O.take k) W a.Base).length:Int)∧s.2.2=(k:Int)∧∀ j:Nat,j < k→cnt a.Base (W (idx O (j:Int)))=0∨cnt a.Base (W (idx O (j:Int)))=(W (idx O (j:Int))).length)
  (Nat.zero_le _) ⟨by simp [AV],by simp [hits],rfl,fun j h=>absurd h (Nat.not_lt_zero _)⟩ ?_
 rintro k ⟨l,n,x⟩ hk ⟨e1,e2,e4,e5⟩
 dsimp only at e1 e2 e4 e5
 subst e1 e2 e4;have hw:w64 ((k:Int) + 1)=((k + 1:Nat):Int):=aZ (by omega);have hsl:=Ky (O:=O) (W:=W) (base:=a.Base) (k:=k);have hsm:=NZ (base:=a.Base) hP k hk;unfold uI
 dsimp only
 refine aA (fun a7 => ?_) (fun a7 => ?_)
 ·have a1:k < O.length:=by omega
  refine aj (by omega) ?_;have ht:=iC a1;have hss:=IR (W:=W) (base:=a.Base) a1;have hhs:=Kz (W:=W) (base:=a.Base) a1;refine bA (hW _ ht) ?_;generalize hg:idx O (k:Int)=t at ht hss hhs;have hwl:=hP.wl t ht;refine bX (k0:=0) (W t).length (fun i s=>s.1=(cnt a.Base ((W t).take i):Int)∧s.2=(i:Int)) (Nat.zero_le _) ⟨by simp [cnt],rfl⟩ ?_
  rintro i ⟨c,x⟩ hi ⟨f3,f4⟩
  dsimp only at f3 f4
  subst f3 f4;have hcl:cnt a.Base ((W t).take i)≤i:=Nat.le_trans IQ (by rw [List.length_take]; omega);have a4:w64 ((i:Int) + 1)=((i + 1:Nat):Int):=aZ (by omega);have a5:w64 ((cnt a.Base ((W t).take i):Int) + 1)=((cnt a.Base ((W t).take i) + 1:Nat):Int):=aZ (by omega);unfold uH pX pY pW
  dsimp only
  rw [a4,a5,hg]
  refine aA (fun a3 => ?_) (fun a3 => ?_)
  ·have a2:i < (W t).length:=by omega
   refine aj (by omega) ?_;have hct:=MN (base:=a.Base) a2;refine bA (NY (by omega)) ?_;refine aA (fun h1 => ?_) (fun h1 => ?_)
   ·refine ag ⟨a2,?_,rfl⟩
    dsimp only
    rw [hct,if_pos h1]
   ·refine ag ⟨a2,?_,rfl⟩
    dsimp only
    rw [hct,if_neg h1]
  ·have:i=(W t).length:=by omega
   subst this
   rw [List.take_length]
   have hcw:cnt a.Base (W t)≤(W t).length:=IQ;have a6:w64 (((hits (O.take k) W a.Base).length:Int) + (cnt a.Base (W t):Int))=(((hits (O.take k) W a.Base).length + cnt a.Base (W t):Nat):Int):=by rw [pI (by omega) (by omega)]; omega
   have bad:¬ (cnt a.Base (W t)=0∨cnt a.Base (W t)=(W t).length)→uy O W a.Base ([],false):=fun hc => .inr ⟨rfl,fun hW=>hc (hW.1 t ht)⟩;have five:(cnt a.Base (W t)=0∨cnt a.Base (W t)=(W t).length)→∀ j:Nat,j < k + 1→cnt a.Base (W (idx O (j:Int)))=0∨cnt a.Base (W (idx O (j:Int)))=(W (idx O (j:Int))).length:=by
    intro hc j hj;rcases Nat.lt_or_ge j k with h4 | h4
    ·exact e5 j h4
    ·have:j=k:=by omega
     subst this
     rw [hg]; exact hc
   rw [hw,a6]
   refine aA (fun h1 => ?_) (fun h1 => ?_)
   ·refine aA (fun h2 => ?_) (fun h2 => ?_)
    ·exact aD (aD (ag (bad (by omega))))
    ·refine aA (fun h3 => ?_) (fun h3=>absurd h1 h3);refine aj (by omega) ?_;refine aD (ag ⟨a1,?_,?_,rfl,five (by omega)⟩)
     ·dsimp only
      rw [hss,if_pos (by omega)]
     ·dsimp only
      rw [hhs]
   ·rw [cond_false]
    refine aA (fun h3=>absurd h3 h1) (fun h3 => ?_);refine aD (ag ⟨a1,?_,?_,rfl,five (by omega)⟩)
    ·dsimp only
     rw [hss,if_neg (by omega)]
    ·dsimp only
     rw [hhs]
     omega
 ·have:k=O.length:=by omega
  subst this
  rw [List.take_length]
  have hall:(∀ t ∈ O,cnt a.Base (W t)=0∨cnt a.Base (W t)=(W t).length):=by
   intro t ht;obtain ⟨j,hj,rfl⟩:=yg ht;exact e5 j hj
  have hfull:=Qd hP hO hn;refine aA (fun h1 => ?_) (fun h1 => ?_)
  ·refine aD (ag (.inr ⟨rfl,fun hW => ?_⟩));have:=hfull.2 hW.2
   omega
  ·exact aD (ag (.inl ⟨rfl,hall,hfull.1 (by omega)⟩))
theorem IV {h:History} {a:Ask} (hP:Parts O W) (hO:O.Nodup) (hW:∀ t ∈ O,bf h t a.Key=some (W t)) (ho:bv h a=some O) (hb:a.Base.length≤64) (hn:a.Base.Nodup) :
  ∃ r,dD a.Base (Fj O W)=some r∧bI h a=some r∧uy O W a.Base r:=by
 obtain ⟨r,hr,h1⟩:=RN hP hO hb hn;obtain ⟨s,hs,h2⟩:=TT hP hO hW ho hb hn;obtain rfl:=h1.det h2;exact ⟨r,hr,hs,h1⟩
end
theorem JV {h:History} {key:Int} {k:Nat}:(gF h key k).Nodup:=by
 unfold gF List.Nodup
 rw [List.pairwise_map]
 refine ((List.nodup_range (n:=k)).filter _).imp (fun {a b} hne e=>hne (by omega))
theorem yh {h:History} {a:Ask} {k:Nat}:(mD h a k).Nodup:=JV.filter _
end Go.Proofs.YtfpeabnehpclnaaGreatT
namespace Go.Proofs.YtfpeabnehpclnaaGreatT
open Go Go.Proofs Go.Proofs.YtfpeabnehpclnaaGreatE
set_option linter.unusedVariables false
set_option linter.unusedSimpArgs false
def Ce (s:Int) (w:List Int):Int:=w.foldl (fun x v=>w64 (x + v)) s
theorem KA {s:Int} {w:List Int} {k:Nat} (hk:k < w.length):Ce s (w.take (k + 1))=w64 (Ce s (w.take k) + idx w (k:Int)):=by
 unfold Ce
 rw [List.take_succ_eq_append_getElem hk,List.foldl_append,(dJ (n:=k) rfl hk:idx w (k:Int)=w[k])]
 rfl
def Win (want:Int):List (List Int)→Int→(Nat→Prop)→Nat→Nat→Prop
 | [],s,p,_,j=>s=want∧p j
 | w::ls,s,p,i,j=>Win want ls s p (i + 1) j∨Win want ls (Ce s w) (fun j=>p j∨j=i) (i + 1) j
section
variable {O:List Int} {W:Int→List Int} {want:Int}
theorem Gm (hol:O.length≤32) (hwl:∀ t ∈ O,(W t).length≤16):∀ (k i:Nat),i≤O.length→O.length - i < k→∀ (sum tk wi:Int) (p q:Nat→Prop),Wd tk p→Wd wi q →
  Tri (iY k (i:Int) sum tk (Fj O W) want wi) (fun r=>Wd r (fun j=>q j∨Win want ((O.drop i).map W) sum p i j))
 | 0,i,_,hk=>by omega
 | k + 1,i,hi,hk=>by
  intro sum tk wi p q hp hq;have hw:w64 ((i:Int) + 1)=((i + 1:Nat):Int):=aZ (by omega);unfold iY mI
  rw [AU,hw]
  refine aA (fun h1 => ?_) (fun h1 => ?_)
  ·have:i=O.length:=by omega
   subst this
   rw [List.drop_length,List.map_nil]
   refine aA (fun h2 => ?_) (fun h2 => ?_)
   ·exact ag ((hq.or hp).congr fun j=>by show q j∨p j↔q j∨(sum=want∧p j); simp [h2])
   ·exact ag (hq.congr fun j=>by show q j↔q j∨(sum=want∧p j); simp [h2])
  ·have a1:i < O.length:=by omega
   have hd:(O.drop i).map W=W (idx O (i:Int))::(O.drop (i + 1)).map W:=by
    rw [List.drop_eq_getElem_cons a1,List.map_cons,(dJ (n:=i) rfl a1:idx O (i:Int)=O[i])]
   have a4:=hwl _ (iC a1);refine dZ (Gm hol hwl k (i + 1) (by omega) (by omega) sum tk wi p q hp hq) (fun y hy => ?_);refine aj (by omega) ?_;refine bX (k0:=0) (W (idx O (i:Int))).length (fun m s=>s.1=Ce sum ((W (idx O (i:Int))).take m)∧s.2=(m:Int)) (Nat.zero_le _) ⟨by simp [Ce],rfl⟩ ?_
   rintro m ⟨s,x⟩ hm ⟨f1,f2⟩
   dsimp only at f1 f2
   subst f1 f2;have a3:w64 ((m:Int) + 1)=((m + 1:Nat):Int):=aZ (by omega);unfold tQ
   dsimp only
   rw [Dt a1,a3,hw]
   dsimp only
   refine aA (fun h2 => ?_) (fun h2 => ?_)
   ·have a2:m < (W (idx O (i:Int))).length:=by omega
    refine aj (by omega) (ag ⟨a2,?_,rfl⟩)
    dsimp only
    rw [KA a2]
   ·have:m=(W (idx O (i:Int))).length:=by omega
    subst this
    rw [List.take_length]
    refine aj (by unfold far; omega) ?_;refine dZ (Gm hol hwl k (i + 1) (by omega) (by omega) _ _ y _ _ (hp.or (Wd.bit (n:=i) rfl (by omega))) hy) (fun z hz => ?_);refine aD (ag (hz.congr fun j => ?_))
    rw [hd]
    show (q j∨Win want _ sum p (i + 1) j)∨_↔q j∨Win want _ sum p (i + 1) j∨_
    exact or_assoc
def picks (O:List Int) (f:Nat→Prop) [DecidablePred f] (k:Nat):List Int:=((List.range k).filter (fun j=>decide (f j))).map (fun j:Nat=>idx O (j:Int))
theorem IW {f:Nat→Prop} [DecidablePred f] {k:Nat}:picks O f (k + 1)=if f k then picks O f k++[idx O (k:Int)] else picks O f k:=by
 unfold picks
 rw [List.range_succ,List.filter_append,List.map_append]
 by_cases h:f k <;> simp [h]
theorem Gn {f:Nat→Prop} [DecidablePred f] {k:Nat}:(picks O f k).length≤k:=by
 unfold picks
 rw [List.length_map]
 exact Nat.le_trans (List.length_filter_le _ _) (by simp)
open Classical in
theorem Li (hol:O.length≤32) (hwl:∀ t ∈ O,(W t).length≤16):fJ want (Fj O W)=some (picks O (Win want (O.map W) 0 (fun _=>False) 0) O.length):=by
 refine eH.1 ?_;unfold fJ bU;have:=Gm (want:=want) hol hwl 64 0 (Nat.zero_le _) (by omega) 0 0 0 _ _ Wd.zero Wd.zero;refine dZ this (fun y hy => ?_)
 rw [List.drop_zero] at hy
 replace hy:Wd y (Win want (O.map W) 0 (fun _=>False) 0):=hy.congr fun j=>by simp
 generalize Win want (O.map W) 0 (fun _=>False) 0=f at hy ⊢;refine bX (k0:=0) O.length (fun k s=>s=(picks O f k,(k:Int))) (Nat.zero_le _) (by simp [picks]) ?_;rintro k s hk rfl;have hw:w64 ((k:Int) + 1)=((k + 1:Nat):Int):=aZ (by omega);have hl:=Gn (O:=O) (f:=f) (k:=k);have hs:=IW (O:=O) (f:=f) (k:=k);unfold vv qU
 dsimp only
 rw [AU,hw]
 refine aA (fun h1 => ?_) (fun h1 => ?_)
 ·have a1:k < O.length:=by omega
  refine aj (by omega) (aj (by unfold far; omega) ?_)
  rw [Dt a1]
  rcases hy.look (i:=(k:Int)) (n:=k) rfl (by omega) with ⟨e,hf⟩ | ⟨e,hf⟩
  ·rw [e]
   refine aA (fun _ => ?_) (fun h=>absurd rfl h);refine aj (by omega) (ag ⟨a1,?_⟩)
   dsimp only
   rw [hs,if_pos hf]
  ·rw [e]
   refine aA (fun h=>absurd h (by decide)) (fun _ => ?_);refine ag ⟨a1,?_⟩
   dsimp only
   rw [hs,if_neg hf]
 ·have:k=O.length:=by omega
  subst this;exact aD (ag rfl)
end
end Go.Proofs.YtfpeabnehpclnaaGreatT
namespace Go.Proofs.YtfpeabnehpclnaaGreatT
open Go Go.Proofs Go.Proofs.YtfpeabnehpclnaaGreatE
set_option linter.unusedVariables false
set_option linter.unusedSimpArgs false
theorem wbm (x:Int):w64 x=Int.bmod x 18446744073709551616:=by
 unfold w64 IntKind.wrap
 simp only [IntKind.bits,IntKind.signed,Bool.true_and,Int.bmod_def]
 have h1:(2 ^ 64:Int)=18446744073709551616:=by decide
 have h2:=Int.emod_nonneg x (show (18446744073709551616:Int)≠0 by decide);have h3:=Int.emod_lt_of_pos x (show (0:Int) < 18446744073709551616 by decide)
 simp only [h1]
 by_cases h:x % 18446744073709551616 < 9223372036854775808
 ·rw [if_neg (by simp; omega),if_pos (by simp; omega)]
  rfl
 ·rw [if_pos (by simp; omega),if_neg (by simp; omega)]
  rfl
theorem TU (x y:Int):w64 (w64 x + y)=w64 (x + y):=by rw [wbm,wbm,wbm,Int.bmod_add_bmod]
theorem Vo (x y:Int):w64 (x + w64 y)=w64 (x + y):=by rw [Int.add_comm,TU,Int.add_comm]
theorem Gp:∀ (w:List Int) (s:Int),Ce (w64 s) w=w64 (s + w.sum)
 | [],s=>by simp [Ce]
 | v::w,s=>by
  show Ce (w64 (w64 s + v)) w=_
  rw [TU,Gp w,List.sum_cons,Int.add_assoc]
theorem Qe (w:List Int):Ce 0 w=w64 w.sum:=by
 have h:=Gp w 0
 rw [Int.zero_add] at h
 exact h
theorem Pn {m i:Nat} (hm:m < 2 ^ 62) (hi:i < 62):dm .i64 (fV .i64 (m:Int) (i:Int)) 1=if m.testBit i then 1 else 0:=by
 have h1:fV .i64 (m:Int) (i:Int)=((m >>> i:Nat):Int):=by
  unfold fV
  rw [show IntKind.bits .i64=64 from rfl,Int.toNat_natCast,Nat.min_eq_left (by omega),Nat.shiftRight_eq_div_pow]
  have:(2:Int) ^ i=((2 ^ i:Nat):Int):=(Int.natCast_pow 2 i).symm
  rw [this,Int.fdiv_eq_ediv_of_nonneg _ (Int.natCast_nonneg _)]
  exact (Int.natCast_ediv m (2 ^ i)).symm
 have h2:m >>> i < 2 ^ 62:=Nat.lt_of_le_of_lt (Nat.shiftRight_le _ _) hm;have h3:dm .i64 ((m >>> i:Nat):Int) ((1:Nat):Int)=(((m >>> i) &&& 1:Nat):Int):=by
  unfold dm
  rw [show IntKind.bits .i64=64 from rfl,BitVec.ofInt_natCast,BitVec.ofInt_natCast,BitVec.toNat_and,BitVec.toNat_ofNat,BitVec.toNat_ofNat,Nat.mod_eq_of_lt (by omega),Nat.mod_eq_of_lt (by decide)]
  have h4:(m >>> i) &&& 1≤1:=Nat.and_le_right;exact pI (by omega) (by omega)
 rw [h1,show (1:Int)=((1:Nat):Int) from rfl,h3,Pz]
 cases m.testBit i <;> rfl
theorem TV {n:Nat} (hn:n≤32):Hu .i64 1 (n:Int)=((2 ^ n:Nat):Int):=by
 unfold Hu
 rw [show IntKind.bits .i64=64 from rfl,Int.toNat_natCast,Nat.min_eq_left (by omega)]
 have h1:(1:Int) * 2 ^ n=((2 ^ n:Nat):Int):=by rw [Int.one_mul]; exact (Int.natCast_pow 2 n).symm
 rw [h1]
 have h2:2 ^ n≤2 ^ 32:=Nat.pow_le_pow_right (by decide) hn;generalize 2 ^ n=q at h2;exact pI (by omega) (by omega)
section
variable {O:List Int} {W:Int→List Int} {want:Int}
def wW (O:List Int) (W:Int→List Int) (f:Nat→Bool):Nat→Int
 | 0=>0
 | k + 1=>if f k then w64 (wW O W f k + Ce 0 (W (idx O (k:Int)))) else wW O W f k
theorem Dv {f:Nat→Bool} {k:Nat}:wW O W f (k + 1)=if f k then w64 (wW O W f k + Ce 0 (W (idx O (k:Int)))) else wW O W f k:=rfl
theorem RO {f:Nat→Bool}:∀ k,w64 (wW O W f k)=wW O W f k
 | 0=>rfl
 | k + 1=>by
  unfold wW
  split
  ·have h:=TU (wW O W f k + Ce 0 (W (idx O (k:Int)))) 0
   rw [Int.add_zero,Int.add_zero] at h
   exact h
  ·exact RO k
theorem BA {f g:Nat→Bool}:∀ k,(∀ a,a < k→f a=g a)→wW O W f k=wW O W g k
 | 0,_=>rfl
 | k + 1,h=>by
  unfold wW
  rw [h k (by omega),BA k (fun a ha=>h a (by omega))]
theorem Lj (f:Nat→Bool):∀ (d i j:Nat) (f:Nat→Bool) (p:Nat→Prop),i + d=O.length→(∀ a,p a↔a < i∧f a=true) →
  (Win want ((O.drop i).map W) (wW O W f i) p i j↔∃ g:Nat→Bool,(∀ a,a < i→g a=f a)∧wW O W g O.length=want∧j < O.length∧g j=true)
 | 0,i,j,f,p,e,hp=>by
  have:i=O.length:=by omega
  subst this
  rw [List.drop_length,List.map_nil]
  show (wW O W f O.length=want∧p j)↔_
  rw [hp j]
  constructor
  ·rintro ⟨h1,h2,h3⟩; exact ⟨f,fun a _=>rfl,h1,h2,h3⟩
  ·rintro ⟨g,h1,h2,h3,h4⟩
   rw [BA O.length h1] at h2
   exact ⟨h2,h3,(h1 j h3) ▸ h4⟩
 | d + 1,i,j,f,p,e,hp=>by
  have hi:i < O.length:=by omega
  have hd:(O.drop i).map W=W (idx O (i:Int))::(O.drop (i + 1)).map W:=by
   rw [List.drop_eq_getElem_cons hi,List.map_cons,(dJ (n:=i) rfl hi:idx O (i:Int)=O[i])]
  rw [hd]
  show Win want _ (wW O W f i) p (i + 1) j∨Win want _ (Ce (wW O W f i) (W (idx O (i:Int)))) (fun j=>p j∨j=i) (i + 1) j↔_
  have hag:∀ b:Bool,wW O W (fun a=>if a=i then b else f a) i=wW O W f i:=fun b=>BA i (fun a ha=>if_neg (by omega));have e0:wW O W (fun a=>if a=i then false else f a) (i + 1)=wW O W f i:=by
   rw [Dv,hag]
   simp
  have e1:wW O W (fun a=>if a=i then true else f a) (i + 1)=Ce (wW O W f i) (W (idx O (i:Int))):=by
   rw [Dv,hag,if_pos (if_pos rfl),← RO i,Gp,Qe,Vo,TU]
  have i0:=Lj f d (i + 1) j (fun a=>if a=i then false else f a) p (by omega) (fun a=>by
   rw [hp a]
   by_cases h:a=i
   ·subst h; simp
   ·simp only [if_neg h]
    constructor
    ·rintro ⟨h1,h2⟩; exact ⟨by omega,h2⟩
    ·rintro ⟨h1,h2⟩; exact ⟨by omega,h2⟩)
  have i1:=Lj f d (i + 1) j (fun a=>if a=i then true else f a) (fun j=>p j∨j=i) (by omega) (fun a=>by
   rw [hp a]
   by_cases h:a=i
   ·subst h; simp
   ·simp only [if_neg h,or_iff_left h]
    constructor
    ·rintro ⟨h1,h2⟩; exact ⟨by omega,h2⟩
    ·rintro ⟨h1,h2⟩; exact ⟨by omega,h2⟩)
  rw [e0] at i0
  rw [e1] at i1
  rw [i0,i1]
  constructor
  ·rintro (⟨g,h1,h2⟩ | ⟨g,h1,h2⟩)
   ·exact ⟨g,fun a ha=>by rw [h1 a (by omega),if_neg (by omega)],h2⟩
   ·exact ⟨g,fun a ha=>by rw [h1 a (by omega),if_neg (by omega)],h2⟩
  ·rintro ⟨g,h1,h2⟩;cases hgi:g i
   ·refine .inl ⟨g,fun a ha => ?_,h2⟩
    by_cases h:a=i
    ·subst h; rw [if_pos rfl,hgi]
    ·rw [if_neg h,h1 a (by omega)]
   ·refine .inr ⟨g,fun a ha => ?_,h2⟩
    by_cases h:a=i
    ·subst h; rw [if_pos rfl,hgi]
    ·rw [if_neg h,h1 a (by omega)]
theorem Po (g:Nat→Bool):∀ n:Nat,∃ m:Nat,m < 2 ^ n∧∀ a,a < n→m.testBit a=g a
 | 0=>⟨0,by decide,fun a h=>absurd h (Nat.not_lt_zero _)⟩
 | n + 1=>by
  obtain ⟨m,h1,h2⟩:=Po g n;have hp:2 ^ (n + 1)=2 ^ n + 2 ^ n:=by rw [Nat.pow_succ]; omega
  cases hg:g n
  ·refine ⟨m,by omega,fun a ha => ?_⟩
   by_cases h:a=n
   ·subst h; rw [hg]; exact Nat.testBit_lt_two_pow h1
   ·exact h2 a (by omega)
  ·refine ⟨2 ^ n + m,by omega,fun a ha => ?_⟩
   by_cases h:a=n
   ·subst h
    rw [Nat.testBit_two_pow_add_eq,hg,Nat.testBit_lt_two_pow h1]
    rfl
   ·rw [Nat.testBit_two_pow_add_gt (by omega)]
    exact h2 a (by omega)
def Msk (O:List Int) (W:Int→List Int) (want:Int) (m j:Nat):Prop:=wW O W m.testBit O.length=want∧m.testBit j=true
theorem RP {j:Nat} (hj:j < O.length):Win want (O.map W) 0 (fun _=>False) 0 j↔∃ m:Nat,1≤m∧m < 2 ^ O.length∧Msk O W want m j:=by
 have h:=Lj (O:=O) (W:=W) (want:=want) (fun _=>false) O.length 0 j (fun _=>false) (fun _=>False) (by omega) (fun a=>by simp)
 rw [List.drop_zero] at h
 refine Iff.trans h ?_
 constructor
 ·rintro ⟨g,_,h2,h3,h4⟩;obtain ⟨m,m1,m2⟩:=Po g O.length;refine ⟨m,?_,m1,?_,?_⟩
  ·apply Nat.lt_of_not_le
   intro h0;have:m=0:=by omega
   subst this
   rw [← m2 j hj,Nat.zero_testBit] at h4
   cases h4
  ·rw [BA O.length m2]; exact h2
  ·rw [m2 j hj]; exact h4
 ·rintro ⟨m,_,m1,m2,m3⟩;exact ⟨m.testBit,fun a ha=>absurd ha (Nat.not_lt_zero _),m2,hj,m3⟩
end
end Go.Proofs.YtfpeabnehpclnaaGreatT
namespace Go.Proofs.YtfpeabnehpclnaaGreatT
open Go Go.Proofs Go.Proofs.YtfpeabnehpclnaaGreatE
set_option linter.unusedVariables false
set_option linter.unusedSimpArgs false
theorem RQ {h:History} {t key:Int} {w:List Int} (hW:bf h t key=some w) (hl:w.length≤16):jh h t key=some (Ce 0 w):=by
 refine eH.1 ?_;unfold jh;refine bA hW ?_;refine bX (k0:=0) w.length (fun m s=>s.1=Ce 0 (w.take m)∧s.2=(m:Int)) (Nat.zero_le _) ⟨by simp [Ce],rfl⟩ ?_
 rintro m ⟨s,x⟩ hm ⟨f1,f2⟩
 dsimp only at f1 f2
 subst f1 f2;have a2:w64 ((m:Int) + 1)=((m + 1:Nat):Int):=aZ (by omega);unfold uG
 dsimp only
 rw [a2]
 refine aA (fun h2 => ?_) (fun h2 => ?_)
 ·have a1:m < w.length:=by omega
  refine aj (by omega) (ag ⟨a1,?_,rfl⟩)
  dsimp only
  rw [KA a1]
 ·have:m=w.length:=by omega
  subst this;exact aD (ag (by rw [List.take_length]; rfl))
section
variable {O:List Int} {W:Int→List Int}
open Classical in
theorem MO (hol:O.length≤32) (hwl:∀ t ∈ O,(W t).length≤16) {h:History} {a:Ask} (hW:∀ t ∈ O,bf h t a.Key=some (W t)) (ho:bv h a=some O) (hb:0 < a.Base.length) :
  aO h a=some (picks O (Win (idx a.Base 0) (O.map W) 0 (fun _=>False) 0) O.length):=by
 refine eH.1 ?_;have a5:2 ^ O.length≤2 ^ 32:=Nat.pow_le_pow_right (by decide) hol;have a4:0 < 2 ^ O.length:=Nat.two_pow_pos _;unfold aO;refine bA ho ?_;refine aj (by omega) ?_;have hfin:∀ j,j < O.length→(Win (idx a.Base 0) (O.map W) 0 (fun _=>False) 0 j↔∃ m:Nat,1≤m∧m < 2 ^ O.length∧Msk O W (idx a.Base 0) m j):=fun j hj=>RP hj;generalize Win (idx a.Base 0) (O.map W) 0 (fun _=>False) 0=f at hfin ⊢;have hshl:=TV hol;generalize 2 ^ O.length=N at a5 a4 hfin hshl;refine bX (k0:=1) N (fun m s=>s.1.length=O.length∧s.2=(m:Int)∧∀ j,j < O.length→(idx s.1 (j:Int)=true↔∃ m':Nat,1≤m'∧m' < m∧Msk O W (idx a.Base 0) m' j)) a4 ⟨by simp,rfl,fun j hj => ?_⟩ ?_
 ·dsimp only
  rw [Int.toNat_natCast,dJ (n:=j) rfl (by simpa using hj)]
  simp
  intro m' h1 h2
  omega
 rintro m ⟨ok,x⟩ hm ⟨e1,e2,e3⟩
 dsimp only at e1 e2 e3
 subst e2;unfold qP
 dsimp only
 rw [hshl]
 refine aj (by unfold far; omega) ?_;refine aA (fun h1 => ?_) (fun h1 => ?_)
 ·have a6:m < N:=by omega
  have hwm:w64 ((m:Int) + 1)=((m + 1:Nat):Int):=aZ (by omega);refine bX (k0:=0) O.length (fun i s=>s.1=wW O W m.testBit i∧s.2=(i:Int)) (Nat.zero_le _) ⟨rfl,rfl⟩ ?_;rintro i ⟨s,x⟩ hi ⟨f1,f2⟩
  dsimp only at f1 f2
  subst f1 f2;have hwi:w64 ((i:Int) + 1)=((i + 1:Nat):Int):=aZ (by omega);unfold qN mR
  dsimp only
  rw [hwi]
  refine aA (fun h2 => ?_) (fun h2 => ?_)
  ·have a1:i < O.length:=by omega
   refine aj (by unfold far; omega) ?_
   rw [Pn (by omega) (by omega)]
   cases hbit:m.testBit i
   ·refine aA (fun h3=>absurd h3 (by simp)) (fun _ => ?_);refine ag ⟨a1,?_,rfl⟩
    dsimp only
    rw [Dv,hbit]
    rfl
   ·refine aA (fun _ => ?_) (fun h3=>absurd (by simp) h3);refine aj (by omega) ?_;refine bA (RQ (hW _ (iC a1)) (hwl _ (iC a1))) (ag ⟨a1,?_,rfl⟩)
    dsimp only
    rw [Dv,hbit]
    rfl
  ·have:i=O.length:=by omega
   subst this;have fin:∀ l:List Bool,l.length=O.length→(∀ j,j < O.length→(idx l (j:Int)=true↔idx ok (j:Int)=true∨Msk O W (idx a.Base 0) m j)) →
     Upm N m (fun m s=>s.1.length=O.length∧s.2=(m:Int)∧∀ j,j < O.length→(idx s.1 (j:Int)=true↔∃ m':Nat,1≤m'∧m' < m∧Msk O W (idx a.Base 0) m' j)) (fun b=>b=picks O f O.length) (.inl (l,((m + 1:Nat):Int))):=by
    intro l hl hj;refine ⟨a6,hl,rfl,fun j a3 => ?_⟩
    dsimp only
    rw [hj j a3,e3 j a3]
    constructor
    ·rintro (⟨m',h1,h2,h3⟩ | h3)
     ·exact ⟨m',h1,by omega,h3⟩
     ·refine ⟨m,?_,by omega,h3⟩
      apply Nat.lt_of_not_le
      intro h0;have:m=0:=by omega
      subst this;have:=h3.2
      rw [Nat.zero_testBit] at this
      cases this
    ·rintro ⟨m',h1,h2,h3⟩;rcases Nat.lt_or_ge m' m with h4 | h4
     ·exact .inl ⟨m',h1,h4,h3⟩
     ·have:m'=m:=by omega
      subst this;exact .inr h3
   refine bX (k0:=0) O.length (fun i s=>s.1.length=O.length∧s.2=(i:Int)∧∀ j,j < O.length→(idx s.1 (j:Int)=true↔idx ok (j:Int)=true∨(wW O W m.testBit O.length=idx a.Base 0∧j < i∧m.testBit j=true))) (Nat.zero_le _)
    ⟨e1,rfl,fun j hj=>⟨fun h => .inl h,fun h=>h.elim id (fun h=>absurd h.2.1 (Nat.not_lt_zero _))⟩⟩ ?_
   rintro i ⟨l,x⟩ hi ⟨f1,f2,f3⟩
   dsimp only at f1 f2 f3
   subst f2;have hwi:w64 ((i:Int) + 1)=((i + 1:Nat):Int):=aZ (by omega);unfold qM mV mU
   dsimp only
   rw [hwi,hwm]
   refine aA (fun h3 => ?_) (fun h3 => ?_)
   ·have a1:i < O.length:=by omega
    refine aj (by omega) ?_;refine aA (fun h4 => ?_) (fun h4 => ?_)
    ·refine aj (by omega) ?_
     rw [Int.toNat_natCast,Pn (by omega) (by omega)]
     have step:∀ v:Bool,(v=true↔idx l (i:Int)=true∨m.testBit i=true)→∀ j,j < O.length→(idx (l.set i v) (j:Int)=true↔idx ok (j:Int)=true∨(wW O W m.testBit O.length=idx a.Base 0∧j < i + 1∧m.testBit j=true)):=by
      intro v hv j hj
      rw [xH (by omega)]
      by_cases e:j=i
      ·subst e
       rw [if_pos rfl,hv,f3 j hj]
       constructor
       ·rintro ((h | ⟨_,h,_⟩) | h)
        ·exact .inl h
        ·omega
        ·exact .inr ⟨h4,by omega,h⟩
       ·rintro (h | ⟨_,_,h⟩)
        ·exact .inl (.inl h)
        ·exact .inr h
      ·rw [if_neg e,f3 j hj]
       constructor
       ·rintro (h | ⟨h,h',h''⟩)
        ·exact .inl h
        ·exact .inr ⟨h,by omega,h''⟩
       ·rintro (h | ⟨h,h',h''⟩)
        ·exact .inl h
        ·exact .inr ⟨h,by omega,h''⟩
     cases hli:idx l (i:Int)
     ·rw [cond_false]
      refine aj (by unfold far; omega) (ag ⟨a1,by simp [f1],rfl,step _ ?_⟩)
      rw [hli]
      cases m.testBit i <;> simp
     ·rw [cond_true]
      refine ag ⟨a1,by simp [f1],rfl,step _ ?_⟩
      rw [hli]
      simp
    ·refine aD (aD (ag (fin l f1 fun j hj => ?_)))
     rw [f3 j hj]
     unfold Msk;exact or_congr Iff.rfl ⟨fun h=>absurd h.1 h4,fun h=>absurd h.1 h4⟩
   ·have:i=O.length:=by omega
    subst this
    rw [cond_false]
    refine aD (aD (ag (fin l f1 fun j hj => ?_)))
    rw [f3 j hj]
    unfold Msk;exact or_congr Iff.rfl ⟨fun h=>⟨h.1,h.2.2⟩,fun h=>⟨h.1,hj,h.2⟩⟩
 ·have hmN:m=N:=by omega
  subst hmN;have e4:∀ j,j < O.length→(idx ok (j:Int)=true↔f j):=fun j hj=>(e3 j hj).trans (hfin j hj).symm;refine bX (k0:=0) O.length (fun k s=>s=(picks O f k,(k:Int))) (Nat.zero_le _) (by simp [picks]) ?_;rintro k s hk rfl;have hw:w64 ((k:Int) + 1)=((k + 1:Nat):Int):=aZ (by omega);have hl:=Gn (O:=O) (f:=f) (k:=k);have hs:=IW (O:=O) (f:=f) (k:=k);unfold qO mW
  dsimp only
  rw [hw]
  refine aA (fun h1 => ?_) (fun h1 => ?_)
  ·have a2:k < O.length:=by omega
   refine aj (by omega) ?_;cases hok:idx ok (k:Int)
   ·rw [cond_false]
    refine ag ⟨a2,?_⟩
    dsimp only
    rw [hs,if_neg (fun hf=>by rw [(e4 k a2).2 hf] at hok; cases hok)]
   ·rw [cond_true]
    refine aj (by omega) (aj (by omega) (ag ⟨a2,?_⟩))
    dsimp only
    rw [hs,if_pos ((e4 k a2).1 hok)]
  ·have:k=O.length:=by omega
   subst this;exact aD (aD (ag rfl))
end
end Go.Proofs.YtfpeabnehpclnaaGreatT
namespace Go.Proofs.YtfpeabnehpclnaaGreatT
open Go Go.Proofs Go.Proofs.YtfpeabnehpclnaaGreatE
set_option linter.unusedVariables false
set_option linter.unusedSimpArgs false
def BQ (w:List Int):Int:=idx w ((w.length - 1:Nat):Int)
section
variable {O:List Int} {W:Int→List Int}
def lasts (O:List Int) (W:Int→List Int) (v:Int):List Int:=O.filter (fun t=>decide (BQ (W t)=v))
theorem IX {v:Int} {k:Nat} (hk:k < O.length):lasts (O.take (k + 1)) W v=if BQ (W (idx O (k:Int)))=v then lasts (O.take k) W v++[idx O (k:Int)] else lasts (O.take k) W v:=by
 unfold lasts
 rw [List.take_succ_eq_append_getElem hk,List.filter_append,(dJ (n:=k) rfl hk:idx O (k:Int)=O[k])]
 by_cases h:BQ (W O[k])=v <;> simp [h]
theorem KC {v:Int} {k:Nat}:(lasts (O.take k) W v).length≤O.length:=Nat.le_trans (List.length_filter_le _ _) (by rw [List.length_take]; omega)
theorem RS (hol:O.length≤32) (hne:∀ t ∈ O,0 < (W t).length) (hwl:∀ t ∈ O,(W t).length≤16) {a:Ask} (hb:0 < a.Base.length) :
  iter (qX a (Fj O W)) ([],0)=some (lasts O W (idx a.Base 0)):=by
 refine eH.1 ?_;refine bX (k0:=0) O.length (fun k s=>s.1=lasts (O.take k) W (idx a.Base 0)∧s.2=(k:Int)) (Nat.zero_le _) ⟨by simp [lasts],rfl⟩ ?_
 rintro k ⟨l,x⟩ hk ⟨e1,e2⟩
 dsimp only at e1 e2
 subst e1 e2;have hw:w64 ((k:Int) + 1)=((k + 1:Nat):Int):=aZ (by omega);have hl:=KC (O:=O) (W:=W) (v:=idx a.Base 0) (k:=k);unfold qX qW ig
 dsimp only
 rw [AU,hw]
 refine aA (fun h1 => ?_) (fun h1 => ?_)
 ·have a1:k < O.length:=by omega
  have h0:=hne _ (iC a1);have a2:=hwl _ (iC a1);have hs:=IX (W:=W) (v:=idx a.Base 0) a1
  rw [Dt a1]
  dsimp only
  have hp:w64 (((W (idx O (k:Int))).length:Int) - 1)=(((W (idx O (k:Int))).length - 1:Nat):Int):=pF (by omega) (by omega)
  rw [hp]
  refine aj (by omega) (aj (by omega) (aj (by omega) ?_));refine aA (fun h2 => ?_) (fun h2 => ?_)
  ·refine aj (by omega) (ag ⟨a1,?_,rfl⟩)
   dsimp only
   rw [hs,if_pos (show BQ _=_ from h2)]
  ·refine ag ⟨a1,?_,rfl⟩
   dsimp only
   rw [hs,if_neg (show ¬ BQ _=_ from h2)]
 ·have:k=O.length:=by omega
  subst this;exact aD (ag (by rw [List.take_length]; rfl))
theorem TW (hol:O.length≤32) (hne:∀ t ∈ O,0 < (W t).length) (hwl:∀ t ∈ O,(W t).length≤16) {h:History} {a:Ask} (hW:∀ t ∈ O,bf h t a.Key=some (W t)) (hb:0 < a.Base.length) :
  iter (rF h a O) ([],0)=some (lasts O W (idx a.Base 0)):=by
 refine eH.1 ?_;refine bX (k0:=0) O.length (fun k s=>s.1=lasts (O.take k) W (idx a.Base 0)∧s.2=(k:Int)) (Nat.zero_le _) ⟨by simp [lasts],rfl⟩ ?_
 rintro k ⟨l,x⟩ hk ⟨e1,e2⟩
 dsimp only at e1 e2
 subst e1 e2;have hw:w64 ((k:Int) + 1)=((k + 1:Nat):Int):=aZ (by omega);have hl:=KC (O:=O) (W:=W) (v:=idx a.Base 0) (k:=k);unfold rF rE jI
 dsimp only
 rw [hw]
 refine aA (fun h1 => ?_) (fun h1 => ?_)
 ·have a1:k < O.length:=by omega
  have h0:=hne _ (iC a1);have a2:=hwl _ (iC a1);have hs:=IX (W:=W) (v:=idx a.Base 0) a1;refine aj (by omega) (bA (hW _ (iC a1)) ?_);have hp:w64 (((W (idx O (k:Int))).length:Int) - 1)=(((W (idx O (k:Int))).length - 1:Nat):Int):=pF (by omega) (by omega)
  rw [hp]
  refine aj (by omega) (aj (by omega) ?_);refine aA (fun h2 => ?_) (fun h2 => ?_)
  ·refine aj (by omega) (ag ⟨a1,?_,rfl⟩)
   dsimp only
   rw [hs,if_pos (show BQ _=_ from h2)]
  ·refine ag ⟨a1,?_,rfl⟩
   dsimp only
   rw [hs,if_neg (show ¬ BQ _=_ from h2)]
 ·have:k=O.length:=by omega
  subst this;exact aD (ag (by rw [List.take_length]; rfl))
end
abbrev oth (h:History) (a:Ask):List Int:=mD h a h.Txns.length
abbrev wro (h:History) (a:Ask):Int→List Int:=fun t=>jA h t a.Key
open Classical in
def CU (h:History) (a:Ask) (ty:Int) (s:List Int):Prop :=
 if ty=4 then s=(if idx a.Base 0=0 then [-1] else [])++picks (oth h a) (Win (idx a.Base 0) ((oth h a).map (wro h a)) 0 (fun _=>False) 0) (oth h a).length
 else if a.Base.length=0 then s=[-1]
 else if ty=1 then s=lasts (oth h a) (wro h a) (idx a.Base 0)
 else if ty=2 then ∃ r,CS (oth h a) (wro h a) a.Base r∧s=if r.2=true then [BQ r.1] else []
 else ∃ r,uy (oth h a) (wro h a) a.Base r∧s=r.1
theorem Fp {h:History} (hS:fo h) (hc:aJ h=some 0) {a:Ask} {t p:Nat} (ha:GK h a t p) :
  ∃ s,bF h a=some s∧bN h a=some s∧CU h a (typ (opAt h (t:Int) (p:Int)).Kind) s:=by
 have a7:=hS.len;obtain ⟨k1,k8⟩:=Dq hS ha.tl ha.pl;have hT:gQ h a.Key=some (typ (opAt h (t:Int) (p:Int)).Kind):=Dr hS hc ha.tl ha.pl ha.e3.symm;have hK:=Kr hS ha.tl ha.pl ha.e1 ha.e2;have hF:dB h a=some (Fj (oth h a) (wro h a)):=CR hS hc;have hO:bv h a=some (oth h a):=CP hS;have hol:(oth h a).length≤32:=Nat.le_trans yf a7;have hmem:∀ u ∈ oth h a,∃ n:Nat,u=(n:Int)∧n < h.Txns.length∧0 < (wro h a u).length:=fun u hu=>by
  obtain ⟨⟨h0,h1,_,h3⟩,_⟩:=wU.1 hu;exact ⟨u.toNat,by omega,by omega,h3⟩
 have hwl:∀ u ∈ oth h a,(wro h a u).length≤16:=fun u hu=>by
  obtain ⟨n,rfl,hn,_⟩:=hmem u hu;exact Nat.le_trans GJ (hS.txn n hn).ops.1
 have hne:∀ u ∈ oth h a,0 < (wro h a u).length:=fun u hu=>by obtain ⟨n,_,_,h3⟩:=hmem u hu; exact h3
 have hW:∀ u ∈ oth h a,bf h u a.Key=some (wro h a u):=fun u hu=>by
  obtain ⟨n,rfl,hn,_⟩:=hmem u hu;exact yP ⟨by omega,by omega⟩ (hS.txn n hn).ops.1
 have hP:=fun a8=>IP (a:=a) hS ha a8;have a4:=ha.b64;have a6:=ha.b4;have a5:=ha.b3;have hty:typ (opAt h (t:Int) (p:Int)).Kind=1∨typ (opAt h (t:Int) (p:Int)).Kind=2∨typ (opAt h (t:Int) (p:Int)).Kind=3∨typ (opAt h (t:Int) (p:Int)).Kind=4:=by unfold typ; omega
 generalize typ (opAt h (t:Int) (p:Int)).Kind=ty at hT hK a6 a5 hty hP;have bz:0 < a.Base.length→((a.Base.length:Int) == 0)=false:=fun h=>by rw [beq_eq_false_iff_ne]; omega
 have b0:a.Base.length=0→((a.Base.length:Int) == 0)=true:=fun h=>by rw [beq_iff_eq]; omega
 unfold bF bN jg
 simp only [hT,hK,hF,hO,Option.bind_some]
 by_cases h0:a.Base.length=0∧ty≠4
 ·obtain ⟨h0,h4⟩:=h0;refine ⟨[-1],?_,?_,?_⟩
  ·rw [b0 h0,beq_eq_false_iff_ne.2 h4]; rfl
  ·rw [b0 h0,beq_eq_false_iff_ne.2 h4]; rfl
  ·unfold CU; rw [if_neg h4,if_pos h0]
 ·rcases hty with rfl | rfl | rfl | rfl
  ·have hb:0 < a.Base.length:=by omega
   rw [bz hb]
   refine ⟨lasts (oth h a) (wro h a) (idx a.Base 0),RS (W:=wro h a) hol hne hwl (a:=a) hb,TW (W:=wro h a) hol hne hwl hW hb,?_⟩;unfold CU
   rw [if_neg (by decide),if_neg (by omega),if_pos rfl]
  ·have hb:0 < a.Base.length:=by omega
   rw [bz hb]
   obtain ⟨⟨l,b⟩,a2,a3,a1⟩:=Gj (hP (.inl rfl)) hW hO a4;have hsrc:CU h a 2 (if b=true then [BQ l] else []):=by
    unfold CU
    rw [if_neg (by decide),if_neg (by omega),if_neg (by decide),if_pos rfl]
    exact ⟨_,a1,rfl⟩
   refine ⟨_,?_,?_,hsrc⟩
   ·rw [a2]
    refine eH.1 ?_
    show Tri (bif b then _ else _) _
    cases b
    ·exact ag rfl
    ·have hl:0 < l.length∧l.length≤32:=by
      rcases a1 with ⟨_,h1,h2,h3⟩ | ⟨h1,_⟩
      ·refine ⟨?_,Nat.le_trans (Du h2 h1) hol⟩
       apply Nat.lt_of_not_le
       intro hle;have:l=[]:=List.length_eq_zero_iff.1 (by omega);subst this
       rw [h3] at hb
       simp at hb
      ·cases h1
     have hp:w64 ((l.length:Int) - 1)=((l.length - 1:Nat):Int):=pF (by omega) (by omega)
     dsimp only
     rw [hp]
     refine aj (by omega) (ag ?_)
     rw [Gh]
     show l.drop (l.length - 1)=[BQ l]
     rw [List.drop_eq_getElem_cons (by omega),List.drop_eq_nil_of_le (by omega)]
     unfold BQ
     rw [dJ (n:=l.length - 1) rfl (by omega)]
   ·rw [a3]
    refine eH.1 ?_
    show Tri (bif b then _ else _) _
    cases b
    ·exact ag rfl
    ·have hl:0 < l.length∧l.length≤32:=by
      rcases a1 with ⟨_,h1,h2,h3⟩ | ⟨h1,_⟩
      ·refine ⟨?_,Nat.le_trans (Du h2 h1) hol⟩
       apply Nat.lt_of_not_le
       intro hle;have:l=[]:=List.length_eq_zero_iff.1 (by omega);subst this
       rw [h3] at hb
       simp at hb
      ·cases h1
     have hp:w64 ((l.length:Int) - 1)=((l.length - 1:Nat):Int):=pF (by omega) (by omega)
     dsimp only
     rw [hp]
     exact aj (by omega) (aj (by omega) (ag rfl))
  ·have hb:0 < a.Base.length:=by omega
   rw [bz hb]
   obtain ⟨⟨l,b⟩,a2,a3,a1⟩:=IV (hP (.inr rfl)) yh hW hO a4 (a5 rfl);have hsrc:CU h a 3 l:=by
    unfold CU
    rw [if_neg (by decide),if_neg (by omega),if_neg (by decide),if_neg (by decide)]
    exact ⟨_,a1,rfl⟩
   refine ⟨_,?_,?_,hsrc⟩
   ·rw [a2]; rfl
   ·rw [a3]
    refine eH.1 ?_
    show Tri (bif b then _ else _) _
    cases b
    ·refine ag ?_;rcases a1 with ⟨h1,_⟩ | ⟨h1,_⟩
     ·cases h1
     ·cases h1; rfl
    ·exact ag rfl
  ·classical
   have hb:0 < a.Base.length:=by have:=a6 rfl; omega
   have hcc:=Li (W:=wro h a) (want:=idx a.Base 0) hol hwl;have hcr:=MO (W:=wro h a) hol hwl hW hO hb;generalize hpk:picks (oth h a) (Win (idx a.Base 0) ((oth h a).map (wro h a)) 0 (fun _=>False) 0) (oth h a).length=pk at hcc hcr;have hpl:pk.length≤32:=by rw [← hpk]; exact Nat.le_trans Gn hol
   have hsrc:CU h a 4 ((if idx a.Base 0=0 then [-1] else [])++pk):=by
    unfold CU
    rw [if_pos rfl,← hpk]
   refine ⟨_,?_,?_,hsrc⟩
   ·refine eH.1 ?_;unfold qV ig
    simp only [hF,hcc,Option.bind_some]
    refine aj (by omega) ?_;refine aA (fun h1 => ?_) (fun h1 => ?_)
    ·refine aj (by omega) (aj (by omega) (aj ?_ (ag ?_)))
     ·simp only [List.length_append,List.length_singleton,List.length_nil]; omega
     ·rw [if_pos h1]; rfl
    ·refine aj (by omega) (aj ?_ (ag ?_))
     ·simp only [List.length_nil]; omega
     ·rw [if_neg h1]
   ·refine eH.1 ?_;unfold rD
    simp only [hcr,Option.bind_some]
    refine aj (by omega) ?_;refine aA (fun h1 => ?_) (fun h1 => ?_)
    ·refine aj (by omega) (ag ?_)
     rw [if_pos h1]
    ·refine ag ?_
     rw [if_neg h1]; rfl
end Go.Proofs.YtfpeabnehpclnaaGreatT
namespace Go.Proofs.YtfpeabnehpclnaaGreatT
open Go Go.Proofs Go.Proofs.YtfpeabnehpclnaaGreatE
set_option linter.unusedVariables false
set_option linter.unusedSimpArgs false
noncomputable def nk (h:History) (a:Ask):List Int:=(bF h a).getD []
theorem Dw {h:History} (hS:fo h) (hc:aJ h=some 0) {a:Ask} (ha:a ∈ bn h h.Txns.length):bF h a=some (nk h a)∧bN h a=some (nk h a):=by
 obtain ⟨t,p,hk⟩:=Ex hS ha;obtain ⟨s,h1,h2,_⟩:=Fp hS hc hk;unfold nk
 rw [h1,h2]
 exact ⟨rfl,rfl⟩
def isEmpty (h:History) (a:Ask):Prop:=nk h a=[]
open Classical in
noncomputable def empties (h:History) (l:List Ask):List Ask:=l.filter (fun a=>decide (isEmpty h a))
theorem sI {l:List Ask} {j:Nat} (hj:j < l.length):idx l (j:Int) ∈ l:=by rw [dJ (n:=j) rfl hj]; exact List.getElem_mem _
theorem tu {h:History} {l:List Ask} {k:Nat} (hk:k < l.length):(isEmpty h (idx l (k:Int))→empties h (l.take (k + 1))=empties h (l.take k)++[idx l (k:Int)])∧(¬ isEmpty h (idx l (k:Int))→empties h (l.take (k + 1))=empties h (l.take k)):=by
 unfold empties
 rw [List.take_succ_eq_append_getElem hk,List.filter_append,(dJ (n:=k) rfl hk:idx l (k:Int)=l[k])]
 constructor <;> intro h1 <;> simp [h1]
theorem MP {h:History} {l:List Ask} {k:Nat}:(empties h (l.take k)).length≤k:=Nat.le_trans (List.length_filter_le _ _) (by rw [List.length_take]; omega)
section
variable {h:History}
theorem GL (hS:fo h) (hc:aJ h=some 0) {a:Ask} (ha:a ∈ bn h h.Txns.length):Tri (oW a h) (fun r=>r=true ↔ ¬ isEmpty h a):=by
 unfold oW;refine bA (Dw hS hc ha).1 (ag ?_)
 rw [decide_eq_true_iff]
 unfold isEmpty
 constructor
 ·intro h1 h2
  rw [h2] at h1
  simp at h1
 ·intro h1;have:=List.length_pos_iff.2 h1
  omega
theorem Ob (hS:fo h) (hc:aJ h=some 0) {l:List Ask} (hl:∀ a ∈ l,a ∈ bn h h.Txns.length) (hb:l.length < 2 ^ 60) :
  Tri (cB l h) (fun r=>(r = -1∧∀ j:Nat,j < l.length→isEmpty h (idx l (j:Int)))∨∃ k:Nat,r=(k:Int)∧k < l.length ∧ ¬ isEmpty h (idx l (k:Int))∧∀ j:Nat,j < k→isEmpty h (idx l (j:Int))):=by
 unfold cB;refine bX (k0:=0) l.length (fun k s=>s=(k:Int)∧∀ j:Nat,j < k→isEmpty h (idx l (j:Int))) (Nat.zero_le _) ⟨rfl,fun j h=>absurd h (Nat.not_lt_zero _)⟩ ?_;rintro k s hk ⟨rfl,hno⟩;have hw:w64 ((k:Int) + 1)=((k + 1:Nat):Int):=aZ (by omega);unfold iH
 dsimp only
 rw [hw]
 refine aA (fun h1 => ?_) (fun h1 => ?_)
 ·have a1:k < l.length:=by omega
  refine aj (by omega) ?_;refine dZ (GL hS hc (hl _ (sI a1))) (fun r hr => ?_);refine aA (fun h2 => ?_) (fun h2 => ?_)
  ·exact aD (ag (.inr ⟨k,rfl,a1,hr.1 h2,hno⟩))
  ·refine ag ⟨a1,rfl,fun j hj => ?_⟩;rcases Nat.lt_or_ge j k with h3 | h3
   ·exact hno j h3
   ·have:j=k:=by omega
    subst this;exact Classical.byContradiction fun h4=>h2 (hr.2 h4)
 ·have:k=l.length:=by omega
  subst this;exact aD (ag (.inl ⟨rfl,hno⟩))
theorem CV {l:List Ask}:∀ k:Nat,k≤l.length→(∀ j:Nat,j < k→isEmpty h (idx l (j:Int)))→empties h (l.take k)=l.take k
 | 0,_,_=>by simp [empties]
 | k + 1,hk,hj=>by
  rw [(tu (by omega)).1 (hj k (by omega)),CV k (by omega) (fun j h=>hj j (by omega)),List.take_succ_eq_append_getElem (by omega),(dJ (n:=k) rfl (by omega):idx l (k:Int)=l[k])]
theorem MQ (hS:fo h) (hc:aJ h=some 0) {l:List Ask} (hl:∀ a ∈ l,a ∈ bn h h.Txns.length) (hb:l.length < 2 ^ 60):bM l h=some (empties h l):=by
 refine eH.1 ?_;unfold bM;refine dZ (Ob hS hc hl hb) (fun r hr => ?_);rcases hr with ⟨rfl,hr⟩ | ⟨k0,rfl,a2,hne,hr⟩
 ·refine ag ?_;have:=CV (h:=h) (l:=l) l.length (Nat.le_refl _) hr
  rw [List.take_length] at this
  exact this.symm
 ·have a3:w64 ((k0:Int) + 1)=((k0 + 1:Nat):Int):=aZ (by omega);refine aA (fun h1=>absurd h1 (by omega)) (fun _ => ?_);refine aj (by omega) ?_
  rw [a3,Int.toNat_natCast]
  refine bX (k0:=k0 + 1) l.length (fun k s=>s.1=empties h (l.take k)∧s.2=(k:Int)) (by omega) ⟨?_,rfl⟩ ?_
  ·dsimp only
   rw [(tu a2).2 hne,CV k0 (by omega) hr]
  rintro k ⟨m,x⟩ hk ⟨e1,e2⟩
  dsimp only at e1 e2
  subst e1 e2;have hw:w64 ((k:Int) + 1)=((k + 1:Nat):Int):=aZ (by omega);unfold iA
  dsimp only
  rw [hw]
  refine aA (fun h1 => ?_) (fun h1 => ?_)
  ·have a1:k < l.length:=by omega
   refine aj (by omega) ?_;refine dZ (GL hS hc (hl _ (sI a1))) (fun r hr => ?_);cases r
   ·refine ag ⟨a1,?_,rfl⟩
    dsimp only
    rw [(tu a1).1 (Classical.byContradiction fun h4=>by have:=hr.2 h4; cases this)]
   ·refine ag ⟨a1,?_,rfl⟩
    dsimp only
    rw [(tu a1).2 (hr.1 rfl)]
  ·have:k=l.length:=by omega
   subst this;exact aD (ag (by rw [List.take_length]; rfl))
theorem Qf (hS:fo h) (hc:aJ h=some 0) {l:List Ask} {b:List Spot} (hl:∀ a ∈ l,a ∈ bn h h.Txns.length) (hb:l.length≤512):iter (nQ h (l,b)) ([],0)=some (empties h l,0):=by
 refine eH.1 ?_;refine bX (k0:=0) l.length (fun k s=>s.1=empties h (l.take k)∧s.2=(k:Int)) (Nat.zero_le _) ⟨by simp [empties],rfl⟩ ?_
 rintro k ⟨m,x⟩ hk ⟨e1,e2⟩
 dsimp only at e1 e2
 subst e1 e2;have hw:w64 ((k:Int) + 1)=((k + 1:Nat):Int):=aZ (by omega);have hel:=MP (h:=h) (l:=l) (k:=k);unfold nQ nP
 dsimp only
 rw [hw]
 refine aA (fun h1 => ?_) (fun h1 => ?_)
 ·have a1:k < l.length:=by omega
  refine aj (by omega) ?_;refine bA (Dw hS hc (hl _ (sI a1))).2 ?_;refine aA (fun h2 => ?_) (fun h2 => ?_)
  ·refine aj (by omega) (ag ⟨a1,?_,rfl⟩)
   dsimp only
   rw [(tu a1).1 (List.length_eq_zero_iff.1 (by omega))]
  ·refine ag ⟨a1,?_,rfl⟩
   dsimp only
   rw [(tu a1).2 (fun h3=>h2 (by rw [show nk h (idx l (k:Int))=[] from h3]; rfl))]
 ·have:k=l.length:=by omega
  subst this;exact aD (ag (by rw [List.take_length]; rfl))
end
end Go.Proofs.YtfpeabnehpclnaaGreatT
namespace Go.Proofs.YtfpeabnehpclnaaGreatT
open Go Go.Proofs Go.Proofs.YtfpeabnehpclnaaGreatE
set_option linter.unusedVariables false
set_option linter.unusedSimpArgs false
theorem MR {b a:Ask} (ha:a.Base.length < 2 ^ 60):Tri (rU b a) (fun r=>r=true↔a=b):=by
 unfold rU
 rw [Et (by omega)]
 obtain ⟨a1,a2,a3,a4⟩:=a;obtain ⟨b1,b2,b3,b4⟩:=b
 dsimp only
 refine aA (fun e1 => ?_) (fun e1=>ag ?_)
 ·refine aA (fun e2 => ?_) (fun e2=>ag ?_)
  ·refine aA (fun e3=>ag ?_) (fun e3=>ag ?_)
   ·simp [e1,e2,e3]
   ·simp [e3]
  ·simp [e2]
 ·simp [e1]
theorem JW {l:List Ask} {a:Ask} (ha:a.Base.length < 2 ^ 60) (hl:l.length < 2 ^ 60):Tri (eQ l a) (fun r=>r=true↔a ∈ l):=by
 have h1:Tri (cz l a) (fun r=>0≤r↔a ∈ l):=by
  unfold cz;refine bX (k0:=0) l.length (fun k s=>s=(k:Int)∧∀ j:Nat,j < k→a≠idx l (j:Int)) (Nat.zero_le _) ⟨rfl,fun j h=>absurd h (Nat.not_lt_zero _)⟩ ?_;rintro k s hk ⟨rfl,hno⟩;have hw:w64 ((k:Int) + 1)=((k + 1:Nat):Int):=aZ (by omega);unfold iF
  dsimp only
  rw [hw]
  refine aA (fun h1 => ?_) (fun h1 => ?_)
  ·have a1:k < l.length:=by omega
   refine aj (by omega) (dZ (MR ha) (fun r hr => ?_));refine aA (fun h2 => ?_) (fun h2 => ?_)
   ·refine aD (ag ⟨fun _ => ?_,fun _=>by omega⟩)
    rw [hr.1 h2]
    exact sI a1
   ·refine ag ⟨a1,rfl,fun j hj => ?_⟩;rcases Nat.lt_or_ge j k with h3 | h3
    ·exact hno j h3
    ·have:j=k:=by omega
     subst this;exact fun e=>h2 (hr.2 e)
  ·have:k=l.length:=by omega
   subst this;refine aD (ag ⟨fun h=>absurd h (by decide),fun h => ?_⟩);obtain ⟨j,hj,e⟩:=List.getElem_of_mem h;exact absurd (e.symm.trans (dJ rfl hj).symm) (hno j hj)
 unfold eQ;refine dZ h1 (fun r hr=>ag ?_)
 rw [decide_eq_true_iff]
 exact hr
theorem IY {h:History} (hs:qo h) (hS:fo h) (hc:aJ h=some 0) {a:Ask} (ha:a.Base.length < 2 ^ 60) :
  Tri (sV h a) (fun r=>(r=0∧a ∈ bn h h.Txns.length)∨(r=1∧a ∉ bn h h.Txns.length)):=by
 have a1:=hS.len;obtain ⟨i1,_,_⟩:=pG hS h.Txns.length (Nat.le_refl _);have hA:mh h=some (bn h h.Txns.length,0):=by unfold mh; rw [Fg hs hS hc]; rfl
 unfold sV;refine bA hA ?_;refine aA (fun h1=>absurd rfl h1) (fun _ => ?_);refine dZ (JW ha (by dsimp only; omega)) (fun r hr => ?_);refine aA (fun h1 => ?_) (fun h1 => ?_)
 ·exact ag (.inl ⟨rfl,hr.1 h1⟩)
 ·exact ag (.inr ⟨rfl,fun h2=>h1 (hr.2 h2)⟩)
theorem MS {h:History} (hS:fo h) {a:Ask} (ha:a ∈ bn h h.Txns.length):a.Base.length < 2 ^ 60:=by
 obtain ⟨t,p,hk⟩:=Ex hS ha;have:=hk.b64
 omega
theorem Ll {h:History} (hs:qo h) (hS:fo h) (hc:aJ h=some 0) {a:Ask} (ha:a ∈ bn h h.Txns.length):rV h a=some (nk h a,0):=by
 refine eH.1 ?_;unfold rV;refine dZ (IY hs hS hc (MS hS ha)) (fun r hr => ?_);rcases hr with ⟨rfl,_⟩ | ⟨_,h1⟩
 ·refine aA (fun h1=>absurd rfl h1) (fun _ => ?_);exact bA (Dw hS hc ha).1 (ag rfl)
 ·exact absurd ha h1
end Go.Proofs.YtfpeabnehpclnaaGreatT
namespace Go.Proofs.YtfpeabnehpclnaaGreatT
open Go Go.Proofs Go.Proofs.YtfpeabnehpclnaaGreatE
set_option linter.unusedVariables false
set_option linter.unusedSimpArgs false
end Go.Proofs.YtfpeabnehpclnaaGreatT
namespace Go.Proofs.YtfpeabnehpclnaaGreatT
open Go Go.Proofs Go.Proofs.YtfpeabnehpclnaaGreatE
set_option linter.unusedVariables false
set_option linter.unusedSimpArgs false
theorem Qg {O:List Int} {W:Int→List Int} {base:List Int}:(AV O W base).length≤O.length:=List.length_filter_le _ _
theorem IZ {O:List Int} {W:Int→List Int} {base:List Int} {r:List Int×Bool} (h:CS O W base r):r.1.length≤O.length:=by
 rcases h with ⟨_,h1,h2,_⟩ | ⟨rfl,_⟩
 ·exact Du h2 h1
 ·exact Nat.zero_le _
theorem KD {O:List Int} {W:Int→List Int} {base:List Int} {r:List Int×Bool} (h:uy O W base r):r.1.length≤O.length:=by
 rcases h with ⟨rfl,_⟩ | ⟨rfl,_⟩
 ·exact Qg
 ·exact Nat.zero_le _
theorem Pp {h:History} (hS:fo h) {a:Ask}:(oth h a).length≤32:=Nat.le_trans yf hS.len
def Lm (h:History) (a:Ask) (ty:Int) (r:List Int×Bool):Prop :=
 (ty=2→CS (oth h a) (wro h a) a.Base r)∧(ty=3→uy (oth h a) (wro h a) a.Base r)∧(ty≠2→ty≠3→r=([],false))
theorem Oc {h:History} (hS:fo h) (hc:aJ h=some 0) {a:Ask} {t p:Nat} (ha:GK h a t p) :
  ∃ r,jg h a=some r∧r.1.length≤32∧Lm h a (typ (opAt h (t:Int) (p:Int)).Kind) r:=by
 have a7:=hS.len;have hT:gQ h a.Key=some (typ (opAt h (t:Int) (p:Int)).Kind):=Dr hS hc ha.tl ha.pl ha.e3.symm;have hF:dB h a=some (Fj (oth h a) (wro h a)):=CR hS hc;have hO:bv h a=some (oth h a):=CP hS;have hol:=Pp hS (a:=a);have hW:∀ u ∈ oth h a,bf h u a.Key=some (wro h a u):=fun u hu=>by
  obtain ⟨⟨h0,h1,_,h3⟩,_⟩:=wU.1 hu;have hn:u.toNat < h.Txns.length:=by omega
  have e:u=(u.toNat:Int):=by omega
  rw [e]
  exact yP ⟨by omega,by omega⟩ (hS.txn u.toNat hn).ops.1
 have hP:=fun a6=>IP (a:=a) hS ha a6;have a3:=ha.b64;have a4:=ha.b3;generalize typ (opAt h (t:Int) (p:Int)).Kind=ty at hT a4 hP;unfold jg
 simp only [hT,hF,Option.bind_some]
 by_cases h2:ty=2
 ·subst h2;obtain ⟨r,a2,a5,a1⟩:=Gj (hP (.inl rfl)) hW hO a3;refine ⟨r,?_,Nat.le_trans (IZ a1) hol,fun _=>a1,fun h=>absurd h (by decide),fun h=>absurd rfl h⟩
  rw [a2]; rfl
 ·by_cases h3:ty=3
  ·subst h3;obtain ⟨r,a2,a5,a1⟩:=IV (hP (.inr rfl)) yh hW hO a3 (a4 rfl);refine ⟨r,?_,Nat.le_trans (KD a1) hol,fun h=>absurd h (by decide),fun _=>a1,fun _ h=>absurd rfl h⟩
   rw [a2]; rfl
  ·refine ⟨([],false),?_,Nat.zero_le _,fun h=>absurd h h2,fun h=>absurd h h3,fun _ _=>rfl⟩
   rw [beq_eq_false_iff_ne.2 h2,beq_eq_false_iff_ne.2 h3]; rfl
theorem Od {h:History} (hS:fo h) (hc:aJ h=some 0) {a:Ask} {t p:Nat} (ha:GK h a t p) :
  ∃ r,jg h a=some r∧mf h a=some r∧r.1.length≤32∧Lm h a (typ (opAt h (t:Int) (p:Int)).Kind) r:=by
 have a7:=hS.len;have hT:gQ h a.Key=some (typ (opAt h (t:Int) (p:Int)).Kind):=Dr hS hc ha.tl ha.pl ha.e3.symm;have hK:=Kr hS ha.tl ha.pl ha.e1 ha.e2;have hF:dB h a=some (Fj (oth h a) (wro h a)):=CR hS hc;have hO:bv h a=some (oth h a):=CP hS;have hol:=Pp hS (a:=a);have hW:∀ u ∈ oth h a,bf h u a.Key=some (wro h a u):=fun u hu=>by
  obtain ⟨⟨h0,h1,_,h3⟩,_⟩:=wU.1 hu;have hn:u.toNat < h.Txns.length:=by omega
  have e:u=(u.toNat:Int):=by omega
  rw [e]
  exact yP ⟨by omega,by omega⟩ (hS.txn u.toNat hn).ops.1
 have hP:=fun a6=>IP (a:=a) hS ha a6;have a4:=ha.b64;have a5:=ha.b3;generalize typ (opAt h (t:Int) (p:Int)).Kind=ty at hT hK a5 hP;unfold jg mf
 simp only [hT,hK,hF,Option.bind_some]
 by_cases h2:ty=2
 ·subst h2;obtain ⟨r,a3,a2,a1⟩:=Gj (hP (.inl rfl)) hW hO a4;refine ⟨r,?_,?_,Nat.le_trans (IZ a1) hol,fun _=>a1,fun h=>absurd h (by decide),fun h=>absurd rfl h⟩
  ·rw [a3]; rfl
  ·rw [a2]; rfl
 ·by_cases h3:ty=3
  ·subst h3;obtain ⟨r,a3,a2,a1⟩:=IV (hP (.inr rfl)) yh hW hO a4 (a5 rfl);refine ⟨r,?_,?_,Nat.le_trans (KD a1) hol,fun h=>absurd h (by decide),fun _=>a1,fun _ h=>absurd rfl h⟩
   ·rw [a3]; rfl
   ·rw [a2]; rfl
  ·refine ⟨([],false),?_,?_,Nat.zero_le _,fun h=>absurd h h2,fun h=>absurd h h3,fun _ _=>rfl⟩
   ·rw [beq_eq_false_iff_ne.2 h2,beq_eq_false_iff_ne.2 h3]; rfl
   ·rw [beq_eq_false_iff_ne.2 h2,beq_eq_false_iff_ne.2 h3]; rfl
noncomputable def pts (h:History) (a:Ask):List Int×Bool:=(jg h a).getD ([],false)
theorem MU {h:History} (hS:fo h) (hc:aJ h=some 0) {a:Ask} (ha:a ∈ bn h h.Txns.length):jg h a=some (pts h a)∧mf h a=some (pts h a)∧(pts h a).1.length≤32:=by
 obtain ⟨t,p,hk⟩:=Ex hS ha;obtain ⟨r,h1,h2,h3,_⟩:=Od hS hc hk;have e:pts h a=r:=by unfold pts; rw [h1]; rfl
 rw [e]
 exact ⟨h1,h2,h3⟩
section
variable {h:History}
end
end Go.Proofs.YtfpeabnehpclnaaGreatT
namespace Go.Proofs.YtfpeabnehpclnaaGreatT
open Go Go.Proofs Go.Proofs.YtfpeabnehpclnaaGreatE
set_option linter.unusedVariables false
set_option linter.unusedSimpArgs false
def pos (l:List Int) (t:Int):Nat:=l.findIdx (fun x=>decide (x=t))
theorem RU {l:List Int} {k:Nat} {t:Int}:t ∈ l.take k↔∃ j:Nat,j < k∧j < l.length∧idx l (j:Int)=t:=by
 constructor
 ·intro h;obtain ⟨j,hj,e⟩:=List.getElem_of_mem h
  rw [List.length_take] at hj
  refine ⟨j,by omega,by omega,?_⟩
  rw [dJ (n:=j) rfl (by omega),← e,List.getElem_take]
 ·rintro ⟨j,h1,h2,e⟩
  rw [dJ (n:=j) rfl h2] at e
  rw [← e]
  exact List.mem_iff_getElem.2 ⟨j,by rw [List.length_take]; omega,by rw [List.getElem_take]⟩
section
variable {h:History} {l:List Int}
end
end Go.Proofs.YtfpeabnehpclnaaGreatT
namespace Go.Proofs.YtfpeabnehpclnaaGreatT
open Go Go.Proofs Go.Proofs.YtfpeabnehpclnaaGreatE
set_option linter.unusedVariables false
set_option linter.unusedSimpArgs false
abbrev srt (l:List Int):List Int:=l.mergeSort fun x y=>decide (x≤y)
def fin (ty:Int) (w:List Int):List Int:=if ty=1 then w.drop (w.length - 1) else if ty=3 then srt w else if ty=4 then [w64 w.sum] else w
section
variable {h:History} {l:List Int}
end
end Go.Proofs.YtfpeabnehpclnaaGreatT
namespace Go.Proofs.YtfpeabnehpclnaaGreatT
open Go Go.Proofs Go.Proofs.YtfpeabnehpclnaaGreatE
set_option linter.unusedVariables false
set_option linter.unusedSimpArgs false
def kd (h:History) (a:Ask):Int:=typ (opAt h a.Txn a.Place).Kind
section
variable {h:History} {l:List Int} {m:List (Int×Int)}
theorem RV {a:Ask} {t p:Nat} (hk:GK h a t p):kd h a=typ (opAt h (t:Int) (p:Int)).Kind:=by
 unfold kd
 rw [hk.e1,hk.e2]
theorem RX (hS:fo h) (hc:aJ h=some 0) {a:Ask} (ha:a ∈ bn h h.Txns.length):gQ h a.Key=some (kd h a):=by
 obtain ⟨t,p,hk⟩:=Ex hS ha
 rw [RV hk]
 exact Dr hS hc hk.tl hk.pl hk.e3.symm
end
end Go.Proofs.YtfpeabnehpclnaaGreatT
namespace Go.Proofs.YtfpeabnehpclnaaGreatT
open Go Go.Proofs Go.Proofs.YtfpeabnehpclnaaGreatE
set_option linter.unusedVariables false
set_option linter.unusedSimpArgs false
section
variable {h:History} {l at_:List Int}
end
end Go.Proofs.YtfpeabnehpclnaaGreatT
namespace Go.Proofs.YtfpeabnehpclnaaGreatT
open Go Go.Proofs Go.Proofs.YtfpeabnehpclnaaGreatE
set_option linter.unusedVariables false
set_option linter.unusedSimpArgs false
end Go.Proofs.YtfpeabnehpclnaaGreatT
namespace Go.Proofs.YtfpeabnehpclnaaGreatT
open Go Go.Proofs Go.Proofs.YtfpeabnehpclnaaGreatE
set_option linter.unusedVariables false
set_option linter.unusedSimpArgs false
section
variable {h:History}
abbrev don (h:History) (t:Nat):Prop:=(idx h.Txns (t:Int)).Status=1
def ff (h:History) (p:Int):Nat→Option Nat
 | 0=>none
 | d + 1=>if don h (h.Txns.length - (d + 1))∧(idx h.Txns ((h.Txns.length - (d + 1):Nat):Int)).Proc=p then some (h.Txns.length - (d + 1)) else ff h p d
def soE (h:History) (a:Nat):List Edge:=if don h a then (match ff h (idx h.Txns (a:Int)).Proc (h.Txns.length - 1 - a) with | some b=>[⟨a,b,1,-1⟩] | none=>[]) else []
def Lp (h:History) (a b:Nat):List Edge:=if don h a∧don h b∧(idx h.Txns (a:Int)).To < (idx h.Txns (b:Int)).From then [⟨a,b,2,-1⟩] else []
def rtE (h:History) (a k:Nat):List Edge:=(List.range k).flatMap (Lp h a)
def upE {β:Type} (f:Nat→List β) (k:Nat):List β:=(List.range k).flatMap f
theorem qC {β:Type} {f:Nat→List β} {k:Nat}:upE f (k + 1)=upE f k++f k:=by
 unfold upE
 rw [List.range_succ,List.flatMap_append]
 simp
theorem yj {β:Type} {f:Nat→List β} {m:Nat} (hf:∀ k,(f k).length≤m):∀ k,(upE f k).length≤k * m
 | 0=>by simp [upE]
 | k + 1=>by
  rw [qC,List.length_append,Nat.add_mul,Nat.one_mul]
  have:=yj hf k;have:=hf k
  omega
theorem TY {a:Nat}:(soE h a).length≤1:=by
 unfold soE
 split
 ·split <;> simp
 ·simp
theorem RY {a b:Nat}:(Lp h a b).length≤1:=by
 unfold Lp
 split <;> simp
theorem Fq {a k:Nat}:rtE h a (k + 1)=rtE h a k++Lp h a k:=qC
theorem Lr {a k:Nat}:(rtE h a k).length≤k:=by
 have:=yj (f:=Lp h a) (fun k=>RY) k
 rwa [Nat.mul_one] at this
abbrev soL (h:History) (k:Nat):List Edge:=upE (soE h) k
abbrev rtL (h:History) (k:Nat):List Edge:=upE (fun a=>rtE h a h.Txns.length) k
theorem Ic {k:Nat}:(soL h k).length≤k:=by
 have:=yj (f:=soE h) (fun k=>TY) k
 rwa [Nat.mul_one] at this
theorem Ls (hS:fo h) {k:Nat} (hk:k≤h.Txns.length):(rtL h k).length≤1024:=by
 have a1:=hS.len;have h1:(rtL h k).length≤k * 32:=yj (fun k=>Nat.le_trans Lr a1) k
 omega
theorem Ie {m:aL} {t:Nat} (ht:t < m.h.Txns.length):jU m (t:Int)=some (decide (don m.h t)):=by
 unfold jU
 rw [lJ _ (by omega)]
 by_cases h1:don m.h t
 ·rw [decide_eq_true h1,show ((idx m.h.Txns (t:Int)).Status == 1)=true from beq_iff_eq.2 h1]
 ·rw [decide_eq_false h1,show ((idx m.h.Txns (t:Int)).Status == 1)=false from beq_eq_false_iff_ne.2 h1]
theorem Gq {m:aL} {a b k y:Int} (hl:m.edges.length < 2 ^ 40):gU m a b k y=some ⟨m.h,m.asks,m.edges++[⟨a,b,k,y⟩]⟩:=by
 unfold gU
 rw [lJ _ (by omega)]
def nx (h:History) (t:Nat):Int:=if don h t then (match ff h (idx h.Txns (t:Int)).Proc (h.Txns.length - 1 - t) with | some b=>(b:Int) | none => -1) else -1
theorem UN {t:Nat}:soE h t=if nx h t ≥ 0 then [⟨t,nx h t,1,-1⟩] else []:=by
 unfold soE nx
 split
 ·split
  ·rename_i b _
   rw [if_pos (by omega)]
  ·rw [if_neg (by omega)]
 ·rw [if_neg (by omega)]
theorem JX {m:aL} (a7:m.h.Txns.length≤32) (hl:m.edges.length < 2 ^ 30):bq m=some ⟨m.h,m.asks,m.edges++soL m.h m.h.Txns.length⟩:=by
 refine eH.1 ?_;unfold bq;refine aj (by omega) ?_;have hn:(m.h.Txns.length:Int).toNat=m.h.Txns.length:=by omega
 rw [hn]
 by_cases h0:m.h.Txns.length=0
 ·
  rw [BI]
  unfold lS
  dsimp only
  have hw:w64 ((m.h.Txns.length:Int) - 1) = -1:=by rw [h0]; decide
  rw [hw,decide_eq_false (by decide),cond_false,BI]
  unfold lQ
  dsimp only
  rw [List.length_replicate,decide_eq_false (by omega),cond_false]
  refine ⟨_,rfl,?_⟩
  rw [h0]
  simp [soL,upE]
 have hw:w64 ((m.h.Txns.length:Int) - 1)=((m.h.Txns.length:Int) - 1 - (0:Nat)):=by rw [pI (by omega) (by omega)]; omega
 rw [hw]
 refine bX (k0:=0) m.h.Txns.length (fun k s=>s.1.length=m.h.Txns.length∧s.2.2=(m.h.Txns.length:Int) - 1 - (k:Int)∧(∀ t:Nat,m.h.Txns.length - k≤t→t < m.h.Txns.length→idx s.1 (t:Int)=nx m.h t) ∧
  ∀ p:Int,(kZ s.2.1 p=true↔(ff m.h p k).isSome=true)∧∀ b,ff m.h p k=some b→mat s.2.1 p=(b:Int)) (Nat.zero_le _)
  ⟨by simp,rfl,fun t h1 h2=>by omega,fun p=>⟨by simp [Nl,ff],fun b hb=>(nomatch hb)⟩⟩ ?_
 rintro k ⟨l,mp,x⟩ hk ⟨e1,rfl,e3,e4⟩
 dsimp only at e1 e3 e4
 unfold lS
 dsimp only
 refine aA (fun h1 => ?_) (fun h1 => ?_)
 ·have a2:k < m.h.Txns.length:=by omega
  obtain ⟨t,ht,hx⟩:∃ t:Nat,t < m.h.Txns.length∧(m.h.Txns.length:Int) - 1 - (k:Int)=(t:Int):=⟨m.h.Txns.length - 1 - k,by omega,by omega⟩
  have htk:t=m.h.Txns.length - (k + 1):=by omega
  have a3:m.h.Txns.length - 1 - t=k:=by omega
  rw [hx]
  have a5:w64 ((t:Int) - 1)=(m.h.Txns.length:Int) - 1 - ((k + 1:Nat):Int):=by rw [pI (by omega) (by omega)]; omega
  have hset:∀ v:Int,∀ u:Nat,u < m.h.Txns.length→idx (l.set t v) (u:Int)=if u=t then v else idx l (u:Int):=fun v u hu=>by
   rw [dJ (n:=u) rfl (by simpa using by omega),List.getElem_set]
   by_cases e:t=u
   ·rw [if_pos e,if_pos e.symm]
   ·rw [if_neg e,if_neg (fun h=>e h.symm),dJ (n:=u) rfl (by omega)]
  have hset2:∀ v v':Int,(l.set t v).set t v'=l.set t v':=fun v v'=>by simp
  have hto:(t:Int).toNat=t:=by omega
  refine aj (by omega) (bA (Ie (m:=m) ht) ?_);unfold lM lL
  rw [a5,hto]
  have ffk:∀ p,ff m.h p (k + 1)=if don m.h t∧(idx m.h.Txns (t:Int)).Proc=p then some t else ff m.h p k:=fun p=>by
   have e:ff m.h p (k + 1)=if don m.h (m.h.Txns.length - (k + 1))∧(idx m.h.Txns ((m.h.Txns.length - (k + 1):Nat):Int)).Proc=p then some (m.h.Txns.length - (k + 1)) else ff m.h p k:=rfl
   rw [e,← htk]
  by_cases hd:don m.h t
  ·rw [decide_eq_true hd]
   refine aA (fun h=>absurd h (by simp)) (fun _ => ?_);refine aj (by omega) ?_;have last:∀ v,v=nx m.h t→Upm m.h.Txns.length k (fun (k:Nat) (s:List Int×List (Int×Int)×Int)=>s.1.length=m.h.Txns.length∧s.2.2=(m.h.Txns.length:Int) - 1 - (k:Int)∧(∀ t:Nat,m.h.Txns.length - k≤t→t < m.h.Txns.length→idx s.1 (t:Int)=nx m.h t) ∧
      ∀ p:Int,(kZ s.2.1 p=true↔(ff m.h p k).isSome=true)∧∀ b,ff m.h p k=some b→mat s.2.1 p=(b:Int)) (fun b:aL=>b=⟨m.h,m.asks,m.edges++soL m.h m.h.Txns.length⟩)
     (.inl (l.set t v,iB mp (idx m.h.Txns (t:Int)).Proc (t:Int),(m.h.Txns.length:Int) - 1 - ((k + 1:Nat):Int))):=fun v hv=>by
    refine ⟨a2,by dsimp only; simp [e1],rfl,fun u a6 a1 => ?_,fun p => ?_⟩
    ·dsimp only
     rw [hset v u a1]
     by_cases e:u=t
     ·rw [if_pos e,hv,e]
     ·rw [if_neg e]; exact e3 u (by omega) a1
    ·dsimp only
     rw [AX,zD,ffk p]
     by_cases e:(idx m.h.Txns (t:Int)).Proc=p
     ·rw [if_pos ⟨hd,e⟩,if_pos e.symm]
      exact ⟨by simp [e],fun b hb=>by cases hb; rfl⟩
     ·rw [if_neg (fun h=>e h.2),if_neg (fun h=>e h.symm)]
      refine ⟨⟨fun h => ?_,fun h => .inr ((e4 p).1.2 h)⟩,(e4 p).2⟩;rcases h with h | h
      ·exact absurd h.symm e
      ·exact (e4 p).1.1 h
   refine aA (fun h2 => ?_) (fun h2 => ?_)
   ·have h3:=(e4 (idx m.h.Txns (t:Int)).Proc).1.1 h2;obtain ⟨b,hb⟩:=Option.isSome_iff_exists.1 h3;have h4:=(e4 (idx m.h.Txns (t:Int)).Proc).2 b hb;refine aj (by simp [e1]; omega) (aj (by omega) (ag ?_))
    rw [hset2,h4]
    refine last _ ?_;unfold nx
    rw [if_pos hd,a3,hb]
   ·refine aj (by omega) (ag (last _ ?_));have h3:ff m.h (idx m.h.Txns (t:Int)).Proc k=none:=by
     cases h4:ff m.h (idx m.h.Txns (t:Int)).Proc k with
     | none=>rfl
     | some b=>exact absurd ((e4 _).1.2 (by rw [h4]; rfl)) (by simpa using h2)
    unfold nx
    rw [if_pos hd,a3,h3]
  ·rw [decide_eq_false hd]
   rw [Bool.not_false,cond_true]
   refine ag ⟨a2,by dsimp only; simp [e1],rfl,fun u a6 a1 => ?_,fun p => ?_⟩
   ·dsimp only
    rw [hset _ u a1]
    by_cases e:u=t
    ·rw [if_pos e,e]; unfold nx; rw [if_neg hd]
    ·rw [if_neg e]; exact e3 u (by omega) a1
   ·rw [ffk p,if_neg (fun h=>hd h.1)]
    exact e4 p
 ·have:k=m.h.Txns.length:=by omega
  subst this;refine bX (k0:=0) l.length (fun k s=>s=(m.edges++soL m.h k,(k:Int))) (Nat.zero_le _) (by simp [soL,upE]) ?_;rintro k s hk ⟨rfl⟩;have a4:w64 ((k:Int) + 1)=((k + 1:Nat):Int):=aZ (by omega);have hsl:=Ic (h:=m.h) (k:=k);unfold lQ lN
  dsimp only
  rw [a4]
  refine aA (fun h2 => ?_) (fun h2 => ?_)
  ·have a2:k < m.h.Txns.length:=by omega
   refine aj (by omega) ?_
   rw [e3 k (by omega) a2]
   have hsu:soL m.h (k + 1)=soL m.h k++soE m.h k:=qC
   rw [UN] at hsu
   refine aA (fun h3 => ?_) (fun h3 => ?_)
   ·refine bA (Gq (by simp only [List.length_append]; omega)) (ag ⟨by omega,?_⟩)
    dsimp only
    rw [hsu,if_pos h3,List.append_assoc]
   ·refine ag ⟨by omega,?_⟩
    dsimp only
    rw [hsu,if_neg h3,List.append_nil]
  ·have:k=l.length:=by omega
   subst this;refine aD (aD (ag ?_))
   show aL.mk _ _ _=_
   rw [e1]
theorem Qh {m:aL} (hS:fo m.h) (hl:m.edges.length < 2 ^ 30):cO m=some ⟨m.h,m.asks,m.edges++rtL m.h m.h.Txns.length⟩:=by
 have a5:=hS.len;refine eH.1 ?_;unfold cO;refine bX (k0:=0) m.h.Txns.length (fun k s=>s=(m.edges++rtL m.h k,(k:Int))) (Nat.zero_le _) (by simp [rtL,upE]) ?_;rintro k s hk rfl;have hw:w64 ((k:Int) + 1)=((k + 1:Nat):Int):=aZ (by omega);have hrl:=Ls hS hk;unfold uE
 dsimp only
 refine aA (fun h1 => ?_) (fun h1 => ?_)
 ·have a2:k < m.h.Txns.length:=by omega
  refine aj (by omega) ?_;refine bX (k0:=0) m.h.Txns.length (fun q s=>s=(m.edges++rtL m.h k++rtE m.h k q,(q:Int))) (Nat.zero_le _) (by simp [rtE]) ?_;rintro q s hq rfl;have a3:w64 ((q:Int) + 1)=((q + 1:Nat):Int):=aZ (by omega);have hel:=Lr (h:=m.h) (a:=k) (k:=q);unfold uD mi pU
  dsimp only
  rw [hw,a3]
  refine aA (fun h2 => ?_) (fun h2 => ?_)
  ·have a1:q < m.h.Txns.length:=by omega
   refine aj (by omega) (bA (Ie (m:=⟨m.h,m.asks,_⟩) a2) ?_);have no:¬ (don m.h k∧don m.h q∧(idx m.h.Txns (k:Int)).To < (idx m.h.Txns (q:Int)).From)→Tri (bif false then (gU (⟨m.h,m.asks,m.edges++rtL m.h k++rtE m.h k q⟩:aL) (k:Int) (q:Int) 2 (-1)).bind fun a4=>some (.inl (a4.edges,((q + 1:Nat):Int))) else some (.inl (m.edges++rtL m.h k++rtE m.h k q,((q + 1:Nat):Int))))
     (Upm m.h.Txns.length q (fun q s=>s=(m.edges++rtL m.h k++rtE m.h k q,(q:Int))) (Upm m.h.Txns.length k (fun k s=>s=(m.edges++rtL m.h k,(k:Int))) (fun b:aL=>b=⟨m.h,m.asks,m.edges++rtL m.h m.h.Txns.length⟩))):=fun hn=>by
    rw [cond_false]
    refine ag ⟨a1,?_⟩
    dsimp only
    rw [Fq,Lp,if_neg hn,List.append_nil]
   by_cases d1:don m.h k
   rotate_left
   ·rw [decide_eq_false d1,cond_false]; exact no (fun h=>d1 h.1)
   rw [decide_eq_true d1,cond_true]
   refine bA (Ie (m:=⟨m.h,m.asks,_⟩) a1) ?_
   by_cases d2:don m.h q
   rotate_left
   ·rw [decide_eq_false d2,cond_false]; exact no (fun h=>d2 h.2.1)
   rw [decide_eq_true d2,cond_true]
   by_cases d3:(idx m.h.Txns (k:Int)).To < (idx m.h.Txns (q:Int)).From
   rotate_left
   ·rw [decide_eq_false d3]; exact no (fun h=>d3 h.2.2)
   rw [decide_eq_true d3,cond_true]
   refine bA (Gq (by simp only [List.length_append]; omega)) (ag ⟨a1,?_⟩)
   dsimp only
   rw [Fq,Lp,if_pos ⟨d1,d2,d3⟩,List.append_assoc]
  ·have:q=m.h.Txns.length:=by omega
   subst this;refine aD (ag ⟨a2,?_⟩);have e:rtL m.h (k + 1)=rtL m.h k++rtE m.h k m.h.Txns.length:=qC
   dsimp only
   rw [e,List.append_assoc]
 ·have:k=m.h.Txns.length:=by omega
  subst this;exact aD (ag rfl)
theorem Oe (hS:fo h):aK h=some (soL h h.Txns.length++rtL h h.Txns.length):=by
 have a7:=hS.len;refine eH.1 ?_;unfold aK;refine bX (k0:=0) h.Txns.length (fun k s=>s=(soL h k,(k:Int))) (Nat.zero_le _) (by simp [soL,upE]) ?_;rintro k s hk rfl;have hw:w64 ((k:Int) + 1)=((k + 1:Nat):Int):=aZ (by omega);have hsl:=Ic (h:=h) (k:=k);have hsu:soL h (k + 1)=soL h k++soE h k:=qC;unfold sG kX
 dsimp only
 rw [hw]
 refine aA (fun h1 => ?_) (fun h1 => ?_)
 ·have a1:k < h.Txns.length:=by omega
  refine aj (by omega) ?_;refine aA (fun h2 => ?_) (fun h2 => ?_)
  ·refine ag ⟨a1,?_⟩
   dsimp only
   rw [hsu,soE,if_neg h2,List.append_nil]
  ·have hd:don h k:=Classical.byContradiction h2;refine bX (k0:=k + 1) h.Txns.length (fun b s=>s=(b:Int)∧ff h (idx h.Txns (k:Int)).Proc (h.Txns.length - 1 - k)=ff h (idx h.Txns (k:Int)).Proc (h.Txns.length - b)) (by omega) ⟨rfl,by congr 1; omega⟩ ?_
   rintro b s hb ⟨rfl,hf⟩;have a2:w64 ((b:Int) + 1)=((b + 1:Nat):Int):=aZ (by omega);unfold sD nS nR kX
   dsimp only
   rw [hw,a2]
   refine aA (fun h3 => ?_) (fun h3 => ?_)
   ·have a6:b < h.Txns.length:=by omega
    have hfb:ff h (idx h.Txns (k:Int)).Proc (h.Txns.length - b)=if don h b∧(idx h.Txns (b:Int)).Proc=(idx h.Txns (k:Int)).Proc then some b else ff h (idx h.Txns (k:Int)).Proc (h.Txns.length - (b + 1)):=by
     obtain ⟨d,a5⟩:∃ d,h.Txns.length - b=d + 1:=⟨h.Txns.length - b - 1,by omega⟩
     have e:h.Txns.length - (d + 1)=b:=by omega
     rw [a5,show h.Txns.length - (b + 1)=d by omega]
     show (if don h (h.Txns.length - (d + 1))∧(idx h.Txns ((h.Txns.length - (d + 1):Nat):Int)).Proc=_ then some (h.Txns.length - (d + 1)) else _)=_
     rw [e]
    have no:¬ (don h b∧(idx h.Txns (b:Int)).Proc=(idx h.Txns (k:Int)).Proc)→Tri (bif false then must (((soL h k).length + 1 + ((soL h k).length + 1) / 4 + 192) * 32≤281474976710656∧(soL h k).length + 1≤9223372036854775807) (out (some (.inl (soL h k++([(⟨(k:Int),(b:Int),1,(-1)⟩:Edge)]:List Edge),((k + 1:Nat):Int))))) else (some (.inl ((b + 1:Nat):Int))))
      (Upm h.Txns.length b (fun b s=>s=(b:Int)∧ff h (idx h.Txns (k:Int)).Proc (h.Txns.length - 1 - k)=ff h (idx h.Txns (k:Int)).Proc (h.Txns.length - b)) (Upm h.Txns.length k (fun k s=>s=(soL h k,(k:Int))) (fun b:List Edge=>b=soL h h.Txns.length++rtL h h.Txns.length))):=fun hn=>by
     rw [cond_false]
     exact ag ⟨a6,rfl,by rw [hf,hfb,if_neg hn]⟩
    refine aj (by omega) ?_;refine aA (fun h4 => ?_) (fun h4=>no (fun h=>h4 h.1))
    by_cases h5:(idx h.Txns (b:Int)).Proc=(idx h.Txns (k:Int)).Proc
    ·rw [beq_iff_eq.2 h5,cond_true]
     refine aj (by omega) (aD (ag ⟨a1,?_⟩))
     dsimp only
     rw [hsu,soE,if_pos hd,hf,hfb,if_pos ⟨h4,h5⟩]
    ·rw [beq_eq_false_iff_ne.2 h5]
     exact no (fun h=>h5 h.2)
   ·have:b=h.Txns.length:=by omega
    subst this;refine aD (ag ⟨a1,?_⟩)
    dsimp only
    rw [hsu,soE,if_pos hd,hf,Nat.sub_self]
    show _=(soL h k++[],_)
    rw [List.append_nil]
 ·have:k=h.Txns.length:=by omega
  subst this
  suffices a4:Tri (iter (nU h) (soL h h.Txns.length,0)) (fun y:(List Edge×Int) ⊕ List Edge=>y = .inr (soL h h.Txns.length++rtL h h.Txns.length)) from gX a4 (by rintro y rfl; rfl)
  refine bX (k0:=0) h.Txns.length (fun k s=>s=(soL h h.Txns.length++rtL h k,(k:Int))) (Nat.zero_le _) (by simp [rtL,upE]) ?_;rintro k s hk rfl;have hw:w64 ((k:Int) + 1)=((k + 1:Nat):Int):=aZ (by omega);have hrl:=Ls hS hk;unfold nU
  dsimp only
  refine aA (fun h1 => ?_) (fun h1 => ?_)
  ·have a1:k < h.Txns.length:=by omega
   refine bX (k0:=0) h.Txns.length (fun q s=>s=(soL h h.Txns.length++rtL h k++rtE h k q,(q:Int))) (Nat.zero_le _) (by simp [rtE]) ?_;rintro q s hq rfl;have a2:w64 ((q:Int) + 1)=((q + 1:Nat):Int):=aZ (by omega);have hel:=Lr (h:=h) (a:=k) (k:=q);unfold sF kY nT
   dsimp only
   rw [hw,a2]
   refine aA (fun h2 => ?_) (fun h2 => ?_)
   ·have a3:q < h.Txns.length:=by omega
    refine aj (by omega) ?_;have no:¬ (don h k∧don h q∧(idx h.Txns (k:Int)).To < (idx h.Txns (q:Int)).From)→Tri (bif false then must (((soL h h.Txns.length++rtL h k++rtE h k q).length + 1 + ((soL h h.Txns.length++rtL h k++rtE h k q).length + 1) / 4 + 192) * 32≤281474976710656∧(soL h h.Txns.length++rtL h k++rtE h k q).length + 1≤9223372036854775807) (some (.inl (soL h h.Txns.length++rtL h k++rtE h k q++([(⟨(k:Int),(q:Int),2,(-1)⟩:Edge)]:List Edge),((q + 1:Nat):Int)))) else (some (.inl (soL h h.Txns.length++rtL h k++rtE h k q,((q + 1:Nat):Int)))))
      (Upm h.Txns.length q (fun q s=>s=(soL h h.Txns.length++rtL h k++rtE h k q,(q:Int))) (Upm h.Txns.length k (fun k s=>s=(soL h h.Txns.length++rtL h k,(k:Int))) (fun y:(List Edge×Int) ⊕ List Edge=>y = .inr (soL h h.Txns.length++rtL h h.Txns.length)))):=fun hn=>by
     rw [cond_false]
     refine ag ⟨a3,?_⟩
     dsimp only
     rw [Fq,Lp,if_neg hn,List.append_nil]
    refine aA (fun h3 => ?_) (fun h3=>no (fun h=>h3 h.1));refine aj (by omega) ?_;refine aA (fun h4 => ?_) (fun h4=>no (fun h=>h4 h.2.1))
    by_cases h5:(idx h.Txns (k:Int)).To < (idx h.Txns (q:Int)).From
    ·rw [decide_eq_true h5,cond_true]
     refine aj (by simp only [List.length_append]; omega) (ag ⟨a3,?_⟩)
     dsimp only
     rw [Fq,Lp,if_pos ⟨h3,h4,h5⟩,List.append_assoc]
    ·rw [decide_eq_false h5]
     exact no (fun h=>h5 h.2.2)
   ·have:q=h.Txns.length:=by omega
    subst this;refine aD (ag ⟨a1,?_⟩);have e:rtL h (k + 1)=rtL h k++rtE h k h.Txns.length:=qC
    dsimp only
    rw [e,List.append_assoc]
  ·have:k=h.Txns.length:=by omega
   subst this;exact aD (aD (ag rfl))
end
end Go.Proofs.YtfpeabnehpclnaaGreatT
namespace Go.Proofs.YtfpeabnehpclnaaGreatT
open Go Go.Proofs Go.Proofs.YtfpeabnehpclnaaGreatE
set_option linter.unusedVariables false
set_option linter.unusedSimpArgs false
section
variable {h:History}
theorem TZ (hS:fo h) (hc:aJ h=some 0) {a:Ask} {t p:Nat} (hk:GK h a t p):CU h a (typ (opAt h (t:Int) (p:Int)).Kind) (nk h a):=by
 obtain ⟨s,h1,_,h3⟩:=Fp hS hc hk;have e:nk h a=s:=by unfold nk; rw [h1]; rfl
 rw [e]
 exact h3
theorem UO (hS:fo h) (hc:aJ h=some 0) {a:Ask} {t p:Nat} (hk:GK h a t p):(pts h a).1.length≤32∧Lm h a (typ (opAt h (t:Int) (p:Int)).Kind) (pts h a):=by
 obtain ⟨r,h1,h2,h3⟩:=Oc hS hc hk;have e:pts h a=r:=by unfold pts; rw [h1]; rfl
 rw [e]
 exact ⟨h2,h3⟩
theorem UQ (hS:fo h) (hc:aJ h=some 0) {a:Ask} (ha:a ∈ bn h h.Txns.length) {x:Int} (hx:x ∈ nk h a):x = -1∨x ∈ oth h a:=by
 classical
 obtain ⟨t,p,hk⟩:=Ex hS ha;have h2:=TZ hS hc hk;generalize nk h a=s at h2 hx;unfold CU at h2
 split at h2
 ·rw [h2] at hx
  rcases List.mem_append.1 hx with hx | hx
  ·split at hx
   ·exact .inl (by simpa using hx)
   ·simp at hx
  ·right
   unfold picks at hx
   simp only [List.mem_map,List.mem_filter,List.mem_range,decide_eq_true_eq] at hx
   obtain ⟨j,⟨h1,_⟩,rfl⟩:=hx;exact iC h1
 ·split at h2
  ·rw [h2] at hx
   exact .inl (by simpa using hx)
  ·rename_i hb
   split at h2
   ·rw [h2] at hx
    exact .inr (List.mem_filter.1 hx).1
   ·split at h2
    ·obtain ⟨r,hr,rfl⟩:=h2;rcases hr with ⟨q1,q2,q3,q4⟩ | ⟨rfl,_⟩
     ·rw [if_pos q1,List.mem_singleton] at hx
      right
      rw [hx]
      refine q2 _ ?_;have hne:0 < r.1.length:=by
       rcases Nat.eq_zero_or_pos r.1.length with h0 | h0
       ·rw [List.length_eq_zero_iff.1 h0] at q4
        rw [q4] at hb
        exact absurd rfl hb
       ·exact h0
      unfold BQ;exact iC (by omega)
     ·simp at hx
    ·obtain ⟨r,hr,rfl⟩:=h2;rcases hr with ⟨rfl,_⟩ | ⟨rfl,_⟩
     ·exact .inr (List.mem_filter.1 hx).1
     ·simp at hx
theorem Ja (hS:fo h) (hc:aJ h=some 0) {a:Ask} (ha:a ∈ bn h h.Txns.length):(∀ x ∈ (pts h a).1,x ∈ oth h a)∧(pts h a).1.Nodup∧((pts h a).2=true→kd h a=2∨kd h a=3)∧(pts h a).1.length≤32:=by
 obtain ⟨t,p,hk⟩:=Ex hS ha;obtain ⟨hl,p2,p3,p4⟩:=UO hS hc hk
 rw [RV hk]
 generalize typ (opAt h (t:Int) (p:Int)).Kind=ty at p2 p3 p4;generalize pts h a=r at p2 p3 p4 hl
 by_cases e2:ty=2
 ·rcases p2 e2 with ⟨_,q1,q2,_⟩ | ⟨rfl,_⟩
  ·exact ⟨q1,q2,fun _ => .inl e2,hl⟩
  ·exact ⟨fun x hx=>(nomatch hx),List.nodup_nil,fun _ => .inl e2,hl⟩
 ·by_cases e3:ty=3
  ·rcases p3 e3 with ⟨rfl,_⟩ | ⟨rfl,_⟩
   ·exact ⟨fun x hx=>(List.mem_filter.1 hx).1,yh.filter _,fun _ => .inr e3,hl⟩
   ·exact ⟨fun x hx=>(nomatch hx),List.nodup_nil,fun _ => .inr e3,hl⟩
  ·have:=p4 e2 e3;subst this;exact ⟨fun x hx=>(nomatch hx),List.nodup_nil,fun h=>(nomatch h),hl⟩
open Classical
def made (h:History) (a:Ask):Prop:=(pts h a).2=true∧0 < a.Base.length
noncomputable def dwr (h:History) (a:Ask):List Int:=(gF h a.Key h.Txns.length).filter (fun t=>decide (¬ (t=a.Txn∨(idx h.Txns t).Status≠1)))
theorem Dx {a:Ask}:(dwr h a).length≤h.Txns.length:=Nat.le_trans (List.length_filter_le _ _) qH
def ovr (h:History) (a:Ask) (t:Int):Prop:=nk h a=[-1]∨(made h a∧t ∉ (pts h a).1) ∨
 (¬ made h a∧kd h a=1∧∃ p,nk h a=[p]∧p≠t∧∃ b ∈ bn h h.Txns.length,b.Txn=t∧b.Key=a.Key∧nk h b=[p])
noncomputable def wrE (h:History) (a:Ask):List Edge:=match nk h a with
 | [p]=>if p = -1 then [] else [⟨p,a.Txn,4,a.Key⟩]
 | _=>[]
noncomputable def wwT (h:History) (a:Ask) (p t:Int):List Edge:=if t ∈ (pts h a).1 then [] else [⟨p,t,8,a.Key⟩]
noncomputable def zm (h:History) (a:Ask) (i:Nat):List Edge:=if kd h a=2∧i + 1 < (pts h a).1.length then [⟨idx (pts h a).1 (i:Int),idx (pts h a).1 ((i + 1:Nat):Int),8,a.Key⟩]
 else upE (fun k=>wwT h a (idx (pts h a).1 (i:Int)) (idx (dwr h a) (k:Int))) (dwr h a).length
noncomputable def wwE (h:History) (a:Ask):List Edge:=if made h a then upE (zm h a) (pts h a).1.length else []
noncomputable def rwT (h:History) (a:Ask) (t:Int):List Edge:=if ovr h a t then [⟨a.Txn,t,16,a.Key⟩] else []
noncomputable def rwE (h:History) (a:Ask):List Edge:=upE (fun k=>rwT h a (idx (dwr h a) (k:Int))) (dwr h a).length
noncomputable def Lt (h:History) (a:Ask):List Edge:=wrE h a++wwE h a++rwE h a
theorem Ua {a:Ask}:(wrE h a).length≤1:=by
 unfold wrE
 split
 ·split <;> simp
 ·simp
theorem Lu {a:Ask} {p t:Int}:(wwT h a p t).length≤1:=by unfold wwT; split <;> simp
theorem Ub {a:Ask} {t:Int}:(rwT h a t).length≤1:=by unfold rwT; split <;> simp
theorem RZ (hS:fo h) {a:Ask} {i:Nat}:(zm h a i).length≤32:=by
 unfold zm
 split
 ·simp
 ·have:=yj (f:=fun k=>wwT h a (idx (pts h a).1 (i:Int)) (idx (dwr h a) (k:Int))) (m:=1) (fun k=>Lu) (dwr h a).length;have h1:=Dx (h:=h) (a:=a);have h2:=hS.len
  omega
theorem Lv {a:Ask} {k:Nat}:(upE (fun k=>rwT h a (idx (dwr h a) (k:Int))) k).length≤k:=by
 have:=yj (f:=fun k=>rwT h a (idx (dwr h a) (k:Int))) (m:=1) (fun k=>Ub) k
 omega
theorem Lx (hS:fo h) {a:Ask} {k:Nat}:(upE (zm h a) k).length≤k * 32:=yj (fun k=>RZ hS) k
theorem MV (hS:fo h) (hc:aJ h=some 0) {a:Ask} (ha:a ∈ bn h h.Txns.length):(Lt h a).length≤2000:=by
 obtain ⟨_,_,_,h1⟩:=Ja hS hc ha;have h2:=Lx hS (a:=a) (k:=(pts h a).1.length);have h3:=Ua (h:=h) (a:=a);have h4:=Lv (h:=h) (a:=a) (k:=(dwr h a).length);have h5:=Dx (h:=h) (a:=a);have h6:=hS.len;unfold Lt rwE wwE
 simp only [List.length_append]
 split
 ·omega
 ·simp only [List.length_nil]; omega
noncomputable def uN (h:History) (a:Ask):aV:=⟨a,nk h a,(pts h a).1,decide (made h a),kd h a⟩
theorem Pq {x:aV} {p:Int}:nA x p=some (decide (x.sources=[p])):=by
 refine zC.1 ?_;unfold nA;refine aA (fun h1 => ?_) (fun h1=>ag ⟨fun h=>(nomatch h),fun h=>absurd (by rw [h]; rfl) h1⟩);refine aj (by omega) (ag ?_);have hl:x.sources.length=1:=by omega
 obtain ⟨y,hy⟩:=List.length_eq_one_iff.1 hl
 rw [hy]
 show ((y == p)=true)↔_
 simp
variable {m:aL}
theorem Ps {x:aV} {t:Int} (ht:0≤t∧t < (m.h.Txns.length:Int)):lY t x m=some (decide (t=x.Ask.Txn∨(idx m.h.Txns t).Status≠1)):=by
 refine zC.1 ?_;unfold lY;refine aA (fun h1=>ag ⟨fun _ => .inl h1,fun _=>rfl⟩) (fun h1 => ?_);obtain ⟨n,rfl⟩:∃ n:Nat,t=(n:Int):=⟨t.toNat,by omega⟩
 refine bA (Ie (by omega)) (ag ?_)
 simp [h1]
theorem Uc {l:List Int} {x:aV} (hl:l.length < 2 ^ 60) (hr:∀ t ∈ l,0≤t∧t < (m.h.Txns.length:Int)):Tri (bV l x m) (fun r=>(r = -1∧∀ t ∈ l,¬ (t=x.Ask.Txn∨(idx m.h.Txns t).Status≠1)) ∨
  ∃ k:Nat,r=(k:Int)∧k < l.length∧(idx l (k:Int)=x.Ask.Txn∨(idx m.h.Txns (idx l (k:Int))).Status≠1)∧∀ j:Nat,j < k → ¬ (idx l (j:Int)=x.Ask.Txn∨(idx m.h.Txns (idx l (j:Int))).Status≠1)):=by
 unfold bV;refine bX (k0:=0) l.length (fun k s=>s=(k:Int)∧∀ j:Nat,j < k → ¬ (idx l (j:Int)=x.Ask.Txn∨(idx m.h.Txns (idx l (j:Int))).Status≠1)) (Nat.zero_le _) ⟨rfl,fun j h=>absurd h (Nat.not_lt_zero _)⟩ ?_;rintro k s hk ⟨rfl,hno⟩;have hw:w64 ((k:Int) + 1)=((k + 1:Nat):Int):=aZ (by omega);unfold gZ
 dsimp only
 rw [hw]
 refine aA (fun h1 => ?_) (fun h1 => ?_)
 ·have a1:k < l.length:=by omega
  refine aj (by omega) (bA (Ps (hr _ (iC a1))) ?_)
  by_cases h2:idx l (k:Int)=x.Ask.Txn∨(idx m.h.Txns (idx l (k:Int))).Status≠1
  ·rw [decide_eq_true h2,cond_true]
   exact aD (ag (.inr ⟨k,rfl,a1,h2,hno⟩))
  ·rw [decide_eq_false h2,cond_false]
   refine ag ⟨a1,rfl,fun j hj => ?_⟩;rcases Nat.lt_or_ge j k with h3 | h3
   ·exact hno j h3
   ·have:j=k:=by omega
    subst this;exact h2
 ·have:k=l.length:=by omega
  subst this;refine aD (ag (.inl ⟨rfl,fun t ht => ?_⟩));obtain ⟨j,hj,e⟩:=yg ht
  rw [← e]
  exact hno j hj
theorem Qi {l:List Int} {x:aV} (hl:l.length < 2 ^ 60) (hr:∀ t ∈ l,0≤t∧t < (m.h.Txns.length:Int)):bR l x m=some (l.filter fun t=>decide (¬ (t=x.Ask.Txn∨(idx m.h.Txns t).Status≠1))):=by
 refine eH.1 ?_;unfold bR;refine dZ (Uc hl hr) (fun r a2 => ?_);rcases a2 with ⟨rfl,h1⟩ | ⟨k,rfl,hk,h1,h2⟩
 ·refine aA (fun _=>ag ?_) (fun h=>absurd rfl h);exact (List.filter_eq_self.2 fun t ht=>decide_eq_true (h1 t ht)).symm
 ·refine aA (fun h=>by omega) (fun _ => ?_);refine aj (by omega) ?_;have hw:w64 ((k:Int) + 1)=((k + 1:Nat):Int):=aZ (by omega)
  rw [hw]
  have e0:l.take (k:Int).toNat=(l.take (k + 1)).filter fun t=>decide (¬ (t=x.Ask.Txn∨(idx m.h.Txns t).Status≠1)):=by
   rw [tJ hk,List.filter_append]
   have e1:(l.take k).filter (fun t=>decide (¬ (t=x.Ask.Txn∨(idx m.h.Txns t).Status≠1)))=l.take k:=List.filter_eq_self.2 fun t ht=>by
    obtain ⟨j,hj,_,e⟩:=RU.1 ht
    rw [← e]
    exact decide_eq_true (h2 j hj)
   have e2:[idx l (k:Int)].filter (fun t=>decide (¬ (t=x.Ask.Txn∨(idx m.h.Txns t).Status≠1)))=[]:=by
    rw [List.filter_eq_nil_iff]
    intro t ht
    rw [List.mem_singleton.1 ht,decide_eq_true_eq]
    exact fun h=>h h1
   rw [e1,e2,List.append_nil]
   congr 1
  rw [e0]
  refine bX (k0:=k + 1) l.length (fun q s=>s=((l.take q).filter (fun t=>decide (¬ (t=x.Ask.Txn∨(idx m.h.Txns t).Status≠1))),(q:Int))) (by omega) rfl ?_;rintro q s hq rfl;have a3:w64 ((q:Int) + 1)=((q + 1:Nat):Int):=aZ (by omega);unfold gV
  dsimp only
  rw [a3]
  refine aA (fun h3 => ?_) (fun h3 => ?_)
  ·have a1:q < l.length:=by omega
   refine aj (by omega) (bA (Ps (hr _ (iC a1))) ?_)
   by_cases h4:idx l (q:Int)=x.Ask.Txn∨(idx m.h.Txns (idx l (q:Int))).Status≠1
   ·rw [decide_eq_true h4]
    refine ag ⟨a1,?_⟩
    dsimp only
    rw [tJ a1,List.filter_append,List.filter_cons_of_neg (by rw [decide_eq_true_eq]; exact fun h=>h h4)]
    simp
   ·rw [decide_eq_false h4]
    refine ag ⟨a1,?_⟩
    dsimp only
    rw [tJ a1,List.filter_append,List.filter_cons_of_pos (by rw [decide_eq_true_eq]; exact h4)]
    simp
  ·have:q=l.length:=by omega
   subst this;refine aD (ag ?_)
   show List.filter _ _=_
   rw [List.take_length]
theorem Qj {l:List aV} {x:aV} {t:Int} (hl:l.length < 2 ^ 60) (hx:0 < x.sources.length):dO l t x=some (decide (∃ b ∈ l,b.Ask.Txn=t∧b.Ask.Key=x.Ask.Key∧b.sources=[idx x.sources 0])):=by
 refine zC.1 ?_;have h1:Tri (bK l t x) (fun r=>0≤r↔∃ b ∈ l,b.Ask.Txn=t∧b.Ask.Key=x.Ask.Key∧b.sources=[idx x.sources 0]):=by
  unfold bK;refine bX (k0:=0) l.length (fun k s=>s=(k:Int)∧∀ j:Nat,j < k → ¬ ((idx l (j:Int)).Ask.Txn=t∧(idx l (j:Int)).Ask.Key=x.Ask.Key∧(idx l (j:Int)).sources=[idx x.sources 0])) (Nat.zero_le _) ⟨rfl,fun j h=>absurd h (Nat.not_lt_zero _)⟩ ?_;rintro k s hk ⟨rfl,hno⟩;have hw:w64 ((k:Int) + 1)=((k + 1:Nat):Int):=aZ (by omega);unfold gI
  dsimp only
  rw [hw]
  refine aA (fun h1 => ?_) (fun h1 => ?_)
  ·have a1:k < l.length:=by omega
   have hm:idx l (k:Int) ∈ l:=by rw [dJ (n:=k) rfl a1]; exact List.getElem_mem _
   have o1:nH (idx l (k:Int)) t x=some (decide ((idx l (k:Int)).Ask.Txn=t∧(idx l (k:Int)).Ask.Key=x.Ask.Key∧(idx l (k:Int)).sources=[idx x.sources 0])):=by
    refine zC.1 ?_;unfold nH;refine aA (fun q1 => ?_) (fun q1=>ag ⟨fun h=>(nomatch h),fun h=>absurd h.1 q1⟩);refine aA (fun q2 => ?_) (fun q2=>ag ⟨fun h=>(nomatch h),fun h=>absurd h.2.1 q2⟩);refine aj (by omega) (bA Pq (ag ?_))
    simp [q1,q2]
   refine aj (by omega) (bA o1 ?_)
   by_cases h2:(idx l (k:Int)).Ask.Txn=t∧(idx l (k:Int)).Ask.Key=x.Ask.Key∧(idx l (k:Int)).sources=[idx x.sources 0]
   ·rw [decide_eq_true h2,cond_true]
    exact aD (ag ⟨fun _=>⟨_,hm,h2⟩,fun _=>by omega⟩)
   ·rw [decide_eq_false h2,cond_false]
    refine ag ⟨a1,rfl,fun j hj => ?_⟩;rcases Nat.lt_or_ge j k with h3 | h3
    ·exact hno j h3
    ·have:j=k:=by omega
     subst this;exact h2
  ·have:k=l.length:=by omega
   subst this;refine aD (ag ⟨fun h=>absurd h (by decide),?_⟩);rintro ⟨b,hb,h2⟩;obtain ⟨j,hj,e⟩:=List.getElem_of_mem hb
   rw [← e,← dJ (n:=j) rfl hj] at h2
   exact absurd h2 (hno j hj)
 unfold dO;refine dZ h1 (fun r hr=>ag ?_)
 rw [decide_eq_true_iff]
 exact hr
theorem Qk (hS:fo h) (hc:aJ h=some 0) {l:List Edge} {a:Ask} (ha:a ∈ bn h h.Txns.length) {t:Int}:fE ⟨h,(bn h h.Txns.length).map (uN h),l⟩ (uN h a) t=some (decide (ovr h a t)):=by
 refine zC.1 ?_;obtain ⟨i1,_,_⟩:=pG hS h.Txns.length (Nat.le_refl _);obtain ⟨_,_,_,hpl⟩:=Ja hS hc ha;unfold fE;refine bA Pq ?_
 by_cases h1:nk h a=[-1]
 ·have:(uN h a).sources=[-1]:=h1
  rw [decide_eq_true this,cond_true]
  exact ag ⟨fun _ => .inl h1,fun _=>rfl⟩
 ·have:¬ (uN h a).sources=[-1]:=h1
  rw [decide_eq_false this,cond_false]
  unfold uN
  dsimp only
  by_cases h2:made h a
  ·rw [decide_eq_true h2,cond_true]
   refine bA (Gi (by omega)) (ag ?_);unfold ovr
   simp [h1,h2]
  ·rw [decide_eq_false h2,cond_false]
   have no:¬ (kd h a=1∧∃ p,nk h a=[p]∧p≠t)→Tri (jk ⟨h,(bn h h.Txns.length).map (uN h),l⟩ ⟨a,nk h a,(pts h a).1,false,kd h a⟩ t true) (fun b=>b=true↔ovr h a t):=fun hn=>by
    unfold jk
    rw [cond_true]
    refine ag ⟨fun h=>(nomatch h),?_⟩;rintro (h | h | h)
    ·exact absurd h h1
    ·exact absurd h.1 h2
    ·obtain ⟨_,q1,p,q2,q3,_⟩:=h;exact absurd ⟨q1,p,q2,q3⟩ hn
   refine aA (fun h3=>no (fun h=>h3 h.1)) (fun h3 => ?_);refine aA (fun h4=>no ?_) (fun h4 => ?_)
   ·rintro ⟨_,p,q,_⟩
    rw [q] at h4
    exact h4 rfl
   have h4:(nk h a).length=1:=Classical.byContradiction fun h=>h4 (by omega);have h3:kd h a=1:=Classical.byContradiction h3;obtain ⟨p,hp⟩:=List.length_eq_one_iff.1 h4;refine aj (by omega) ?_;have a2:idx (nk h a) 0=p:=by rw [hp]; rfl
   rw [a2]
   by_cases h5:p=t
   ·rw [beq_iff_eq.2 h5]
    refine no ?_;rintro ⟨_,q,e,hn⟩
    rw [hp] at e
    cases e;exact hn h5
   ·rw [beq_eq_false_iff_ne.2 h5]
    unfold jk
    rw [cond_false]
    have a3:=hS.len;refine bA (Qj (by rw [List.length_map]; omega) (by show 0 < (nk h a).length; omega)) (ag ?_)
    rw [decide_eq_true_iff]
    dsimp only
    rw [a2]
    unfold ovr
    constructor
    ·rintro ⟨b,hb,q1,q2,q3⟩;obtain ⟨c,a1,rfl⟩:=List.mem_map.1 hb;exact .inr (.inr ⟨h2,h3,p,hp,h5,c,a1,q1,q2,q3⟩)
    ·rintro (h | h | h)
     ·exact absurd h h1
     ·exact absurd h.1 h2
     ·obtain ⟨_,_,q,e,_,c,a1,q1,q2,q3⟩:=h
      rw [hp] at e
      cases e;exact ⟨_,List.mem_map.2 ⟨c,a1,rfl⟩,q1,q2,q3⟩
end
end Go.Proofs.YtfpeabnehpclnaaGreatT
namespace Go.Proofs.YtfpeabnehpclnaaGreatT
open Go Go.Proofs Go.Proofs.YtfpeabnehpclnaaGreatE
set_option linter.unusedVariables false
set_option linter.unusedSimpArgs false
open Classical
section
variable {h:History}
noncomputable abbrev yR (h:History):List aV:=(bn h h.Txns.length).map (uN h)
theorem Pt (hS:fo h) (hc:aJ h=some 0) {a:Ask} (ha:a ∈ bn h h.Txns.length) {l0 l:List Edge} (hl:l.length < 2 ^ 30):lg ⟨h,yR h,l0⟩ (uN h a) (dwr h a) l=some ⟨h,yR h,l++rwE h a⟩:=by
 have a2:=hS.len;have hd:=Dx (h:=h) (a:=a);refine eH.1 ?_;unfold lg;refine bX (k0:=0) (dwr h a).length (fun k s=>s=(l++upE (fun k=>rwT h a (idx (dwr h a) (k:Int))) k,(k:Int))) (Nat.zero_le _) (by simp [upE]) ?_;rintro k s hk rfl;have hw:w64 ((k:Int) + 1)=((k + 1:Nat):Int):=aZ (by omega);have hu:=Lv (h:=h) (a:=a) (k:=k);have hsu:upE (fun k=>rwT h a (idx (dwr h a) (k:Int))) (k + 1)=upE (fun k=>rwT h a (idx (dwr h a) (k:Int))) k++rwT h a (idx (dwr h a) (k:Int)):=qC;unfold vz qY
 dsimp only
 rw [hw]
 refine aA (fun h1 => ?_) (fun h1 => ?_)
 ·have a1:k < (dwr h a).length:=by omega
  refine aj (by omega) (bA (Qk hS hc ha) ?_)
  by_cases h2:ovr h a (idx (dwr h a) (k:Int))
  ·rw [decide_eq_true h2,cond_true]
   refine bA (Gq (by simp only [List.length_append]; omega)) (ag ⟨a1,?_⟩)
   dsimp only
   rw [hsu,rwT,if_pos h2,List.append_assoc]
   rfl
  ·rw [decide_eq_false h2,cond_false]
   refine ag ⟨a1,?_⟩
   dsimp only
   rw [hsu,rwT,if_neg h2,List.append_nil]
 ·have:k=(dwr h a).length:=by omega
  subst this;exact aD (ag rfl)
theorem Pv (hS:fo h) (hc:aJ h=some 0) {a:Ask} (ha:a ∈ bn h h.Txns.length) {l0 l:List Edge} (hl:l.length < 2 ^ 29):jF ⟨h,yR h,l0⟩ (uN h a) l=some ⟨h,yR h,l++wwE h a++rwE h a⟩:=by
 have a6:=hS.len;have hd:=Dx (h:=h) (a:=a);obtain ⟨_,_,_,hpl⟩:=Ja hS hc ha;refine eH.1 ?_;unfold jF;refine bA (Fh hS hc) ?_;have hwl:=qH (h:=h) (key:=a.Key) (k:=h.Txns.length);refine bA (Qi (m:=⟨h,yR h,l⟩) (x:=uN h a) (show (gF h a.Key h.Txns.length).length < 2 ^ 60 by omega) (fun t ht=>by have:=CO.1 ht; exact ⟨this.1,this.2.1⟩)) ?_
 show Tri (bif (uN h a).made then iter (ru ⟨h,yR h,l0⟩ (uN h a) (dwr h a)) (l,0) else lg ⟨h,yR h,l0⟩ (uN h a) (dwr h a) l) _
 by_cases hm:made h a
 ·rw [show (uN h a).made=true from decide_eq_true hm,cond_true]
  refine bX (k0:=0) (pts h a).1.length (fun k s=>s=(l++upE (zm h a) k,(k:Int))) (Nat.zero_le _) (by simp [upE]) ?_;rintro k s hk rfl;have hw:w64 ((k:Int) + 1)=((k + 1:Nat):Int):=aZ (by omega);have hu:=Lx hS (a:=a) (k:=k);have hsu:upE (zm h a) (k + 1)=upE (zm h a) k++zm h a k:=qC;unfold ru rq nI
  dsimp only
  rw [hw]
  show Tri (bif decide ((k:Int) < ((pts h a).1.length:Int)) then must (0≤(k:Int)∧(k:Int) < ((pts h a).1.length:Int)) _ else _) _
  refine aA (fun h1 => ?_) (fun h1 => ?_)
  ·have a2:k < (pts h a).1.length:=by omega
   refine aj (by omega) ?_;have rest:¬ (kd h a=2∧k + 1 < (pts h a).1.length)→Tri (iter (rf ⟨h,yR h,l0⟩ (uN h a) (dwr h a) (k:Int)) (l++upE (zm h a) k,0)) (Upm (pts h a).1.length k (fun k s=>s=(l++upE (zm h a) k,(k:Int))) (fun b:aL=>b=⟨h,yR h,l++wwE h a++rwE h a⟩)):=fun hn=>by
    refine bX (k0:=0) (dwr h a).length (fun q s=>s=(l++upE (zm h a) k++upE (fun q=>wwT h a (idx (pts h a).1 (k:Int)) (idx (dwr h a) (q:Int))) q,(q:Int))) (Nat.zero_le _) (by simp [upE]) ?_;rintro q s hq rfl;have a4:w64 ((q:Int) + 1)=((q + 1:Nat):Int):=aZ (by omega);have a5:=yj (f:=fun q=>wwT h a (idx (pts h a).1 (k:Int)) (idx (dwr h a) (q:Int))) (m:=1) (fun q=>Lu) q;have a3:upE (fun q=>wwT h a (idx (pts h a).1 (k:Int)) (idx (dwr h a) (q:Int))) (q + 1)=upE (fun q=>wwT h a (idx (pts h a).1 (k:Int)) (idx (dwr h a) (q:Int))) q++wwT h a (idx (pts h a).1 (k:Int)) (idx (dwr h a) (q:Int)):=qC;unfold rf qZ nI
    dsimp only
    rw [hw,a4]
    refine aA (fun h2 => ?_) (fun h2 => ?_)
    ·have a1:q < (dwr h a).length:=by omega
     refine aj (by omega) (bA (Gi (l:=(pts h a).1) (by omega)) ?_)
     by_cases h3:idx (dwr h a) (q:Int) ∈ (pts h a).1
     ·rw [decide_eq_true h3,Bool.not_true,cond_false]
      refine ag ⟨a1,?_⟩
      dsimp only
      rw [a3,wwT,if_pos h3,List.append_nil]
     ·rw [decide_eq_false h3,Bool.not_false,cond_true]
      refine bA (Gq (by simp only [List.length_append]; omega)) (ag ⟨a1,?_⟩)
      dsimp only
      rw [a3,wwT,if_neg h3,List.append_assoc]
      rfl
    ·have:q=(dwr h a).length:=by omega
     subst this;refine aD (ag ⟨a2,?_⟩)
     dsimp only
     rw [hsu,zm,if_neg hn,List.append_assoc]
   have kk:(uN h a).kind=kd h a:=rfl
   by_cases h2:kd h a=2
   ·rw [kk,beq_iff_eq.2 h2,cond_true]
    show Tri (bif decide (((k + 1:Nat):Int) < ((pts h a).1.length:Int)) then must (0≤((k + 1:Nat):Int)∧((k + 1:Nat):Int) < ((pts h a).1.length:Int)) _ else _) _
    refine aA (fun h3 => ?_) (fun h3=>rest (fun h=>by omega));refine aj (by omega) (bA (Gq (by simp only [List.length_append]; omega)) (ag ⟨a2,?_⟩))
    dsimp only
    rw [hsu,zm,if_pos ⟨h2,by omega⟩,List.append_assoc]
    rfl
   ·rw [kk,beq_eq_false_iff_ne.2 h2,cond_false,cond_false]
    exact rest (fun h=>h2 h.1)
  ·have:k=(pts h a).1.length:=by omega
   subst this;refine aD ?_
   rw [Pt hS hc ha (by rw [List.length_append]; omega)]
   refine ag ?_
   show aL.mk _ _ _=_
   rw [wwE,if_pos hm]
 ·rw [show (uN h a).made=false from decide_eq_false hm,cond_false,Pt hS hc ha (by omega)]
  refine ag ?_
  rw [wwE,if_neg hm,List.append_nil]
theorem Sa (hS:fo h) (hc:aJ h=some 0) {a:Ask} (ha:a ∈ bn h h.Txns.length) {l:List Edge} (hl:l.length < 2 ^ 28):aI ⟨h,yR h,l⟩ (uN h a)=some ⟨h,yR h,l++Lt h a⟩:=by
 refine eH.1 ?_;unfold aI Lt;have none_:wrE h a=[]→Tri (iG ⟨h,yR h,l⟩ (uN h a) false) (fun b=>b=⟨h,yR h,l++(wrE h a++wwE h a++rwE h a)⟩):=fun e=>by
  unfold iG
  rw [cond_false]
  show Tri (jF ⟨h,yR h,l⟩ (uN h a) l) _
  rw [Pv hS hc ha (by omega),e]
  exact ag (by rw [List.nil_append,List.append_assoc])
 show Tri (bif (((nk h a).length:Int) == 1) then must (0≤(0:Int)∧(0:Int) < ((nk h a).length:Int)) (iG ⟨h,yR h,l⟩ (uN h a) (decide (idx (nk h a) (0:Int) ≥ 0))) else iG ⟨h,yR h,l⟩ (uN h a) false) _
 refine aA (fun h1 => ?_) (fun h1=>none_ ?_)
 ·refine aj (by omega) ?_;have a1:(nk h a).length=1:=by omega
  obtain ⟨p,hp⟩:=List.length_eq_one_iff.1 a1;have e0:idx (nk h a) 0=p:=by rw [hp]; rfl
  have hpo:=UQ hS hc ha (x:=p) (by rw [hp]; simp)
  rw [e0]
  by_cases h2:p = -1
  ·rw [decide_eq_false (by omega)]
   refine none_ ?_;unfold wrE
   rw [hp]
   exact if_pos h2
  ·have h3:0≤p:=((wU.1 (hpo.resolve_left h2)).1).1
   rw [decide_eq_true h3]
   have ew:wrE h a=[⟨p,a.Txn,4,a.Key⟩]:=by
    unfold wrE
    rw [hp]
    exact if_neg h2
   unfold iG
   rw [cond_true]
   show Tri (must (0≤(0:Int)∧(0:Int) < ((nk h a).length:Int)) ((gU ⟨h,yR h,l⟩ (idx (nk h a) (0:Int)) a.Txn 4 a.Key).bind _)) _
   refine aj (by omega) (bA (Gq (by show l.length < _; omega)) ?_)
   rw [e0]
   show Tri (jF ⟨h,yR h,l⟩ (uN h a) (l++([(⟨p,a.Txn,4,a.Key⟩:Edge)]:List Edge))) _
   rw [Pv hS hc ha (by rw [List.length_append,List.length_singleton]; omega),ew]
   exact ag (by simp only [List.append_assoc])
 ·unfold wrE
  split
  ·rename_i p hp
   rw [hp] at h1
   exact absurd rfl h1
  ·rfl
noncomputable def CW (h:History):List Edge:=soL h h.Txns.length++rtL h h.Txns.length++(bn h h.Txns.length).flatMap (Lt h)
noncomputable def uz (h:History) (k:Nat):List Edge:=soL h h.Txns.length++rtL h h.Txns.length++((bn h h.Txns.length).take k).flatMap (Lt h)
theorem BB {k:Nat} (hk:k < (bn h h.Txns.length).length):uz h (k + 1)=uz h k++Lt h (idx (bn h h.Txns.length) (k:Int)):=by
 unfold uz
 rw [tJ hk,List.flatMap_append]
 simp
theorem CX (hS:fo h) (hc:aJ h=some 0):∀ k:Nat,k≤(bn h h.Txns.length).length→(uz h k).length≤32 + 1024 + 2000 * k
 | 0,_=>by
  have h1:=Ic (h:=h) (k:=h.Txns.length);have h2:=Ls hS (Nat.le_refl _);have h3:=hS.len;unfold uz
  simp only [List.take_zero,List.flatMap_nil,List.append_nil,List.length_append]
  omega
 | k + 1,hk=>by
  rw [BB (by omega),List.length_append]
  have h1:=CX hS hc k (by omega);have h2:=MV hS hc (sI (show k < (bn h h.Txns.length).length by omega))
  omega
theorem Og (hs:qo h) (hS:fo h) (hc:aJ h=some 0) {a:Ask} (ha:a ∈ bn h h.Txns.length):vw h a=some ((pts h a).1,(pts h a).2,0):=by
 refine eH.1 ?_;unfold vw;refine dZ (IY hs hS hc (MS hS ha)) (fun r hr => ?_);rcases hr with ⟨rfl,_⟩ | ⟨_,h1⟩
 ·refine aA (fun h1=>absurd rfl h1) (fun _ => ?_);exact bA (MU hS hc ha).1 (ag rfl)
 ·exact absurd ha h1
theorem Oh (hs:qo h) (hS:fo h) (hc:aJ h=some 0):ed h=some (⟨(h.Txns.length:Int),CW h⟩,0):=by
 have a4:=hS.len;have hA:mh h=some (bn h h.Txns.length,0):=by unfold mh; rw [Fg hs hS hc]; rfl
 obtain ⟨i1,_,_⟩:=pG hS h.Txns.length (Nat.le_refl _);refine eH.1 ?_;unfold ed;refine bA hA ?_;refine aA (fun h1=>absurd rfl h1) (fun _ => ?_);refine bX (k0:=0) (bn h h.Txns.length).length (fun k s=>s=(((bn h h.Txns.length).take k).map (uN h),(k:Int))) (Nat.zero_le _) (by simp) ?_;rintro k s hk rfl;have hw:w64 ((k:Int) + 1)=((k + 1:Nat):Int):=aZ (by omega);unfold zT zS xn zR
 dsimp only
 rw [hw]
 refine aA (fun h1 => ?_) (fun h1 => ?_)
 ·have a1:k < (bn h h.Txns.length).length:=by omega
  have ha:=sI a1;refine aj (by omega) (bA (RX hS hc ha) (bA (Ll hs hS hc ha) (bA (Og hs hS hc ha) ?_)));have hlen:(((bn h h.Txns.length).take k).map (uN h)).length=k:=by rw [List.length_map,List.length_take]; omega
  have last:∀ b:Bool,b=decide (made h (idx (bn h h.Txns.length) (k:Int)))→Tri (must (((((bn h h.Txns.length).take k).map (uN h)).length + 1 + ((((bn h h.Txns.length).take k).map (uN h)).length + 1) / 4 + 192) * 112≤281474976710656∧(((bn h h.Txns.length).take k).map (uN h)).length + 1≤9223372036854775807)
    (some (.inl (((bn h h.Txns.length).take k).map (uN h)++([(⟨(idx (bn h h.Txns.length) (k:Int)),nk h (idx (bn h h.Txns.length) (k:Int)),(pts h (idx (bn h h.Txns.length) (k:Int))).1,b,kd h (idx (bn h h.Txns.length) (k:Int))⟩:aV)]:List aV),((k + 1:Nat):Int))))) (Upm (bn h h.Txns.length).length k (fun k s=>s=(((bn h h.Txns.length).take k).map (uN h),(k:Int))) (fun b:dU×Int=>b=(⟨(h.Txns.length:Int),CW h⟩,0))):=by
   rintro b rfl;refine aj (by rw [hlen]; omega) (ag ⟨a1,?_⟩)
   dsimp only
   rw [tJ a1,List.map_append]
   rfl
  dsimp only
  by_cases h2:(pts h (idx (bn h h.Txns.length) (k:Int))).2=true
  ·rw [h2,cond_true]
   refine last _ ?_;have e:made h (idx (bn h h.Txns.length) (k:Int))↔(((idx (bn h h.Txns.length) (k:Int)).Base.length:Int) > 0):=⟨fun h=>by have:=h.2; omega,fun h=>⟨h2,by omega⟩⟩
   exact (decide_eq_decide.2 e).symm
  ·rw [Bool.not_eq_true] at h2
   rw [h2,cond_false]
   exact last _ (decide_eq_false (fun h=>by have:=h.1; rw [h2] at this; cases this)).symm
 ·have:k=(bn h h.Txns.length).length:=by omega
  subst this
  rw [List.take_length]
  refine bA (JX (m:=⟨h,yR h,[]⟩) a4 (by simp)) ?_;have hsl:=Ic (h:=h) (k:=h.Txns.length);refine bA (Qh (m:=⟨h,yR h,[]++soL h h.Txns.length⟩) hS (by rw [List.nil_append]; show (soL h h.Txns.length).length < _; omega)) ?_
  suffices a2:Tri (iter (xq h (yR h)) ([]++soL h h.Txns.length++rtL h h.Txns.length,0)) (fun y:(List aV×Int) ⊕ (dU×Int)=>y = .inr (⟨(h.Txns.length:Int),CW h⟩,0)) from gX a2 (by rintro y rfl; rfl)
  refine bX (k0:=0) (bn h h.Txns.length).length (fun k s=>s=(uz h k,(k:Int))) (Nat.zero_le _) (by simp [uz]) ?_;rintro k s hk rfl;have a3:w64 ((k:Int) + 1)=((k + 1:Nat):Int):=aZ (by omega);have hel:=CX hS hc k hk;have hal:(yR h).length=(bn h h.Txns.length).length:=List.length_map ..;unfold xq
  dsimp only
  rw [a3,hal]
  refine aA (fun h2 => ?_) (fun h2 => ?_)
  ·have a1:k < (bn h h.Txns.length).length:=by omega
   have ha:=sI a1;have hi:idx (yR h) (k:Int)=uN h (idx (bn h h.Txns.length) (k:Int)):=by
    rw [dJ (n:=k) rfl (by omega),dJ (n:=k) rfl a1,List.getElem_map]
   refine aj (by omega) ?_
   rw [hi]
   refine bA (Sa hS hc ha (l:=uz h k) (by omega)) (ag ⟨a1,?_⟩)
   dsimp only
   rw [BB a1]
  ·have:k=(bn h h.Txns.length).length:=by omega
   subst this;refine aD (aD (ag ?_))
   show Sum.inr _=_
   unfold uz CW
   rw [List.take_length]
end
end Go.Proofs.YtfpeabnehpclnaaGreatT
