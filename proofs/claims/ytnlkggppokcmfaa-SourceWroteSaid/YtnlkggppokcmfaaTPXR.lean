import Derived.Test.YtnlkggppokcmfaaTPXB
namespace Go.Proofs.YtnlkggppokcmfaaT
open Go Go.Proofs Go.Proofs.YtnlkggppokcmfaaE
set_option linter.unusedVariables false
set_option linter.unusedSimpArgs false
def Cr (h:History) (key ty:Int):Prop:=∀ t p:Nat,t < h.Txns.length→p < (idx h.Txns (t:Int)).Ops.length→(opAt h (t:Int) (p:Int)).Key=key→typ (opAt h (t:Int) (p:Int)).Kind=ty
def Apart (e f:Call×Int):Prop:=e.1.Key=f.1.Key→(e.1.Kind=2∨e.1.Kind=3)→(f.1.Kind=2∨f.1.Kind=3)→e.1.Arg≠f.1.Arg
theorem zA {L:List (Call×Int)} (h:mo [] L):L.Pairwise Apart:=by
 rw [List.pairwise_iff_getElem]
 intro i j hi hj hij hk h1 h2;have:=(h j hj).2.1
 rw [dh (n:=j) rfl hj] at this
 exact this h2 L[i] (by rw [List.nil_append]; exact List.mem_take_iff_getElem.2 ⟨i,by omega,rfl⟩) hk h1
theorem AA {h:History} {t key v:Int}:v ∈ fI h t key↔∃ o ∈ (idx h.Txns t).Ops,o.Key=key∧o.Kind≤4∧o.Arg=v:=by
 unfold fI rQ
 rw [List.take_length]
 simp only [List.mem_map,List.mem_filter,decide_eq_true_eq]
 constructor
 ·rintro ⟨o,⟨h1,h2,h3⟩,h4⟩; exact ⟨o,h1,h2,h3,h4⟩
 ·rintro ⟨o,h1,h2,h3,h4⟩; exact ⟨o,⟨h1,h2,h3⟩,h4⟩
theorem JN {h:History} {t:Nat} {o:Op} (ho:o ∈ (idx h.Txns (t:Int)).Ops):∃ p:Nat,p < (idx h.Txns (t:Int)).Ops.length∧opAt h (t:Int) (p:Int)=o:=by
 obtain ⟨p,hp,rfl⟩:=List.getElem_of_mem ho;exact ⟨p,hp,dh rfl hp⟩
theorem zf {h:History} (hS:iw h) {key ty:Int} (hty:Cr h key ty) (a0:ty=2∨ty=3) {t:Nat} (ht:t < h.Txns.length) {o:Op} (ho:o ∈ (idx h.Txns (t:Int)).Ops) (hk:o.Key=key) (h4:o.Kind≤4):o.Kind=2∨o.Kind=3:=by
 obtain ⟨p,hp,rfl⟩:=JN ho;have h1:=hty t p ht hp hk;obtain ⟨k1,k2⟩:=sV hS ht hp;unfold typ at h1
 omega
theorem Cs {h:History} (hS:iw h) {key ty:Int} (hty:Cr h key ty) (a0:ty=2∨ty=3) {t:Nat} (ht:t < h.Txns.length):(fI h (t:Int) key).Nodup:=by
 have hp:=(List.pairwise_flatMap.1 (zA hS.ents)).1 t (List.mem_range.2 ht);unfold vK bT at hp
 rw [List.map_map,List.pairwise_map] at hp
 unfold fI rQ
 rw [List.take_length]
 unfold List.Nodup
 rw [List.pairwise_map,List.pairwise_filter]
 refine List.Pairwise.imp_of_mem (fun {x y} hx hy hR => ?_) hp;intro h1 h2
 rw [decide_eq_true_eq] at h1 h2
 refine hR ?_ (zf hS hty a0 ht hx h1.1 h1.2) (zf hS hty a0 ht hy h2.1 h2.2)
 show idx h.Keys _=idx h.Keys _
 rw [h1.1,h2.1]
theorem Ct {h:History} (hS:iw h) {key ty:Int} (hty:Cr h key ty) (a0:ty=2∨ty=3) {t u:Nat} (ht:t < h.Txns.length) (hu:u < h.Txns.length) (hn:t≠u) {v:Int}
  (h1:v ∈ fI h (t:Int) key):v ∉ fI h (u:Int) key:=by
 intro h2;have hp:=(List.pairwise_flatMap.1 (zA hS.ents)).2;obtain ⟨o,ho,k1,k2,k3⟩:=AA.1 h1;obtain ⟨o',ho',l1,l2,l3⟩:=AA.1 h2;have a1:∀ {t u:Nat} (ht:t < h.Txns.length) (hu:u < h.Txns.length),t < u→∀ {o o':Op},o ∈ (idx h.Txns (t:Int)).Ops→o' ∈ (idx h.Txns (u:Int)).Ops→o.Key=key→o'.Key=key→o.Kind≤4→o'.Kind≤4→o.Arg≠o'.Arg:=by
  intro t u ht hu htu o o' ho ho' e1 e2 e3 e4;have:=(List.pairwise_iff_getElem.1 hp) t u (by simpa using ht) (by simpa using hu) htu
  rw [List.getElem_range,List.getElem_range] at this
  refine this (ql h o,(t:Int)) ?_ (ql h o',(u:Int)) ?_ ?_ (zf hS hty a0 ht ho e1 e3) (zf hS hty a0 hu ho' e2 e4)
  ·unfold vK bT; rw [List.map_map]; exact List.mem_map.2 ⟨o,ho,rfl⟩
  ·unfold vK bT; rw [List.map_map]; exact List.mem_map.2 ⟨o',ho',rfl⟩
  ·show idx h.Keys _=idx h.Keys _
   rw [e1,e2]
 rcases Nat.lt_or_gt_of_ne hn with hlt | hlt
 ·exact a1 ht hu hlt ho ho' k1 l1 k2 l2 (k3.trans l3.symm)
 ·exact a1 hu ht hlt ho' ho l1 k1 l2 k2 (l3.trans k3.symm)
structure yB (h:History) (a:Ask) (t p:Nat):Prop where
 tl:t < h.Txns.length
 pl:p < (idx h.Txns (t:Int)).Ops.length
 e1:a.Txn=(t:Int)
 e2:a.Place=(p:Int)
 e3:a.Key=(opAt h (t:Int) (p:Int)).Key
 rd:5≤(opAt h (t:Int) (p:Int)).Kind
 b64:a.Base.length≤64
 b4:typ (opAt h (t:Int) (p:Int)).Kind=4→a.Base.length=1
 b3:typ (opAt h (t:Int) (p:Int)).Kind=3→a.Base.Nodup
theorem AB {s:List Int} (h:Asc s):s.Nodup:=by
 exact (jG.1 h).imp (fun h=>by omega)
theorem Bv {h:History} (hS:iw h) {a:Ask} (ha:a ∈ fB h h.Txns.length):∃ t p,yB h a t p:=by
 unfold fB at ha;obtain ⟨t,ht,ha⟩:=List.mem_flatMap.1 ha;have ht:=List.mem_range.1 ht;unfold rR at ha
 split at ha
 case isFalse=>cases ha
 case isTrue hst =>
 unfold qp at ha;obtain ⟨p,hp,ha⟩:=List.mem_flatMap.1 ha;have hp:=List.mem_range.1 hp;refine ⟨t,p,?_⟩;obtain ⟨k1,k8⟩:=sV hS ht hp;obtain ⟨_,_,_,_,_,hcs⟩:=hS.txn t ht;have hc:=hcs p (by simpa [uy,bT] using hp)
 dsimp only [uy,bT] at hc
 rw [rq hp] at hc
 unfold nT ql at hc
 dsimp only at hc
 unfold yo at ha
 dsimp only at ha
 have ho:idx (idx h.Txns (t:Int)).Ops (p:Int)=opAt h (t:Int) (p:Int):=rfl
 rw [ho] at ha hc
 generalize opAt h (t:Int) (p:Int)=o at ha hc k1 k8 ho;obtain ⟨c1,c8,c3,c4,c5,c6⟩:=hc;have hoo:opAt h (t:Int) (p:Int)=o:=ho
 split at ha
 ·cases ha
 ·rename_i h4
  obtain ⟨d1,d2,d3,d4⟩:=c6 (by omega);have hg:o.Got=true:=d2.2 hst;obtain ⟨f1,f2,f3,f4⟩:=d4 hg
  split at ha
  ·rw [List.mem_singleton] at ha
   subst ha;exact ⟨ht,hp,rfl,rfl,by rw [hoo],by rw [hoo]; omega,f4,fun h=>f2 (by rw [hoo] at h; unfold typ at h; omega),fun h=>AB (f3 (by rw [hoo] at h; unfold typ at h; omega))⟩
  ·split at ha
   ·rename_i hb
    rw [List.mem_singleton] at ha
    subst ha;obtain ⟨hb,h5⟩:=hb;refine ⟨ht,hp,rfl,rfl,by rw [hoo],by rw [hoo]; omega,?_,fun h => ?_,fun h => ?_⟩
    ·dsimp only
     unfold before;have:=List.length_filter_le (fun x=>decide (x ∉ rQ (idx h.Txns (t:Int)).Ops o.Key p)) o.Vals
     split
     ·simp
     ·split
      ·simp
      ·split
       ·split
        ·simp; omega
        ·simp
       ·split
        ·split
         ·dsimp only; omega
         ·simp
        ·simp
    ·have h8:o.Kind=8:=by rw [hoo] at h; unfold typ at h; omega
     dsimp only
     unfold before at hb ⊢
     rw [h8] at hb ⊢
     split at hb
     ·cases hb
     ·rename_i hq
      rw [if_neg hq]
      simp
    ·have h7:o.Kind=7:=by rw [hoo] at h; unfold typ at h; omega
     have hnd:=AB (f3 h7)
     dsimp only
     unfold before
     rw [h7]
     split
     ·simp
     ·simp only [show ¬ ((7:Int) - 4=1) by omega,show ¬ ((7:Int) - 4=2) by omega,if_false]
      split
      ·split
       ·exact hnd.filter _
       ·simp
      ·rename_i h0
       exact absurd (show (7:Int) - 4=3 by omega) h0
   ·cases ha
end Go.Proofs.YtnlkggppokcmfaaT
namespace Go.Proofs.YtnlkggppokcmfaaT
open Go Go.Proofs Go.Proofs.YtnlkggppokcmfaaE
set_option linter.unusedVariables false
set_option linter.unusedSimpArgs false
theorem xQ {α:Type} [Inhabited α] {l:List α} {k:Nat}:gP l (k:Int) (l.length:Int)=l.drop k:=by
 unfold gP
 simp
theorem Fb {l:List Int} {v:Int} (hl:l.length < 2 ^ 60):slices_Contains_int l v=some (decide (v ∈ l)):=by
 have h1:Tri (slices_Index_int l v) (fun r=>0≤r↔∃ j:Nat,j < l.length∧idx l (j:Int)=v):=by
  unfold slices_Index_int;refine lv l.length (fun j=>idx l (j:Int)≠v) ?_;intro k hk hJ;unfold lG
  dsimp only
  repeat' (first | contradiction | with_reducible refine au (fun hq => ?_) (fun hq => ?_) | with_reducible refine ai (by first | omega | grind [bv]) ?_ | with_reducible refine ax ?_ | with_reducible refine bJ ?_ | with_reducible refine bQ ?_ | with_reducible refine bR ?_ | with_reducible refine bS ?_ | with_reducible refine ag ?_)
  all_goals grind [Nxt,bv]
 refine dV.1 ?_;unfold slices_Contains_int;refine dP h1 (fun r hr=>ag ?_);have:(∃ j:Nat,j < l.length∧idx l (j:Int)=v)↔v ∈ l:=by
  rw [List.mem_iff_getElem]
  constructor
  ·rintro ⟨j,hj,e⟩; exact ⟨j,hj,by rw [← e,dh (n:=j) rfl hj]⟩
  ·rintro ⟨j,hj,e⟩; exact ⟨j,hj,by rw [← e,dh (n:=j) rfl hj]⟩
 rw [decide_eq_decide]
 exact hr.trans this
theorem Cu {s p:List Int} (hs:s.length < 2 ^ 60):ma s p=some (decide (p <+: s)):=by
 refine dV.1 ?_;unfold ma;refine au (fun h => ?_) (fun h => ?_)
 ·refine ag ?_
  rw [eq_comm,decide_eq_false_iff_not]
  intro hp;have:=hp.length_le
  omega
 ·have hl:p.length≤s.length:=by omega
  refine ai (by omega) ?_;have hsv:bG (gP s (0:Int) (p.length:Int)) p=some (decide (gP s (0:Int) (p.length:Int)=p)):=Ai (by rw [kV hl,List.length_take]; omega);refine bY hsv (ag ?_)
  rw [decide_eq_decide,kV hl,List.prefix_iff_eq_take,eq_comm]
structure Parts (O:List Int) (W:Int→List Int):Prop where
 ne:∀ t ∈ O,0 < (W t).length
 ap:∀ t ∈ O,∀ u ∈ O,∀ v,v ∈ W t→v ∈ W u→t=u
 nd:∀ t ∈ O,(W t).Nodup
 ol:O.length≤32
 wl:∀ t ∈ O,(W t).length≤16
 pos:∀ t ∈ O,0≤t
theorem zB {h:History} (hS:iw h) {a:Ask} {t p:Nat} (ha:yB h a t p) (a0:typ (opAt h (t:Int) (p:Int)).Kind=2∨typ (opAt h (t:Int) (p:Int)).Kind=3) :
  Parts (fQ h a h.Txns.length) (fun t=>fI h t a.Key):=by
 have a1:=hS.len;have hty:Cr h a.Key (typ (opAt h (t:Int) (p:Int)).Kind):=fun t' p' ht' hp' hk=>Cq hS ht' hp' ha.tl ha.pl (hk.trans ha.e3);have hm:∀ u ∈ fQ h a h.Txns.length,∃ n:Nat,u=(n:Int)∧n < h.Txns.length∧0 < (fI h u a.Key).length:=by
  intro u hu;obtain ⟨⟨h0,h1,_,h3⟩,_⟩:=nU.1 hu;exact ⟨u.toNat,by omega,by omega,h3⟩
 refine ⟨fun u hu => ?_,fun u hu v hv x h1 h2 => ?_,fun u hu => ?_,Nat.le_trans pQ a1,fun u hu => ?_,fun u hu=>(nU.1 hu).1.1⟩
 ·obtain ⟨n,_,_,h3⟩:=hm u hu; exact h3
 ·obtain ⟨n,rfl,hn,_⟩:=hm u hu;obtain ⟨m,rfl,hm',_⟩:=hm v hv
  by_cases hne:n=m
  ·rw [hne]
  ·exact absurd h2 (Ct hS hty a0 hn hm' hne h1)
 ·obtain ⟨n,rfl,hn,_⟩:=hm u hu;exact Cs hS hty a0 hn
 ·obtain ⟨n,rfl,hn,_⟩:=hm u hu;exact Nat.le_trans qZ (hS.txn n hn).ops.1
section
variable {O:List Int} {W:Int→List Int}
def xR (O:List Int) (W:Int→List Int):List aD:=O.map (fun t=>⟨t,W t⟩)
theorem si:(xR O W).length=O.length:=List.length_map _
theorem vg {j:Nat} (hj:j < O.length):idx (xR O W) (j:Int)=⟨idx O (j:Int),W (idx O (j:Int))⟩:=rq hj
theorem dZ {l:List Int} {j:Nat} (hj:j < l.length):idx l (j:Int) ∈ l:=by rw [dh (n:=j) rfl hj]; exact List.getElem_mem _
theorem rf {l:List Int} {t:Int} (h:t ∈ l):∃ j:Nat,j < l.length∧idx l (j:Int)=t:=by
 obtain ⟨j,hj,e⟩:=List.getElem_of_mem h;exact ⟨j,hj,(dh rfl hj).trans e⟩
theorem lN {p s:List Int} (hp:p <+: s) (h0:0 < p.length):idx p 0=idx s 0:=by
 obtain ⟨r,rfl⟩:=hp;exact (iZ (j:=0) h0).symm
theorem Fe (hP:Parts O W) {rest:List Int} (hr:0 < rest.length):Tri (aV (xR O W) rest)
  (fun y=>(∃ j:Nat,j < O.length∧y=(j:Int)∧idx (W (idx O (j:Int))) 0=idx rest 0)∨(y = -1∧∀ t ∈ O,idx (W t) 0≠idx rest 0)):=by
 have hol:=hP.ol;unfold aV;refine dC (k0:=0) O.length (fun k s=>s=(k:Int)∧∀ j:Nat,j < k→idx (W (idx O (j:Int))) 0≠idx rest 0) (Nat.zero_le _) ⟨rfl,fun j h=>absurd h (Nat.not_lt_zero _)⟩ ?_;rintro k s hk ⟨rfl,hno⟩;have hw:w64 ((k:Int) + 1)=((k + 1:Nat):Int):=bn (by omega);unfold ed oq
 dsimp only
 rw [hw,si]
 refine au (fun a1 => ?_) (fun a1 => ?_)
 ·have a0:k < O.length:=by omega
  have h0:=hP.ne _ (dZ a0)
  rw [vg a0]
  refine ai (by omega) ?_
  simp only [fT _ (show 0≤(0:Int)∧(0:Int) < ((W (idx O (k:Int))).length:Int) by omega),fT _ (show 0≤(0:Int)∧(0:Int) < (rest.length:Int) by omega),Option.bind_some]
  refine au (fun he => ?_) (fun he => ?_)
  ·exact ax (ag (.inl ⟨k,a0,rfl,he⟩))
  ·refine ag ⟨a0,rfl,fun j hj => ?_⟩;rcases Nat.lt_or_ge j k with h1 | h1
   ·exact hno j h1
   ·have:j=k:=by omega
    subst this;exact he
 ·have:k=O.length:=by omega
  subst this;refine ax (ag (.inr ⟨rfl,fun t ht => ?_⟩));obtain ⟨j,hj,rfl⟩:=rf ht;exact hno j hj
theorem nV (hP:Parts O W) {rest:List Int} {t u:Int} (ht:t ∈ O) (hu:u ∈ O) (h1:idx (W t) 0=idx rest 0) (h2:idx (W u) 0=idx rest 0):t=u:=by
 have e1:=hP.ne t ht;have e2:=hP.ne u hu;refine hP.ap t ht u hu (idx rest 0) ?_ ?_
 ·rw [← h1]; exact dZ (j:=0) e1
 ·rw [← h2]; exact dZ (j:=0) e2
end
end Go.Proofs.YtnlkggppokcmfaaT
namespace Go.Proofs.YtnlkggppokcmfaaT
open Go Go.Proofs Go.Proofs.YtnlkggppokcmfaaE
set_option linter.unusedVariables false
set_option linter.unusedSimpArgs false
def Stp (O:List Int) (W:Int→List Int) (rest l:List Int):Option (Option Int)→Prop
 | none=>rest.length=0
 | some none=>0 < rest.length∧∀ t ∈ O,W t <+: rest→t ∈ l
 | some (some t)=>0 < rest.length∧t ∈ O∧W t <+: rest∧t ∉ l
section
variable {O:List Int} {W:Int→List Int} {rest l:List Int}
theorem Stp.det (hP:Parts O W) {x y:Option (Option Int)} (hx:Stp O W rest l x) (hy:Stp O W rest l y):x=y:=by
 match x,y,hx,hy with
 | none,none,_,_=>rfl
 | none,some none,h1,h2=>exact absurd (show rest.length=0 from h1) (by have:0 < rest.length:=h2.1; omega)
 | none,some (some t),h1,h2=>exact absurd (show rest.length=0 from h1) (by have:0 < rest.length:=h2.1; omega)
 | some none,none,h1,h2=>exact absurd (show rest.length=0 from h2) (by have:0 < rest.length:=h1.1; omega)
 | some (some t),none,h1,h2=>exact absurd (show rest.length=0 from h2) (by have:0 < rest.length:=h1.1; omega)
 | some none,some none,_,_=>rfl
 | some none,some (some t),h1,h2=>exact absurd (h1.2 t h2.2.1 h2.2.2.1) h2.2.2.2
 | some (some t),some none,h1,h2=>exact absurd (h2.2 t h1.2.1 h1.2.2.1) h1.2.2.2
 | some (some t),some (some u),h1,h2 =>
  rw [nV hP h1.2.1 h2.2.1 (lN h1.2.2.1 (hP.ne t h1.2.1)) (lN h2.2.2.1 (hP.ne u h2.2.1))]
def JY (W:Int→List Int) (rest l:List Int):Option (Option Int)→(List Int×List Int) ⊕ (List Int×Bool)
 | none => .inr (l,true)
 | some none => .inr ([],false)
 | some (some t) => .inl (rest.drop (W t).length,l++[t])
def JZ (W:Int→List Int) (rest l:List Int):Option (Option Int)→(List Int×List Int) ⊕ (List Int×Bool)
 | none => .inr (l,true)
 | some none => .inr ([],false)
 | some (some t) => .inl (l++[t],rest.drop (W t).length)
theorem Ff (hP:Parts O W) (hr:rest.length≤64) (hl:l.length≤64):Tri (mP (xR O W) (rest,l)) (fun x=>∃ o,Stp O W rest l o∧x=JY W rest l o):=by
 have hol:=hP.ol;unfold mP
 dsimp only
 refine au (fun h0 => ?_) (fun h0 => ?_)
 ·have h0:0 < rest.length:=by omega
  refine dP (Fe hP h0) (fun y hy => ?_);unfold jm
  rw [si]
  rcases hy with ⟨j,hj,rfl,hh⟩ | ⟨rfl,hno⟩
  ·have a0:=hP.wl _ (dZ hj);refine au (fun h1=>absurd h1 (by omega)) (fun _ => ?_);refine ai (by omega) ?_
   rw [vg hj]
   dsimp only
   generalize hg:idx O (j:Int)=t at *;have ht:t ∈ O:=hg ▸ dZ hj;refine au (fun h2 => ?_) (fun h2 => ?_)
   ·refine ax (ag ⟨some none,⟨h0,fun u hu hp => ?_⟩,rfl⟩);have:=nV hP hu ht (lN hp (hP.ne u hu)) hh;subst this;have:=hp.length_le
    omega
   ·have h2:(W t).length≤rest.length:=by omega
    refine ai (by omega) ?_;refine bY (vY (by omega)) ?_
    rw [kV h2]
    refine au (fun h3 => ?_) (fun h3 => ?_)
    ·refine ax (ag ⟨some none,⟨h0,fun u hu hp => ?_⟩,rfl⟩);have:=nV hP hu ht (lN hp (hP.ne u hu)) hh;subst this;have:=List.prefix_iff_eq_take.1 hp;exact absurd this (by simpa using h3)
    ·have h3:W t=rest.take (W t).length:=by simpa using h3
     refine bY (Fb (by omega)) ?_;refine au (fun h4 => ?_) (fun h4 => ?_)
     ·refine ax (ag ⟨some none,⟨h0,fun u hu hp => ?_⟩,rfl⟩);have:=nV hP hu ht (lN hp (hP.ne u hu)) hh;subst this;exact h4
     ·refine ai (by omega) (ai (by omega) (ai (by omega) ?_))
      rw [xQ]
      exact ag ⟨some (some t),⟨h0,ht,List.prefix_iff_eq_take.2 h3,h4⟩,rfl⟩
  ·refine au (fun h1 => ?_) (fun h1=>absurd h1 (by omega));exact ax (ag ⟨some none,⟨h0,fun u hu hp=>absurd (lN hp (hP.ne u hu)) (hno u hu)⟩,rfl⟩)
 ·exact ax (ag ⟨none,by show rest.length=0; omega,rfl⟩)
theorem Gi {h:History} {a:Ask} (hP:Parts O W) (hW:∀ t ∈ O,aL h t a.Key=some (W t)) (hr:rest.length≤64) (hl:l.length≤64) :
  Tri (ji h a O (l,rest)) (fun x=>∃ o,Stp O W rest l o∧x=JZ W rest l o):=by
 have hol:=hP.ol;unfold ji
 dsimp only
 refine au (fun h0 => ?_) (fun h0 => ?_)
 ·have h0:0 < rest.length:=by omega
  refine dC (k0:=0) O.length (fun k s=>s.2=(k:Int)∧((s.1 = -1∧∀ j:Nat,j < k → ¬ W (idx O (j:Int)) <+: rest)∨(s.1 ∈ O∧W s.1 <+: rest))) (Nat.zero_le _) ⟨rfl,.inl ⟨rfl,fun j h=>absurd h (Nat.not_lt_zero _)⟩⟩ ?_;rintro k ⟨x,y⟩ hk ⟨e,hx⟩
  dsimp only at e hx
  subst e;have hw:w64 ((k:Int) + 1)=((k + 1:Nat):Int):=bn (by omega);unfold pF lJ
  dsimp only
  rw [hw]
  refine au (fun a3 => ?_) (fun a3 => ?_)
  ·have a0:k < O.length:=by omega
   refine ai (by omega) ?_;refine bY (hW _ (dZ a0)) ?_;refine bY (Cu (by omega)) ?_;refine au (fun h1 => ?_) (fun h1 => ?_)
   ·exact ag ⟨a0,rfl,.inr ⟨dZ a0,h1⟩⟩
   ·refine ag ⟨a0,rfl,?_⟩;rcases hx with ⟨e,hx⟩ | hx
    ·refine .inl ⟨e,fun j hj => ?_⟩;rcases Nat.lt_or_ge j k with h2 | h2
     ·exact hx j h2
     ·have:j=k:=by omega
      subst this;exact h1
    ·exact .inr hx
  ·have:k=O.length:=by omega
   subst this;rcases hx with ⟨rfl,hx⟩ | ⟨hx,hp⟩
   ·refine au (fun _ => ?_) (fun h1=>absurd h1 (by omega));refine ax (ax (ag ⟨some none,⟨h0,fun t ht hp => ?_⟩,rfl⟩));obtain ⟨j,hj,rfl⟩:=rf ht;exact absurd hp (hx j hj)
   ·have h2:=hP.pos x hx;have h3:=hp.length_le;refine au (fun h1=>absurd h1 (by omega)) (fun _ => ?_);refine dC (k0:=0) l.length (fun k s=>s=(k:Int)∧∀ j:Nat,j < k→idx l (j:Int)≠x) (Nat.zero_le _) ⟨rfl,fun j h=>absurd h (Nat.not_lt_zero _)⟩ ?_;rintro m s hm ⟨rfl,hno⟩;have a2:w64 ((m:Int) + 1)=((m + 1:Nat):Int):=bn (by omega);unfold pE
    dsimp only
    rw [a2]
    refine au (fun a4 => ?_) (fun a4 => ?_)
    ·have a1:m < l.length:=by omega
     refine ai (by omega) ?_;refine au (fun h4 => ?_) (fun h4 => ?_)
     ·refine ax (ax (ax (ag ⟨some none,⟨h0,fun u hu hq => ?_⟩,rfl⟩)))
      rw [nV hP hu hx (lN hq (hP.ne u hu)) (lN hp (hP.ne x hx)),← h4]
      exact dZ a1
     ·refine ag ⟨a1,rfl,fun j hj => ?_⟩;rcases Nat.lt_or_ge j m with h5 | h5
      ·exact hno j h5
      ·have:j=m:=by omega
       subst this;exact h4
    ·have:m=l.length:=by omega
     subst this;refine ai (by omega) ?_;refine bY (hW x hx) ?_;refine ai (by omega) ?_
     rw [xQ]
     refine ax (ax (ag ⟨some (some x),⟨h0,hx,hp,fun hmem => ?_⟩,rfl⟩));obtain ⟨j,hj,e⟩:=rf hmem;exact hno j hj e
 ·exact ax (ag ⟨none,by show rest.length=0; omega,rfl⟩)
end
end Go.Proofs.YtnlkggppokcmfaaT
namespace Go.Proofs.YtnlkggppokcmfaaT
open Go Go.Proofs Go.Proofs.YtnlkggppokcmfaaE
set_option linter.unusedVariables false
set_option linter.unusedSimpArgs false
def zC (O:List Int) (W:Int→List Int) (base m:List Int):Prop:=(∀ t ∈ m,t ∈ O)∧m.Nodup∧base=m.flatMap W
def uO (O:List Int) (W:Int→List Int) (base:List Int) (r:List Int×Bool):Prop:=(r.2=true∧zC O W base r.1)∨(r=([],false)∧∀ m,¬ zC O W base m)
section
variable {O:List Int} {W:Int→List Int} {rest l:List Int}
theorem Fg (hP:Parts O W) {m:List Int} (hm:∀ t ∈ m,t ∈ O) (hr:0 < rest.length) (e:rest=m.flatMap W):∃ u m',m=u::m'∧u ∈ O∧W u <+: rest∧idx (W u) 0=idx rest 0:=by
 cases m with
 | nil=>rw [e] at hr; simp at hr
 | cons u m' =>
  have hu:=hm u (by simp);have hp:W u <+: rest:=⟨m'.flatMap W,by rw [e,List.flatMap_cons]⟩
  exact ⟨u,m',rfl,hu,hp,lN hp (hP.ne u hu)⟩
theorem AC (hP:Parts O W) {h:History} {a:Ask} (hW:∀ t ∈ O,aL h t a.Key=some (W t)) (ho:aN h a=some O) (hb:a.Base.length≤64) :
  ∃ r,dI a.Base (xR O W)=some r∧bH h a=some r∧uO O W a.Base r:=by
 have key:Tri (dI a.Base (xR O W)) (fun r=>Tri (iter (ji h a O) ([],a.Base)) (fun r'=>r=r'∧uO O W a.Base r)):=by
  unfold dI;refine xY (k0:=0) a.Base.length (fun (k:Nat) (s t:List Int×List Int)=>s.1=t.2∧s.2=t.1∧s.1.length + k≤a.Base.length∧s.2.length≤k∧(∀ t ∈ s.2,t ∈ O)∧s.2.Nodup∧a.Base=s.2.flatMap W++s.1∧∀ m,zC O W a.Base m→∃ m',m=s.2++m')
   (Nat.zero_le _) ⟨rfl,rfl,Nat.le_refl _,Nat.le_refl _,fun t h=>(nomatch h),List.nodup_nil,by simp,fun m _=>⟨m,rfl⟩⟩ ?_
  rintro k ⟨rest,l⟩ ⟨l',rest'⟩ hk ⟨e1,e2,i1,i2,i3,i4,i5,i6⟩
  dsimp only at e1 e2 i1 i2 i3 i4 i5 i6
  subst e1 e2;refine dU (Ff hP (by omega) (by omega)) ?_;rintro x ⟨o,hs,rfl⟩;refine dU (Gi hP hW (by omega) (by omega)) ?_;rintro y ⟨o',hs',rfl⟩;obtain rfl:=Stp.det hP hs hs';have nxt:∀ m,zC O W a.Base m→0 < rest.length→∃ u m',m=l++u::m'∧u ∈ O∧W u <+: rest∧idx (W u) 0=idx rest 0:=by
   intro m hm hr;obtain ⟨m',rfl⟩:=i6 m hm;obtain ⟨h1,h2,h3⟩:=hm
   rw [i5,List.flatMap_append,List.append_cancel_left_eq] at h3
   obtain ⟨u,m2,rfl,q1,q2,q3⟩:=Fg hP (fun t ht=>h1 t (List.mem_append_right _ ht)) hr h3;exact ⟨u,m2,rfl,q1,q2,q3⟩
  match o,hs with
  | none,hs =>
   refine ⟨rfl,.inl ⟨rfl,i3,i4,?_⟩⟩
   rw [i5,List.length_eq_zero_iff.1 (show rest.length=0 from hs),List.append_nil]
  | some none,hs =>
   refine ⟨rfl,.inr ⟨rfl,fun m hm => ?_⟩⟩;obtain ⟨u,m',rfl,q1,q2,q3⟩:=nxt m hm hs.1;have:=(List.nodup_append.1 hm.2.1).2.2;exact this u (hs.2 u q1 q2) u (by simp) rfl
  | some (some t),⟨s1,s2,s3,s4⟩ =>
   have h1:=hP.ne t s2;have h2:=s3.length_le;refine ⟨by omega,rfl,rfl,by rw [List.length_drop]; omega,by rw [List.length_append,List.length_singleton]; omega,fun u hu => ?_,?_,?_,fun m hm => ?_⟩
   ·rcases List.mem_append.1 hu with hu | hu
    ·exact i3 u hu
    ·rw [List.mem_singleton.1 hu]; exact s2
   ·rw [List.nodup_append]
    refine ⟨i4,List.nodup_cons.2 ⟨by simp,List.nodup_nil⟩,fun u hu v hv => ?_⟩
    rw [List.mem_singleton.1 hv]
    intro e;exact s4 (e ▸ hu)
   ·dsimp only
    rw [List.flatMap_append,List.append_assoc,i5]
    congr 1
    rw [List.flatMap_cons,List.flatMap_nil,List.append_nil]
    obtain ⟨z,hz⟩:=s3
    rw [← hz,List.drop_left]
   ·obtain ⟨u,m',rfl,q1,q2,q3⟩:=nxt m hm s1;have:=nV hP q1 s2 q3 (lN s3 h1);subst this;exact ⟨m',by simp⟩
 obtain ⟨r,hr,r',hr',rfl,ht⟩:=key;refine ⟨r,hr,?_,ht⟩;unfold bH
 rw [ho]
 exact hr'
end
end Go.Proofs.YtnlkggppokcmfaaT
namespace Go.Proofs.YtnlkggppokcmfaaT
open Go Go.Proofs Go.Proofs.YtnlkggppokcmfaaE
set_option linter.unusedVariables false
set_option linter.unusedSimpArgs false
theorem vk {l:List Int}:∀ {m:List Int},l.Nodup→(∀ x ∈ l,x ∈ m)→l.length≤m.length:=by
 induction l with
 | nil=>intro m _ _; simp
 | cons x l ih =>
  intro m hn hs;obtain ⟨h1,h2⟩:=List.nodup_cons.1 hn;have hx:=hs x (by simp);have:=ih (m:=m.erase x) h2 (fun y hy=>(List.mem_erase_of_ne (fun (e:y=x)=>h1 (e ▸ hy))).2 (hs y (by simp [hy])))
  rw [List.length_erase_of_mem hx] at this
  have:0 < m.length:=List.length_pos_of_mem hx
  simp
  omega
def keysOf (m:List (Int×Unit)):List Int:=m.map (·.1)
theorem AJ {m:List (Int×Unit)} {x:Int}:nY m x=true↔x ∈ keysOf m:=by
 unfold nY keysOf
 simp [List.any_eq_true]
theorem xS {x:Int}:∀ {m:List (Int×Unit)},keysOf (yT m x)=(keysOf m).erase x
 | []=>rfl
 | p::m=>by
  unfold yT keysOf
  rw [List.map_cons,List.erase_cons]
  by_cases e:p.1=x
  ·simp [e]
  ·rw [if_neg e,if_neg (by simpa using e),List.map_cons]
   congr 1
   exact xS
theorem AL {x:Int}:∀ {m:List (Int×Unit)},x ∉ keysOf m→keysOf (gW m x ())=keysOf m++[x]
 | [],_=>rfl
 | p::m,h=>by
  have h1:¬ p.1=x:=fun e=>h (by simp [keysOf,e]);have h2:x ∉ keysOf m:=fun h'=>h (by simp only [keysOf,List.map_cons,List.mem_cons]; exact .inr h');unfold gW
  rw [if_neg h1]
  show p.1::keysOf (gW m x ())=p.1::keysOf m++[x]
  rw [AL h2]
  rfl
def cnt (base w:List Int):Nat:=(w.filter (fun v=>decide (v ∈ base))).length
theorem zD {base w:List Int}:cnt base w≤w.length:=List.length_filter_le _ _
theorem Cv {base w:List Int} {i:Nat} (hi:i < w.length):cnt base (w.take (i + 1))=if idx w (i:Int) ∈ base then cnt base (w.take i) + 1 else cnt base (w.take i):=by
 unfold cnt
 rw [List.take_succ_eq_append_getElem hi,List.filter_append,List.length_append,(dh (n:=i) rfl hi:idx w (i:Int)=w[i])]
 by_cases h:w[i] ∈ base <;> simp [h]
def Whole (O:List Int) (W:Int→List Int) (base:List Int):Prop:=(∀ t ∈ O,cnt base (W t)=0∨cnt base (W t)=(W t).length)∧∀ v ∈ base,∃ t ∈ O,v ∈ W t
def qx (O:List Int) (W:Int→List Int) (base:List Int):List Int:=O.filter (fun t=>decide (0 < cnt base (W t)))
def lu (O:List Int) (W:Int→List Int) (base:List Int) (r:List Int×Bool):Prop:=(r=(qx O W base,true)∧Whole O W base)∨(r=([],false) ∧ ¬ Whole O W base)
theorem lu.det {O:List Int} {W:Int→List Int} {base:List Int} {r s:List Int×Bool} (h1:lu O W base r) (h2:lu O W base s):r=s:=by
 rcases h1 with ⟨rfl,h1⟩ | ⟨rfl,h1⟩ <;> rcases h2 with ⟨rfl,h2⟩ | ⟨rfl,h2⟩
 ·rfl
 ·exact absurd h1 h2
 ·exact absurd h2 h1
 ·rfl
section
variable {O:List Int} {W:Int→List Int} {base:List Int}
theorem zF {k:Nat} (hk:k < O.length):qx (O.take (k + 1)) W base=if 0 < cnt base (W (idx O (k:Int))) then qx (O.take k) W base++[idx O (k:Int)] else qx (O.take k) W base:=by
 unfold qx
 rw [List.take_succ_eq_append_getElem hk,List.filter_append,(dh (n:=k) rfl hk:idx O (k:Int)=O[k])]
 by_cases h:0 < cnt base (W O[k]) <;> simp [h]
theorem AO {k:Nat}:(qx (O.take k) W base).length≤O.length:=Nat.le_trans (List.length_filter_le _ _) (by rw [List.length_take]; omega)
theorem Bw {i j:Nat} (hn:O.Nodup) (hi:i < O.length) (hj:j < O.length) (e:idx O (i:Int)=idx O (j:Int)):i=j:=by
 rw [dh (n:=i) rfl hi,dh (n:=j) rfl hj] at e
 have hp:=List.pairwise_iff_getElem.1 hn;rcases Nat.lt_trichotomy i j with h | h | h
 ·exact absurd e (hp i j hi hj h)
 ·exact h
 ·exact absurd e.symm (hp j i hj hi h)
theorem Gj (hP:Parts O W) (hO:O.Nodup) (hb:base.length≤64) (hn:base.Nodup):Tri (bE base (xR O W)) (lu O W base):=by
 have hol:=hP.ol;unfold bE;refine dC (k0:=0) base.length (fun k s=>s.2=(k:Int)∧keysOf s.1=base.take k) (Nat.zero_le _) ⟨rfl,rfl⟩ ?_;rintro k ⟨m,x⟩ hk ⟨e,hm⟩
 dsimp only at e hm
 subst e;have hw:w64 ((k:Int) + 1)=((k + 1:Nat):Int):=bn (by omega);unfold rG
 dsimp only
 rw [hw]
 refine au (fun a2 => ?_) (fun a2 => ?_)
 ·have a0:k < base.length:=by omega
  refine ai (by omega) (ag ⟨a0,rfl,?_⟩);have hni:idx base (k:Int) ∉ keysOf m:=by
   rw [hm]
   intro h;obtain ⟨i,hi,e⟩:=List.mem_take_iff_getElem.1 h;have:=Bw (i:=i) (j:=k) hn (by omega) a0 ((dh rfl (by omega)).trans e)
   omega
  dsimp only
  rw [AL hni,hm,List.take_succ_eq_append_getElem a0,(dh (n:=k) rfl a0:idx base (k:Int)=base[k])]
 ·have:k=base.length:=by omega
  subst this
  rw [List.take_length] at hm
  refine dC (k0:=0) O.length (fun k s=>s.1=qx (O.take k) W base∧(keysOf s.2.1).Nodup∧(∀ v,v ∈ keysOf s.2.1↔v ∈ base∧∀ j:Nat,j < k→v ∉ W (idx O (j:Int)))∧s.2.2=(k:Int)∧∀ j:Nat,j < k→cnt base (W (idx O (j:Int)))=0∨cnt base (W (idx O (j:Int)))=(W (idx O (j:Int))).length)
   (Nat.zero_le _) ⟨by simp [qx],by rw [hm]; exact hn,fun v=>by rw [hm]; exact ⟨fun h=>⟨h,fun j h=>absurd h (Nat.not_lt_zero _)⟩,fun h=>h.1⟩,rfl,fun j h=>absurd h (Nat.not_lt_zero _)⟩ ?_
  rintro k ⟨l,m,x⟩ hk ⟨e1,e2,e3,e4,e5⟩
  dsimp only at e1 e2 e3 e4 e5
  subst e1 e4;have hw:w64 ((k:Int) + 1)=((k + 1:Nat):Int):=bn (by omega);have hsl:=AO (O:=O) (W:=W) (base:=base) (k:=k);unfold rF
  dsimp only
  rw [si]
  refine au (fun a2 => ?_) (fun a2 => ?_)
  ·have a0:k < O.length:=by omega
   refine ai (by omega) ?_;have ht:=dZ a0;have hss:=zF (W:=W) (base:=base) a0;generalize hg:idx O (k:Int)=t at ht hss;have hwl:=hP.wl t ht;have hwn:=hP.nd t ht;refine dC (k0:=0) (W t).length (fun i s=>(keysOf s.1).Nodup∧(∀ v,v ∈ keysOf s.1↔(v ∈ base∧∀ j:Nat,j < k→v ∉ W (idx O (j:Int)))∧v ∉ (W t).take i)∧s.2.1=(cnt base ((W t).take i):Int)∧s.2.2=(i:Int))
    (Nat.zero_le _) ⟨e2,fun v=>⟨fun h=>⟨(e3 v).1 h,by simp⟩,fun h=>(e3 v).2 h.1⟩,by simp [cnt],rfl⟩ ?_
   rintro i ⟨m2,c,x⟩ hi ⟨f1,f2,f3,f4⟩
   dsimp only at f1 f2 f3 f4
   subst f3 f4;have hcl:cnt base ((W t).take i)≤i:=Nat.le_trans zD (by rw [List.length_take]; omega);have a6:w64 ((i:Int) + 1)=((i + 1:Nat):Int):=bn (by omega);have a4:w64 ((cnt base ((W t).take i):Int) + 1)=((cnt base ((W t).take i) + 1:Nat):Int):=bn (by omega);unfold rE ow oz ou
   dsimp only
   rw [a6,a4,vg a0,hg]
   dsimp only
   refine au (fun a5 => ?_) (fun a5 => ?_)
   ·have a1:i < (W t).length:=by omega
    refine ai (by omega) ?_;have hct:=Cv (base:=base) a1;have hmem:∀ v,v ∈ (W t).take (i + 1)↔v ∈ (W t).take i∨v=idx (W t) (i:Int):=by
     intro v
     rw [List.take_succ_eq_append_getElem a1,(dh (n:=i) rfl a1:idx (W t) (i:Int)=(W t)[i]),List.mem_append,List.mem_singleton]
    have hni:idx (W t) (i:Int) ∉ (W t).take i:=by
     intro h;obtain ⟨j,hj,e⟩:=List.mem_take_iff_getElem.1 h;have:=Bw (i:=j) (j:=i) hwn (by omega) a1 ((dh rfl (by omega)).trans e)
     omega
    have hout:∀ j:Nat,j < k→idx (W t) (i:Int) ∉ W (idx O (j:Int)):=by
     intro j hj h;have:=hP.ap _ (dZ (show j < O.length by omega)) t ht _ h (dZ a1)
     rw [← hg] at this
     have:=Bw hO (by omega) a0 this
     omega
    have a3:idx (W t) (i:Int) ∈ keysOf m2↔idx (W t) (i:Int) ∈ base:=by
     rw [f2]
     exact ⟨fun h=>h.1.1,fun h=>⟨⟨h,hout⟩,hni⟩⟩
    cases hmh:nY m2 (idx (W t) (i:Int))
    ·have hnb:idx (W t) (i:Int) ∉ base:=fun h=>by rw [AJ.2 (a3.2 h)] at hmh; cases hmh
     rw [cond_false]
     refine ag ⟨a1,f1,fun v => ?_,?_,rfl⟩
     ·dsimp only
      rw [f2,hmem]
      constructor
      ·rintro ⟨h1,h2⟩;refine ⟨h1,?_⟩;rintro (h3 | h3)
       ·exact h2 h3
       ·subst h3;exact hnb h1.1
      ·rintro ⟨h1,h2⟩;exact ⟨h1,fun h=>h2 (.inl h)⟩
     ·dsimp only
      rw [hct,if_neg hnb]
    ·have hib:idx (W t) (i:Int) ∈ base:=a3.1 (AJ.1 hmh)
     rw [cond_true]
     refine ag ⟨a1,?_,fun v => ?_,?_,rfl⟩
     ·dsimp only
      rw [xS]
      exact f1.erase _
     ·dsimp only
      rw [xS,List.Nodup.mem_erase_iff f1,f2,hmem]
      constructor
      ·rintro ⟨h1,h2,h3⟩;exact ⟨h2,fun h=>h.elim h3 h1⟩
      ·rintro ⟨h1,h2⟩;exact ⟨fun h=>h2 (.inr h),h1,fun h=>h2 (.inl h)⟩
     ·dsimp only
      rw [hct,if_pos hib]
   ·have:i=(W t).length:=by omega
    subst this
    rw [List.take_length] at f2 ⊢
    have hcw:cnt base (W t)≤(W t).length:=zD;have fin:∀ (hc:cnt base (W t)=0∨cnt base (W t)=(W t).length) (l':List Int),l'=qx (O.take (k + 1)) W base→Upm O.length k (fun k s=>s.1=qx (O.take k) W base∧(keysOf s.2.1).Nodup∧(∀ v,v ∈ keysOf s.2.1↔v ∈ base∧∀ j:Nat,j < k→v ∉ W (idx O (j:Int)))∧s.2.2=(k:Int)∧∀ j:Nat,j < k→cnt base (W (idx O (j:Int)))=0∨cnt base (W (idx O (j:Int)))=(W (idx O (j:Int))).length) (lu O W base) (.inl (l',m2,((k + 1:Nat):Int))):=by
     intro hc l' hl';refine ⟨a0,hl',f1,fun v => ?_,rfl,fun j hj => ?_⟩
     ·dsimp only
      rw [f2]
      constructor
      ·rintro ⟨⟨h1,h2⟩,h3⟩;refine ⟨h1,fun j hj => ?_⟩;rcases Nat.lt_or_ge j k with h4 | h4
       ·exact h2 j h4
       ·have:j=k:=by omega
        subst this
        rw [hg]; exact h3
      ·rintro ⟨h1,h2⟩;exact ⟨⟨h1,fun j hj=>h2 j (by omega)⟩,by have:=h2 k (by omega); rwa [hg] at this⟩
     ·rcases Nat.lt_or_ge j k with h4 | h4
      ·exact e5 j h4
      ·have:j=k:=by omega
       subst this
       rw [hg]; exact hc
    have bad:¬ (cnt base (W t)=0∨cnt base (W t)=(W t).length)→lu O W base ([],false):=fun hc => .inr ⟨rfl,fun hW=>hc (hW.1 t ht)⟩
    rw [hw]
    refine au (fun h1 => ?_) (fun h1 => ?_)
    ·refine au (fun h2 => ?_) (fun h2 => ?_)
     ·exact ax (ax (ax (ag (bad (by omega)))))
     ·refine au (fun h3 => ?_) (fun h3 => ?_)
      ·refine ai (by omega) ?_;refine ax (ag (fin (by omega) _ ?_))
       rw [hss,if_pos (by omega)]
      ·exact absurd h1 h3
    ·rw [cond_false]
     refine au (fun h3=>absurd h3 h1) (fun h3 => ?_);refine ax (ag (fin (by omega) _ ?_))
     rw [hss,if_neg (by omega)]
  ·have:k=O.length:=by omega
   subst this
   rw [List.take_length]
   have hml:0 < m.length↔∃ v,v ∈ keysOf m:=by
    unfold keysOf;cases m with
    | nil=>simp
    | cons p m=>exact ⟨fun _=>⟨p.1,by simp⟩,fun _=>by simp⟩
   have hall:(∀ t ∈ O,cnt base (W t)=0∨cnt base (W t)=(W t).length):=by
    intro t ht;obtain ⟨j,hj,rfl⟩:=rf ht;exact e5 j hj
   refine au (fun h1 => ?_) (fun h1 => ?_)
   ·refine ax (ax (ag (.inr ⟨rfl,fun hW => ?_⟩)));obtain ⟨v,hv⟩:=hml.1 (by omega);obtain ⟨a7,a9⟩:=(e3 v).1 hv;obtain ⟨t,ht,a8⟩:=hW.2 v a7;obtain ⟨j,hj,rfl⟩:=rf ht;exact a9 j hj a8
   ·refine ax (ax (ag (.inl ⟨rfl,hall,fun v hv => ?_⟩)))
    apply Classical.byContradiction
    intro hno;refine h1 ?_;have:=hml.2 ⟨v,(e3 v).2 ⟨hv,fun j hj h=>hno ⟨_,dZ hj,h⟩⟩⟩
    omega
end
end Go.Proofs.YtnlkggppokcmfaaT
namespace Go.Proofs.YtnlkggppokcmfaaT
open Go Go.Proofs Go.Proofs.YtnlkggppokcmfaaE
set_option linter.unusedVariables false
set_option linter.unusedSimpArgs false
theorem Dw {l:List Int} {v:Int} (hl:l.length < 2 ^ 60):gJ l v=some (decide (v ∈ l)):=by
 refine dV.1 ?_;unfold gJ;refine dC (k0:=0) l.length (fun k s=>s=(k:Int)∧∀ j:Nat,j < k→idx l (j:Int)≠v) (Nat.zero_le _) ⟨rfl,fun j h=>absurd h (Nat.not_lt_zero _)⟩ ?_;rintro k s hk ⟨rfl,hno⟩;have hw:w64 ((k:Int) + 1)=((k + 1:Nat):Int):=bn (by omega);unfold oM
 dsimp only
 rw [hw]
 refine au (fun a1 => ?_) (fun a1 => ?_)
 ·have a0:k < l.length:=by omega
  refine ai (by omega) ?_;refine au (fun h1 => ?_) (fun h1 => ?_)
  ·refine ax (ag ?_)
   show true=decide (v ∈ l)
   rw [eq_comm,decide_eq_true_iff,← h1]
   exact dZ a0
  ·refine ag ⟨a0,rfl,fun j hj => ?_⟩;rcases Nat.lt_or_ge j k with h2 | h2
   ·exact hno j h2
   ·have:j=k:=by omega
    subst this;exact h1
 ·have:k=l.length:=by omega
  subst this;refine ax (ag ?_)
  show false=decide (v ∈ l)
  rw [eq_comm,decide_eq_false_iff_not]
  intro h;obtain ⟨j,hj,e⟩:=rf h;exact hno j hj e
section
variable {O:List Int} {W:Int→List Int} {base:List Int}
def hits (O:List Int) (W:Int→List Int) (base:List Int):List Int:=O.flatMap (fun t=>(W t).filter (fun v=>decide (v ∈ base)))
theorem AP {k:Nat} (hk:k < O.length):(hits (O.take (k + 1)) W base).length=(hits (O.take k) W base).length + cnt base (W (idx O (k:Int))):=by
 unfold hits cnt
 rw [List.take_succ_eq_append_getElem hk,List.flatMap_append,List.length_append,(dh (n:=k) rfl hk:idx O (k:Int)=O[k])]
 simp
theorem Dx (hP:Parts O W):∀ k,k≤O.length→(hits (O.take k) W base).length≤16 * k:=by
 intro k
 induction k with
 | zero=>intro _; simp [hits]
 | succ k ih =>
  intro hk
  rw [AP (by omega)]
  have:=ih (by omega);have h1:=hP.wl _ (dZ (show k < O.length by omega));have h2:cnt base (W (idx O (k:Int)))≤_:=zD
  omega
theorem zG {v:Int}:v ∈ hits O W base↔∃ t ∈ O,v ∈ W t∧v ∈ base:=by
 unfold hits
 simp only [List.mem_flatMap,List.mem_filter,decide_eq_true_eq]
theorem Dy (hP:Parts O W) (hO:O.Nodup):(hits O W base).Nodup:=by
 unfold hits List.Nodup
 rw [List.pairwise_flatMap]
 refine ⟨fun t ht=>(hP.nd t ht).filter _,List.Pairwise.imp_of_mem (fun {t u} ht hu hne => ?_) hO⟩;intro x hx y hy e;subst e
 rw [List.mem_filter] at hx hy
 exact hne (hP.ap t ht u hu x hx.1 hy.1)
theorem Fh (hP:Parts O W) (hO:O.Nodup) (hn:base.Nodup):(hits O W base).length=base.length↔∀ v ∈ base,∃ t ∈ O,v ∈ W t:=by
 have hN:=Dy (base:=base) hP hO;have hS:∀ v ∈ hits O W base,v ∈ base:=fun v hv=>by obtain ⟨_,_,_,h⟩:=zG.1 hv; exact h
 constructor
 ·intro e v hv
  apply Classical.byContradiction
  intro hno;have h1:v ∉ hits O W base:=fun h=>by
   obtain ⟨t,ht,h2,_⟩:=zG.1 h;exact hno ⟨t,ht,h2⟩
  have:=vk (l:=v::hits O W base) (m:=base) (List.nodup_cons.2 ⟨h1,hN⟩) (fun x hx=>by
   rcases List.mem_cons.1 hx with rfl | hx
   ·exact hv
   ·exact hS x hx)
  simp at this
  omega
 ·intro hc;refine Nat.le_antisymm (vk hN hS) (vk hn (fun v hv => ?_));obtain ⟨t,ht,h⟩:=hc v hv;exact zG.2 ⟨t,ht,h,hv⟩
theorem IB {h:History} {a:Ask} (hP:Parts O W) (hO:O.Nodup) (hW:∀ t ∈ O,aL h t a.Key=some (W t)) (ho:aN h a=some O) (hb:a.Base.length≤64) (hn:a.Base.Nodup) :
  Tri (bu h a) (lu O W a.Base):=by
 have hol:=hP.ol;unfold bu;refine bY ho ?_;refine dC (k0:=0) O.length (fun k s=>s.1=qx (O.take k) W a.Base∧s.2.1=((hits (O.take k) W a.Base).length:Int)∧s.2.2=(k:Int)∧∀ j:Nat,j < k→cnt a.Base (W (idx O (j:Int)))=0∨cnt a.Base (W (idx O (j:Int)))=(W (idx O (j:Int))).length)
  (Nat.zero_le _) ⟨by simp [qx],by simp [hits],rfl,fun j h=>absurd h (Nat.not_lt_zero _)⟩ ?_
 rintro k ⟨l,n,x⟩ hk ⟨e1,e2,e4,e5⟩
 dsimp only at e1 e2 e4 e5
 subst e1 e2 e4;have hw:w64 ((k:Int) + 1)=((k + 1:Nat):Int):=bn (by omega);have hsl:=AO (O:=O) (W:=W) (base:=a.Base) (k:=k);have hsm:=Dx (base:=a.Base) hP k hk;unfold qf
 dsimp only
 refine au (fun a4 => ?_) (fun a4 => ?_)
 ·have a0:k < O.length:=by omega
  refine ai (by omega) ?_;have ht:=dZ a0;have hss:=zF (W:=W) (base:=a.Base) a0;have hhs:=AP (W:=W) (base:=a.Base) a0;refine bY (hW _ ht) ?_;generalize hg:idx O (k:Int)=t at ht hss hhs;have hwl:=hP.wl t ht;refine dC (k0:=0) (W t).length (fun i s=>s.1=(cnt a.Base ((W t).take i):Int)∧s.2=(i:Int)) (Nat.zero_le _) ⟨by simp [cnt],rfl⟩ ?_
  rintro i ⟨c,x⟩ hi ⟨f3,f4⟩
  dsimp only at f3 f4
  subst f3 f4;have hcl:cnt a.Base ((W t).take i)≤i:=Nat.le_trans zD (by rw [List.length_take]; omega);have a6:w64 ((i:Int) + 1)=((i + 1:Nat):Int):=bn (by omega);have a3:w64 ((cnt a.Base ((W t).take i):Int) + 1)=((cnt a.Base ((W t).take i) + 1:Nat):Int):=bn (by omega);unfold qd mg mh mf
  dsimp only
  rw [a6,a3,hg]
  refine au (fun a5 => ?_) (fun a5 => ?_)
  ·have a1:i < (W t).length:=by omega
   refine ai (by omega) ?_;have hct:=Cv (base:=a.Base) a1;refine bY (Dw (by omega)) ?_;refine au (fun h1 => ?_) (fun h1 => ?_)
   ·refine ag ⟨a1,?_,rfl⟩
    dsimp only
    rw [hct,if_pos h1]
   ·refine ag ⟨a1,?_,rfl⟩
    dsimp only
    rw [hct,if_neg h1]
  ·have:i=(W t).length:=by omega
   subst this
   rw [List.take_length]
   have hcw:cnt a.Base (W t)≤(W t).length:=zD;have a2:w64 (((hits (O.take k) W a.Base).length:Int) + (cnt a.Base (W t):Int))=(((hits (O.take k) W a.Base).length + cnt a.Base (W t):Nat):Int):=by rw [ku (by omega) (by omega)]; omega
   have bad:¬ (cnt a.Base (W t)=0∨cnt a.Base (W t)=(W t).length)→lu O W a.Base ([],false):=fun hc => .inr ⟨rfl,fun hW=>hc (hW.1 t ht)⟩;have five:(cnt a.Base (W t)=0∨cnt a.Base (W t)=(W t).length)→∀ j:Nat,j < k + 1→cnt a.Base (W (idx O (j:Int)))=0∨cnt a.Base (W (idx O (j:Int)))=(W (idx O (j:Int))).length:=by
    intro hc j hj;rcases Nat.lt_or_ge j k with h4 | h4
    ·exact e5 j h4
    ·have:j=k:=by omega
     subst this
     rw [hg]; exact hc
   rw [hw,a2]
   refine au (fun h1 => ?_) (fun h1 => ?_)
   ·refine au (fun h2 => ?_) (fun h2 => ?_)
    ·exact ax (ax (ag (bad (by omega))))
    ·refine au (fun h3 => ?_) (fun h3=>absurd h1 h3);refine ai (by omega) ?_;refine ax (ag ⟨a0,?_,?_,rfl,five (by omega)⟩)
     ·dsimp only
      rw [hss,if_pos (by omega)]
     ·dsimp only
      rw [hhs]
   ·rw [cond_false]
    refine au (fun h3=>absurd h3 h1) (fun h3 => ?_);refine ax (ag ⟨a0,?_,?_,rfl,five (by omega)⟩)
    ·dsimp only
     rw [hss,if_neg (by omega)]
    ·dsimp only
     rw [hhs]
     omega
 ·have:k=O.length:=by omega
  subst this
  rw [List.take_length]
  have hall:(∀ t ∈ O,cnt a.Base (W t)=0∨cnt a.Base (W t)=(W t).length):=by
   intro t ht;obtain ⟨j,hj,rfl⟩:=rf ht;exact e5 j hj
  have hfull:=Fh hP hO hn;refine au (fun h1 => ?_) (fun h1 => ?_)
  ·refine ax (ag (.inr ⟨rfl,fun hW => ?_⟩));have:=hfull.2 hW.2
   omega
  ·exact ax (ag (.inl ⟨rfl,hall,hfull.1 (by omega)⟩))
theorem Cw {h:History} {a:Ask} (hP:Parts O W) (hO:O.Nodup) (hW:∀ t ∈ O,aL h t a.Key=some (W t)) (ho:aN h a=some O) (hb:a.Base.length≤64) (hn:a.Base.Nodup) :
  ∃ r,bE a.Base (xR O W)=some r∧bu h a=some r∧lu O W a.Base r:=by
 obtain ⟨r,hr,h1⟩:=Gj hP hO hb hn;obtain ⟨s,hs,h2⟩:=IB hP hO hW ho hb hn;obtain rfl:=h1.det h2;exact ⟨r,hr,hs,h1⟩
end
theorem Ak {h:History} {key:Int} {k:Nat}:(eF h key k).Nodup:=by
 unfold eF List.Nodup
 rw [List.pairwise_map]
 refine ((List.nodup_range (n:=k)).filter _).imp (fun {a b} hne e=>hne (by omega))
theorem wW {h:History} {a:Ask} {k:Nat}:(fQ h a k).Nodup:=Ak.filter _
end Go.Proofs.YtnlkggppokcmfaaT
namespace Go.Proofs.YtnlkggppokcmfaaT
open Go Go.Proofs Go.Proofs.YtnlkggppokcmfaaE
set_option linter.unusedVariables false
set_option linter.unusedSimpArgs false
def uz (s:Int) (w:List Int):Int:=w.foldl (fun x v=>w64 (x + v)) s
theorem AQ {s:Int} {w:List Int} {k:Nat} (hk:k < w.length):uz s (w.take (k + 1))=w64 (uz s (w.take k) + idx w (k:Int)):=by
 unfold uz
 rw [List.take_succ_eq_append_getElem hk,List.foldl_append,(dh (n:=k) rfl hk:idx w (k:Int)=w[k])]
 rfl
def Win (want:Int):List (List Int)→Int→(Nat→Prop)→Nat→Nat→Prop
 | [],s,p,_,j=>s=want∧p j
 | w::ls,s,p,i,j=>Win want ls s p (i + 1) j∨Win want ls (uz s w) (fun j=>p j∨j=i) (i + 1) j
section
variable {O:List Int} {W:Int→List Int} {want:Int}
theorem xU (hol:O.length≤32) (hwl:∀ t ∈ O,(W t).length≤16):∀ (k i:Nat),i≤O.length→O.length - i < k→∀ (sum tk wi:Int) (p q:Nat→Prop),Wd tk p→Wd wi q →
  Tri (eO k (i:Int) sum tk (xR O W) want wi) (fun r=>Wd r (fun j=>q j∨Win want ((O.drop i).map W) sum p i j))
 | 0,i,_,hk=>by omega
 | k + 1,i,hi,hk=>by
  intro sum tk wi p q hp hq;have hw:w64 ((i:Int) + 1)=((i + 1:Nat):Int):=bn (by omega);unfold eO iC
  rw [si,hw]
  refine au (fun h1 => ?_) (fun h1 => ?_)
  ·have:i=O.length:=by omega
   subst this
   rw [List.drop_length,List.map_nil]
   refine au (fun h2 => ?_) (fun h2 => ?_)
   ·exact ag ((hq.or hp).congr fun j=>by show q j∨p j↔q j∨(sum=want∧p j); simp [h2])
   ·exact ag (hq.congr fun j=>by show q j↔q j∨(sum=want∧p j); simp [h2])
  ·have a0:i < O.length:=by omega
   have hd:(O.drop i).map W=W (idx O (i:Int))::(O.drop (i + 1)).map W:=by
    rw [List.drop_eq_getElem_cons a0,List.map_cons,(dh (n:=i) rfl a0:idx O (i:Int)=O[i])]
   have a3:=hwl _ (dZ a0);refine dP (xU hol hwl k (i + 1) (by omega) (by omega) sum tk wi p q hp hq) (fun y hy => ?_);refine ai (by omega) ?_;refine dC (k0:=0) (W (idx O (i:Int))).length (fun m s=>s.1=uz sum ((W (idx O (i:Int))).take m)∧s.2=(m:Int)) (Nat.zero_le _) ⟨by simp [uz],rfl⟩ ?_
   rintro m ⟨s,x⟩ hm ⟨f1,f2⟩
   dsimp only at f1 f2
   subst f1 f2;have a2:w64 ((m:Int) + 1)=((m + 1:Nat):Int):=bn (by omega);unfold lH
   dsimp only
   rw [vg a0,a2,hw]
   dsimp only
   refine au (fun h2 => ?_) (fun h2 => ?_)
   ·have a1:m < (W (idx O (i:Int))).length:=by omega
    refine ai (by omega) (ag ⟨a1,?_,rfl⟩)
    dsimp only
    rw [AQ a1]
   ·have:m=(W (idx O (i:Int))).length:=by omega
    subst this
    rw [List.take_length]
    refine ai (by unfold far; omega) ?_;refine dP (xU hol hwl k (i + 1) (by omega) (by omega) _ _ y _ _ (hp.or (Wd.bit (n:=i) rfl (by omega))) hy) (fun z hz => ?_);refine ax (ag (hz.congr fun j => ?_))
    rw [hd]
    show (q j∨Win want _ sum p (i + 1) j)∨_↔q j∨Win want _ sum p (i + 1) j∨_
    exact or_assoc
def picks (O:List Int) (f:Nat→Prop) [DecidablePred f] (k:Nat):List Int:=((List.range k).filter (fun j=>decide (f j))).map (fun j:Nat=>idx O (j:Int))
theorem zH {f:Nat→Prop} [DecidablePred f] {k:Nat}:picks O f (k + 1)=if f k then picks O f k++[idx O (k:Int)] else picks O f k:=by
 unfold picks
 rw [List.range_succ,List.filter_append,List.map_append]
 by_cases h:f k <;> simp [h]
theorem vo {f:Nat→Prop} [DecidablePred f] {k:Nat}:(picks O f k).length≤k:=by
 unfold picks
 rw [List.length_map]
 exact Nat.le_trans (List.length_filter_le _ _) (by simp)
open Classical in
theorem Bz (hol:O.length≤32) (hwl:∀ t ∈ O,(W t).length≤16):dE want (xR O W)=some (picks O (Win want (O.map W) 0 (fun _=>False) 0) O.length):=by
 refine dV.1 ?_;unfold dE aS;have:=xU (want:=want) hol hwl 64 0 (Nat.zero_le _) (by omega) 0 0 0 _ _ Wd.zero Wd.zero;refine dP this (fun y hy => ?_)
 rw [List.drop_zero] at hy
 replace hy:Wd y (Win want (O.map W) 0 (fun _=>False) 0):=hy.congr fun j=>by simp
 generalize Win want (O.map W) 0 (fun _=>False) 0=f at hy ⊢;refine dC (k0:=0) O.length (fun k s=>s=(picks O f k,(k:Int))) (Nat.zero_le _) (by simp [picks]) ?_;rintro k s hk rfl;have hw:w64 ((k:Int) + 1)=((k + 1:Nat):Int):=bn (by omega);have hl:=vo (O:=O) (f:=f) (k:=k);have hs:=zH (O:=O) (f:=f) (k:=k);unfold mQ ky
 dsimp only
 rw [si,hw]
 refine au (fun h1 => ?_) (fun h1 => ?_)
 ·have a0:k < O.length:=by omega
  refine ai (by omega) (ai (by unfold far; omega) ?_)
  rw [vg a0]
  rcases hy.look (i:=(k:Int)) (n:=k) rfl (by omega) with ⟨e,hf⟩ | ⟨e,hf⟩
  ·rw [e]
   refine au (fun _ => ?_) (fun h=>absurd rfl h);refine ai (by omega) (ag ⟨a0,?_⟩)
   dsimp only
   rw [hs,if_pos hf]
  ·rw [e]
   refine au (fun h=>absurd h (by decide)) (fun _ => ?_);refine ag ⟨a0,?_⟩
   dsimp only
   rw [hs,if_neg hf]
 ·have:k=O.length:=by omega
  subst this;exact ax (ag rfl)
end
end Go.Proofs.YtnlkggppokcmfaaT
namespace Go.Proofs.YtnlkggppokcmfaaT
open Go Go.Proofs Go.Proofs.YtnlkggppokcmfaaE
set_option linter.unusedVariables false
set_option linter.unusedSimpArgs false
theorem wbm (x:Int):w64 x=Int.bmod x 18446744073709551616:=by
 unfold w64 IntKind.wrap
 simp only [IntKind.bits,IntKind.signed,Bool.true_and,Int.bmod_def]
 have h1:(2 ^ 64:Int)=18446744073709551616:=by decide
 have h2:=Int.emod_nonneg x (show (18446744073709551616:Int)≠0 by decide);have h3:=Int.emod_lt_of_pos x (show (0:Int) < 18446744073709551616 by decide)
 simp only [h1]
 by_cases h:x % 18446744073709551616 < 9223372036854775808
 ·rw [if_neg (by simp; omega),if_pos (by simp; omega)]
  rfl
 ·rw [if_pos (by simp; omega),if_neg (by simp; omega)]
  rfl
theorem IC (x y:Int):w64 (w64 x + y)=w64 (x + y):=by rw [wbm,wbm,wbm,Int.bmod_add_bmod]
theorem JO (x y:Int):w64 (x + w64 y)=w64 (x + y):=by rw [Int.add_comm,IC,Int.add_comm]
theorem xV:∀ (w:List Int) (s:Int),uz (w64 s) w=w64 (s + w.sum)
 | [],s=>by simp [uz]
 | v::w,s=>by
  show uz (w64 (w64 s + v)) w=_
  rw [IC,xV w,List.sum_cons,Int.add_assoc]
theorem Fj (w:List Int):uz 0 w=w64 w.sum:=by
 have h:=xV w 0
 rw [Int.zero_add] at h
 exact h
theorem Eu {m i:Nat} (hm:m < 2 ^ 62) (hi:i < 62):yf .i64 (tO .i64 (m:Int) (i:Int)) 1=if m.testBit i then 1 else 0:=by
 have h1:tO .i64 (m:Int) (i:Int)=((m >>> i:Nat):Int):=by
  unfold tO
  rw [show IntKind.bits .i64=64 from rfl,Int.toNat_natCast,Nat.min_eq_left (by omega),Nat.shiftRight_eq_div_pow]
  have:(2:Int) ^ i=((2 ^ i:Nat):Int):=(Int.natCast_pow 2 i).symm
  rw [this,Int.fdiv_eq_ediv_of_nonneg _ (Int.natCast_nonneg _)]
  exact (Int.natCast_ediv m (2 ^ i)).symm
 have h2:m >>> i < 2 ^ 62:=Nat.lt_of_le_of_lt (Nat.shiftRight_le _ _) hm;have h3:yf .i64 ((m >>> i:Nat):Int) ((1:Nat):Int)=(((m >>> i) &&& 1:Nat):Int):=by
  unfold yf
  rw [show IntKind.bits .i64=64 from rfl,BitVec.ofInt_natCast,BitVec.ofInt_natCast,BitVec.toNat_and,BitVec.toNat_ofNat,BitVec.toNat_ofNat,Nat.mod_eq_of_lt (by omega),Nat.mod_eq_of_lt (by decide)]
  have h4:(m >>> i) &&& 1≤1:=Nat.and_le_right;exact ku (by omega) (by omega)
 rw [h1,show (1:Int)=((1:Nat):Int) from rfl,h3,Ez]
 cases m.testBit i <;> rfl
theorem IE {n:Nat} (hn:n≤32):yR .i64 1 (n:Int)=((2 ^ n:Nat):Int):=by
 unfold yR
 rw [show IntKind.bits .i64=64 from rfl,Int.toNat_natCast,Nat.min_eq_left (by omega)]
 have h1:(1:Int) * 2 ^ n=((2 ^ n:Nat):Int):=by rw [Int.one_mul]; exact (Int.natCast_pow 2 n).symm
 rw [h1]
 have h2:2 ^ n≤2 ^ 32:=Nat.pow_le_pow_right (by decide) hn;generalize 2 ^ n=q at h2;exact ku (by omega) (by omega)
section
variable {O:List Int} {W:Int→List Int} {want:Int}
def nW (O:List Int) (W:Int→List Int) (f:Nat→Bool):Nat→Int
 | 0=>0
 | k + 1=>if f k then w64 (nW O W f k + uz 0 (W (idx O (k:Int)))) else nW O W f k
theorem vv {f:Nat→Bool} {k:Nat}:nW O W f (k + 1)=if f k then w64 (nW O W f k + uz 0 (W (idx O (k:Int)))) else nW O W f k:=rfl
theorem Gl {f:Nat→Bool}:∀ k,w64 (nW O W f k)=nW O W f k
 | 0=>rfl
 | k + 1=>by
  unfold nW
  split
  ·have h:=IC (nW O W f k + uz 0 (W (idx O (k:Int)))) 0
   rw [Int.add_zero,Int.add_zero] at h
   exact h
  ·exact Gl k
theorem sW {f g:Nat→Bool}:∀ k,(∀ a,a < k→f a=g a)→nW O W f k=nW O W g k
 | 0,_=>rfl
 | k + 1,h=>by
  unfold nW
  rw [h k (by omega),sW k (fun a ha=>h a (by omega))]
theorem BA (f:Nat→Bool):∀ (d i j:Nat) (f:Nat→Bool) (p:Nat→Prop),i + d=O.length→(∀ a,p a↔a < i∧f a=true) →
  (Win want ((O.drop i).map W) (nW O W f i) p i j↔∃ g:Nat→Bool,(∀ a,a < i→g a=f a)∧nW O W g O.length=want∧j < O.length∧g j=true)
 | 0,i,j,f,p,e,hp=>by
  have:i=O.length:=by omega
  subst this
  rw [List.drop_length,List.map_nil]
  show (nW O W f O.length=want∧p j)↔_
  rw [hp j]
  constructor
  ·rintro ⟨h1,h2,h3⟩; exact ⟨f,fun a _=>rfl,h1,h2,h3⟩
  ·rintro ⟨g,h1,h2,h3,h4⟩
   rw [sW O.length h1] at h2
   exact ⟨h2,h3,(h1 j h3) ▸ h4⟩
 | d + 1,i,j,f,p,e,hp=>by
  have hi:i < O.length:=by omega
  have hd:(O.drop i).map W=W (idx O (i:Int))::(O.drop (i + 1)).map W:=by
   rw [List.drop_eq_getElem_cons hi,List.map_cons,(dh (n:=i) rfl hi:idx O (i:Int)=O[i])]
  rw [hd]
  show Win want _ (nW O W f i) p (i + 1) j∨Win want _ (uz (nW O W f i) (W (idx O (i:Int)))) (fun j=>p j∨j=i) (i + 1) j↔_
  have hag:∀ b:Bool,nW O W (fun a=>if a=i then b else f a) i=nW O W f i:=fun b=>sW i (fun a ha=>if_neg (by omega));have e0:nW O W (fun a=>if a=i then false else f a) (i + 1)=nW O W f i:=by
   rw [vv,hag]
   simp
  have e1:nW O W (fun a=>if a=i then true else f a) (i + 1)=uz (nW O W f i) (W (idx O (i:Int))):=by
   rw [vv,hag,if_pos (if_pos rfl),← Gl i,xV,Fj,JO,IC]
  have i0:=BA f d (i + 1) j (fun a=>if a=i then false else f a) p (by omega) (fun a=>by
   rw [hp a]
   by_cases h:a=i
   ·subst h; simp
   ·simp only [if_neg h]
    constructor
    ·rintro ⟨h1,h2⟩; exact ⟨by omega,h2⟩
    ·rintro ⟨h1,h2⟩; exact ⟨by omega,h2⟩)
  have i1:=BA f d (i + 1) j (fun a=>if a=i then true else f a) (fun j=>p j∨j=i) (by omega) (fun a=>by
   rw [hp a]
   by_cases h:a=i
   ·subst h; simp
   ·simp only [if_neg h,or_iff_left h]
    constructor
    ·rintro ⟨h1,h2⟩; exact ⟨by omega,h2⟩
    ·rintro ⟨h1,h2⟩; exact ⟨by omega,h2⟩)
  rw [e0] at i0
  rw [e1] at i1
  rw [i0,i1]
  constructor
  ·rintro (⟨g,h1,h2⟩ | ⟨g,h1,h2⟩)
   ·exact ⟨g,fun a ha=>by rw [h1 a (by omega),if_neg (by omega)],h2⟩
   ·exact ⟨g,fun a ha=>by rw [h1 a (by omega),if_neg (by omega)],h2⟩
  ·rintro ⟨g,h1,h2⟩;cases hgi:g i
   ·refine .inl ⟨g,fun a ha => ?_,h2⟩
    by_cases h:a=i
    ·subst h; rw [if_pos rfl,hgi]
    ·rw [if_neg h,h1 a (by omega)]
   ·refine .inr ⟨g,fun a ha => ?_,h2⟩
    by_cases h:a=i
    ·subst h; rw [if_pos rfl,hgi]
    ·rw [if_neg h,h1 a (by omega)]
theorem Ev (g:Nat→Bool):∀ n:Nat,∃ m:Nat,m < 2 ^ n∧∀ a,a < n→m.testBit a=g a
 | 0=>⟨0,by decide,fun a h=>absurd h (Nat.not_lt_zero _)⟩
 | n + 1=>by
  obtain ⟨m,h1,h2⟩:=Ev g n;have hp:2 ^ (n + 1)=2 ^ n + 2 ^ n:=by rw [Nat.pow_succ]; omega
  cases hg:g n
  ·refine ⟨m,by omega,fun a ha => ?_⟩
   by_cases h:a=n
   ·subst h; rw [hg]; exact Nat.testBit_lt_two_pow h1
   ·exact h2 a (by omega)
  ·refine ⟨2 ^ n + m,by omega,fun a ha => ?_⟩
   by_cases h:a=n
   ·subst h
    rw [Nat.testBit_two_pow_add_eq,hg,Nat.testBit_lt_two_pow h1]
    rfl
   ·rw [Nat.testBit_two_pow_add_gt (by omega)]
    exact h2 a (by omega)
def Msk (O:List Int) (W:Int→List Int) (want:Int) (m j:Nat):Prop:=nW O W m.testBit O.length=want∧m.testBit j=true
theorem Gm {j:Nat} (hj:j < O.length):Win want (O.map W) 0 (fun _=>False) 0 j↔∃ m:Nat,1≤m∧m < 2 ^ O.length∧Msk O W want m j:=by
 have h:=BA (O:=O) (W:=W) (want:=want) (fun _=>false) O.length 0 j (fun _=>false) (fun _=>False) (by omega) (fun a=>by simp)
 rw [List.drop_zero] at h
 refine Iff.trans h ?_
 constructor
 ·rintro ⟨g,_,h2,h3,h4⟩;obtain ⟨m,m1,m2⟩:=Ev g O.length;refine ⟨m,?_,m1,?_,?_⟩
  ·apply Nat.lt_of_not_le
   intro h0;have:m=0:=by omega
   subst this
   rw [← m2 j hj,Nat.zero_testBit] at h4
   cases h4
  ·rw [sW O.length m2]; exact h2
  ·rw [m2 j hj]; exact h4
 ·rintro ⟨m,_,m1,m2,m3⟩;exact ⟨m.testBit,fun a ha=>absurd ha (Nat.not_lt_zero _),m2,hj,m3⟩
end
end Go.Proofs.YtnlkggppokcmfaaT
namespace Go.Proofs.YtnlkggppokcmfaaT
open Go Go.Proofs Go.Proofs.YtnlkggppokcmfaaE
set_option linter.unusedVariables false
set_option linter.unusedSimpArgs false
theorem Gn {h:History} {t key:Int} {w:List Int} (hW:aL h t key=some w) (hl:w.length≤16):iM h t key=some (uz 0 w):=by
 refine dV.1 ?_;unfold iM;refine bY hW ?_;refine dC (k0:=0) w.length (fun m s=>s.1=uz 0 (w.take m)∧s.2=(m:Int)) (Nat.zero_le _) ⟨by simp [uz],rfl⟩ ?_
 rintro m ⟨s,x⟩ hm ⟨f1,f2⟩
 dsimp only at f1 f2
 subst f1 f2;have a1:w64 ((m:Int) + 1)=((m + 1:Nat):Int):=bn (by omega);unfold qc
 dsimp only
 rw [a1]
 refine au (fun h2 => ?_) (fun h2 => ?_)
 ·have a0:m < w.length:=by omega
  refine ai (by omega) (ag ⟨a0,?_,rfl⟩)
  dsimp only
  rw [AQ a0]
 ·have:m=w.length:=by omega
  subst this;exact ax (ag (by rw [List.take_length]; rfl))
section
variable {O:List Int} {W:Int→List Int}
open Classical in
theorem Cx (hol:O.length≤32) (hwl:∀ t ∈ O,(W t).length≤16) {h:History} {a:Ask} (hW:∀ t ∈ O,aL h t a.Key=some (W t)) (ho:aN h a=some O) (hb:0 < a.Base.length) :
  aF h a=some (picks O (Win (idx a.Base 0) (O.map W) 0 (fun _=>False) 0) O.length):=by
 refine dV.1 ?_;have a4:2 ^ O.length≤2 ^ 32:=Nat.pow_le_pow_right (by decide) hol;have a3:0 < 2 ^ O.length:=Nat.two_pow_pos _;unfold aF;refine bY ho ?_;refine ai (by omega) ?_;have hfin:∀ j,j < O.length→(Win (idx a.Base 0) (O.map W) 0 (fun _=>False) 0 j↔∃ m:Nat,1≤m∧m < 2 ^ O.length∧Msk O W (idx a.Base 0) m j):=fun j hj=>Gm hj;generalize Win (idx a.Base 0) (O.map W) 0 (fun _=>False) 0=f at hfin ⊢;have hshl:=IE hol;generalize 2 ^ O.length=N at a4 a3 hfin hshl;refine dC (k0:=1) N (fun m s=>s.1.length=O.length∧s.2=(m:Int)∧∀ j,j < O.length→(idx s.1 (j:Int)=true↔∃ m':Nat,1≤m'∧m' < m∧Msk O W (idx a.Base 0) m' j)) a3 ⟨by simp,rfl,fun j hj => ?_⟩ ?_
 ·dsimp only
  rw [Int.toNat_natCast,dh (n:=j) rfl (by simpa using hj)]
  simp
  intro m' h1 h2
  omega
 rintro m ⟨ok,x⟩ hm ⟨e1,e2,e3⟩
 dsimp only at e1 e2 e3
 subst e2;unfold nM
 dsimp only
 rw [hshl]
 refine ai (by unfold far; omega) ?_;refine au (fun h1 => ?_) (fun h1 => ?_)
 ·have a5:m < N:=by omega
  have hwm:w64 ((m:Int) + 1)=((m + 1:Nat):Int):=bn (by omega);refine dC (k0:=0) O.length (fun i s=>s.1=nW O W m.testBit i∧s.2=(i:Int)) (Nat.zero_le _) ⟨rfl,rfl⟩ ?_;rintro i ⟨s,x⟩ hi ⟨f1,f2⟩
  dsimp only at f1 f2
  subst f1 f2;have hwi:w64 ((i:Int) + 1)=((i + 1:Nat):Int):=bn (by omega);unfold nK jY
  dsimp only
  rw [hwi]
  refine au (fun h2 => ?_) (fun h2 => ?_)
  ·have a0:i < O.length:=by omega
   refine ai (by unfold far; omega) ?_
   rw [Eu (by omega) (by omega)]
   cases hbit:m.testBit i
   ·refine au (fun h3=>absurd h3 (by simp)) (fun _ => ?_);refine ag ⟨a0,?_,rfl⟩
    dsimp only
    rw [vv,hbit]
    rfl
   ·refine au (fun _ => ?_) (fun h3=>absurd (by simp) h3);refine ai (by omega) ?_;refine bY (Gn (hW _ (dZ a0)) (hwl _ (dZ a0))) (ag ⟨a0,?_,rfl⟩)
    dsimp only
    rw [vv,hbit]
    rfl
  ·have:i=O.length:=by omega
   subst this;have fin:∀ l:List Bool,l.length=O.length→(∀ j,j < O.length→(idx l (j:Int)=true↔idx ok (j:Int)=true∨Msk O W (idx a.Base 0) m j)) →
     Upm N m (fun m s=>s.1.length=O.length∧s.2=(m:Int)∧∀ j,j < O.length→(idx s.1 (j:Int)=true↔∃ m':Nat,1≤m'∧m' < m∧Msk O W (idx a.Base 0) m' j)) (fun b=>b=picks O f O.length) (.inl (l,((m + 1:Nat):Int))):=by
    intro l hl hj;refine ⟨a5,hl,rfl,fun j a2 => ?_⟩
    dsimp only
    rw [hj j a2,e3 j a2]
    constructor
    ·rintro (⟨m',h1,h2,h3⟩ | h3)
     ·exact ⟨m',h1,by omega,h3⟩
     ·refine ⟨m,?_,by omega,h3⟩
      apply Nat.lt_of_not_le
      intro h0;have:m=0:=by omega
      subst this;have:=h3.2
      rw [Nat.zero_testBit] at this
      cases this
    ·rintro ⟨m',h1,h2,h3⟩;rcases Nat.lt_or_ge m' m with h4 | h4
     ·exact .inl ⟨m',h1,h4,h3⟩
     ·have:m'=m:=by omega
      subst this;exact .inr h3
   refine dC (k0:=0) O.length (fun i s=>s.1.length=O.length∧s.2=(i:Int)∧∀ j,j < O.length→(idx s.1 (j:Int)=true↔idx ok (j:Int)=true∨(nW O W m.testBit O.length=idx a.Base 0∧j < i∧m.testBit j=true))) (Nat.zero_le _)
    ⟨e1,rfl,fun j hj=>⟨fun h => .inl h,fun h=>h.elim id (fun h=>absurd h.2.1 (Nat.not_lt_zero _))⟩⟩ ?_
   rintro i ⟨l,x⟩ hi ⟨f1,f2,f3⟩
   dsimp only at f1 f2 f3
   subst f2;have hwi:w64 ((i:Int) + 1)=((i + 1:Nat):Int):=bn (by omega);unfold nJ kg jZ
   dsimp only
   rw [hwi,hwm]
   refine au (fun h3 => ?_) (fun h3 => ?_)
   ·have a0:i < O.length:=by omega
    refine ai (by omega) ?_;refine au (fun h4 => ?_) (fun h4 => ?_)
    ·refine ai (by omega) ?_
     rw [Int.toNat_natCast,Eu (by omega) (by omega)]
     have step:∀ v:Bool,(v=true↔idx l (i:Int)=true∨m.testBit i=true)→∀ j,j < O.length→(idx (l.set i v) (j:Int)=true↔idx ok (j:Int)=true∨(nW O W m.testBit O.length=idx a.Base 0∧j < i + 1∧m.testBit j=true)):=by
      intro v hv j hj
      rw [oV (by omega)]
      by_cases e:j=i
      ·subst e
       rw [if_pos rfl,hv,f3 j hj]
       constructor
       ·rintro ((h | ⟨_,h,_⟩) | h)
        ·exact .inl h
        ·omega
        ·exact .inr ⟨h4,by omega,h⟩
       ·rintro (h | ⟨_,_,h⟩)
        ·exact .inl (.inl h)
        ·exact .inr h
      ·rw [if_neg e,f3 j hj]
       constructor
       ·rintro (h | ⟨h,h',h''⟩)
        ·exact .inl h
        ·exact .inr ⟨h,by omega,h''⟩
       ·rintro (h | ⟨h,h',h''⟩)
        ·exact .inl h
        ·exact .inr ⟨h,by omega,h''⟩
     cases hli:idx l (i:Int)
     ·rw [cond_false]
      refine ai (by unfold far; omega) (ag ⟨a0,by simp [f1],rfl,step _ ?_⟩)
      rw [hli]
      cases m.testBit i <;> simp
     ·rw [cond_true]
      refine ag ⟨a0,by simp [f1],rfl,step _ ?_⟩
      rw [hli]
      simp
    ·refine ax (ax (ag (fin l f1 fun j hj => ?_)))
     rw [f3 j hj]
     unfold Msk;exact or_congr Iff.rfl ⟨fun h=>absurd h.1 h4,fun h=>absurd h.1 h4⟩
   ·have:i=O.length:=by omega
    subst this
    rw [cond_false]
    refine ax (ax (ag (fin l f1 fun j hj => ?_)))
    rw [f3 j hj]
    unfold Msk;exact or_congr Iff.rfl ⟨fun h=>⟨h.1,h.2.2⟩,fun h=>⟨h.1,hj,h.2⟩⟩
 ·have hmN:m=N:=by omega
  subst hmN;have e4:∀ j,j < O.length→(idx ok (j:Int)=true↔f j):=fun j hj=>(e3 j hj).trans (hfin j hj).symm;refine dC (k0:=0) O.length (fun k s=>s=(picks O f k,(k:Int))) (Nat.zero_le _) (by simp [picks]) ?_;rintro k s hk rfl;have hw:w64 ((k:Int) + 1)=((k + 1:Nat):Int):=bn (by omega);have hl:=vo (O:=O) (f:=f) (k:=k);have hs:=zH (O:=O) (f:=f) (k:=k);unfold nL ko
  dsimp only
  rw [hw]
  refine au (fun h1 => ?_) (fun h1 => ?_)
  ·have a1:k < O.length:=by omega
   refine ai (by omega) ?_;cases hok:idx ok (k:Int)
   ·rw [cond_false]
    refine ag ⟨a1,?_⟩
    dsimp only
    rw [hs,if_neg (fun hf=>by rw [(e4 k a1).2 hf] at hok; cases hok)]
   ·rw [cond_true]
    refine ai (by omega) (ai (by omega) (ag ⟨a1,?_⟩))
    dsimp only
    rw [hs,if_pos ((e4 k a1).1 hok)]
  ·have:k=O.length:=by omega
   subst this;exact ax (ax (ag rfl))
end
end Go.Proofs.YtnlkggppokcmfaaT
namespace Go.Proofs.YtnlkggppokcmfaaT
open Go Go.Proofs Go.Proofs.YtnlkggppokcmfaaE
set_option linter.unusedVariables false
set_option linter.unusedSimpArgs false
def sj (w:List Int):Int:=idx w ((w.length - 1:Nat):Int)
section
variable {O:List Int} {W:Int→List Int}
def lasts (O:List Int) (W:Int→List Int) (v:Int):List Int:=O.filter (fun t=>decide (sj (W t)=v))
theorem zI {v:Int} {k:Nat} (hk:k < O.length):lasts (O.take (k + 1)) W v=if sj (W (idx O (k:Int)))=v then lasts (O.take k) W v++[idx O (k:Int)] else lasts (O.take k) W v:=by
 unfold lasts
 rw [List.take_succ_eq_append_getElem hk,List.filter_append,(dh (n:=k) rfl hk:idx O (k:Int)=O[k])]
 by_cases h:sj (W O[k])=v <;> simp [h]
theorem AR {v:Int} {k:Nat}:(lasts (O.take k) W v).length≤O.length:=Nat.le_trans (List.length_filter_le _ _) (by rw [List.length_take]; omega)
theorem Gp (hol:O.length≤32) (hne:∀ t ∈ O,0 < (W t).length) (hwl:∀ t ∈ O,(W t).length≤16) {a:Ask} (hb:0 < a.Base.length) :
  iter (kD a (xR O W)) ([],0)=some (lasts O W (idx a.Base 0)):=by
 refine dV.1 ?_;refine dC (k0:=0) O.length (fun k s=>s.1=lasts (O.take k) W (idx a.Base 0)∧s.2=(k:Int)) (Nat.zero_le _) ⟨by simp [lasts],rfl⟩ ?_
 rintro k ⟨l,x⟩ hk ⟨e1,e2⟩
 dsimp only at e1 e2
 subst e1 e2;have hw:w64 ((k:Int) + 1)=((k + 1:Nat):Int):=bn (by omega);have hl:=AR (O:=O) (W:=W) (v:=idx a.Base 0) (k:=k);unfold kD kC dY
 dsimp only
 rw [si,hw]
 refine au (fun h1 => ?_) (fun h1 => ?_)
 ·have a0:k < O.length:=by omega
  have h0:=hne _ (dZ a0);have a1:=hwl _ (dZ a0);have hs:=zI (W:=W) (v:=idx a.Base 0) a0
  rw [vg a0]
  dsimp only
  have hp:w64 (((W (idx O (k:Int))).length:Int) - 1)=(((W (idx O (k:Int))).length - 1:Nat):Int):=jP (by omega) (by omega)
  rw [hp]
  refine ai (by omega) (ai (by omega) (ai (by omega) ?_));refine au (fun h2 => ?_) (fun h2 => ?_)
  ·refine ai (by omega) (ag ⟨a0,?_,rfl⟩)
   dsimp only
   rw [hs,if_pos (show sj _=_ from h2)]
  ·refine ag ⟨a0,?_,rfl⟩
   dsimp only
   rw [hs,if_neg (show ¬ sj _=_ from h2)]
 ·have:k=O.length:=by omega
  subst this;exact ax (ag (by rw [List.take_length]; rfl))
theorem IG (hol:O.length≤32) (hne:∀ t ∈ O,0 < (W t).length) (hwl:∀ t ∈ O,(W t).length≤16) {h:History} {a:Ask} (hW:∀ t ∈ O,aL h t a.Key=some (W t)) (hb:0 < a.Base.length) :
  iter (mY h a O) ([],0)=some (lasts O W (idx a.Base 0)):=by
 refine dV.1 ?_;refine dC (k0:=0) O.length (fun k s=>s.1=lasts (O.take k) W (idx a.Base 0)∧s.2=(k:Int)) (Nat.zero_le _) ⟨by simp [lasts],rfl⟩ ?_
 rintro k ⟨l,x⟩ hk ⟨e1,e2⟩
 dsimp only at e1 e2
 subst e1 e2;have hw:w64 ((k:Int) + 1)=((k + 1:Nat):Int):=bn (by omega);have hl:=AR (O:=O) (W:=W) (v:=idx a.Base 0) (k:=k);unfold mY mX gK
 dsimp only
 rw [hw]
 refine au (fun h1 => ?_) (fun h1 => ?_)
 ·have a0:k < O.length:=by omega
  have h0:=hne _ (dZ a0);have a1:=hwl _ (dZ a0);have hs:=zI (W:=W) (v:=idx a.Base 0) a0;refine ai (by omega) (bY (hW _ (dZ a0)) ?_);have hp:w64 (((W (idx O (k:Int))).length:Int) - 1)=(((W (idx O (k:Int))).length - 1:Nat):Int):=jP (by omega) (by omega)
  rw [hp]
  refine ai (by omega) (ai (by omega) ?_);refine au (fun h2 => ?_) (fun h2 => ?_)
  ·refine ai (by omega) (ag ⟨a0,?_,rfl⟩)
   dsimp only
   rw [hs,if_pos (show sj _=_ from h2)]
  ·refine ag ⟨a0,?_,rfl⟩
   dsimp only
   rw [hs,if_neg (show ¬ sj _=_ from h2)]
 ·have:k=O.length:=by omega
  subst this;exact ax (ag (by rw [List.take_length]; rfl))
end
abbrev oth (h:History) (a:Ask):List Int:=fQ h a h.Txns.length
abbrev wro (h:History) (a:Ask):Int→List Int:=fun t=>fI h t a.Key
open Classical in
def tZ (h:History) (a:Ask) (ty:Int) (s:List Int):Prop :=
 if ty=4 then s=(if idx a.Base 0=0 then [-1] else [])++picks (oth h a) (Win (idx a.Base 0) ((oth h a).map (wro h a)) 0 (fun _=>False) 0) (oth h a).length
 else if a.Base.length=0 then s=[-1]
 else if ty=1 then s=lasts (oth h a) (wro h a) (idx a.Base 0)
 else if ty=2 then ∃ r,uO (oth h a) (wro h a) a.Base r∧s=if r.2=true then [sj r.1] else []
 else ∃ r,lu (oth h a) (wro h a) a.Base r∧s=r.1
theorem sZ {h:History} (hS:iw h) (hc:aG h=some 0) {a:Ask} {t p:Nat} (ha:yB h a t p) :
  ∃ s,aM h a=some s∧bA h a=some s∧tZ h a (typ (opAt h (t:Int) (p:Int)).Kind) s:=by
 have a7:=hS.len;obtain ⟨k1,k8⟩:=sV hS ha.tl ha.pl;have hT:dX h a.Key=some (typ (opAt h (t:Int) (p:Int)).Kind):=xP hS hc ha.tl ha.pl ha.e3.symm;have hK:=Fa hS ha.tl ha.pl ha.e1 ha.e2;have hF:bD h a=some (xR (oth h a) (wro h a)):=yA hS hc;have hO:aN h a=some (oth h a):=yz hS;have hol:(oth h a).length≤32:=Nat.le_trans pQ a7;have hmem:∀ u ∈ oth h a,∃ n:Nat,u=(n:Int)∧n < h.Txns.length∧0 < (wro h a u).length:=fun u hu=>by
  obtain ⟨⟨h0,h1,_,h3⟩,_⟩:=nU.1 hu;exact ⟨u.toNat,by omega,by omega,h3⟩
 have hwl:∀ u ∈ oth h a,(wro h a u).length≤16:=fun u hu=>by
  obtain ⟨n,rfl,hn,_⟩:=hmem u hu;exact Nat.le_trans qZ (hS.txn n hn).ops.1
 have hne:∀ u ∈ oth h a,0 < (wro h a u).length:=fun u hu=>by obtain ⟨n,_,_,h3⟩:=hmem u hu; exact h3
 have hW:∀ u ∈ oth h a,aL h u a.Key=some (wro h a u):=fun u hu=>by
  obtain ⟨n,rfl,hn,_⟩:=hmem u hu;exact wm ⟨by omega,by omega⟩ (hS.txn n hn).ops.1
 have hP:=fun a6=>zB (a:=a) hS ha a6;have a5:=ha.b64;have a3:=ha.b4;have a4:=ha.b3;have hty:typ (opAt h (t:Int) (p:Int)).Kind=1∨typ (opAt h (t:Int) (p:Int)).Kind=2∨typ (opAt h (t:Int) (p:Int)).Kind=3∨typ (opAt h (t:Int) (p:Int)).Kind=4:=by unfold typ; omega
 generalize typ (opAt h (t:Int) (p:Int)).Kind=ty at hT hK a3 a4 hty hP;have bz:0 < a.Base.length→((a.Base.length:Int) == 0)=false:=fun h=>by rw [beq_eq_false_iff_ne]; omega
 have b0:a.Base.length=0→((a.Base.length:Int) == 0)=true:=fun h=>by rw [beq_iff_eq]; omega
 unfold aM bA iP
 simp only [hT,hK,hF,hO,Option.bind_some]
 by_cases h0:a.Base.length=0∧ty≠4
 ·obtain ⟨h0,h4⟩:=h0;refine ⟨[-1],?_,?_,?_⟩
  ·rw [b0 h0,beq_eq_false_iff_ne.2 h4]; rfl
  ·rw [b0 h0,beq_eq_false_iff_ne.2 h4]; rfl
  ·unfold tZ; rw [if_neg h4,if_pos h0]
 ·rcases hty with rfl | rfl | rfl | rfl
  ·have hb:0 < a.Base.length:=by omega
   rw [bz hb]
   refine ⟨lasts (oth h a) (wro h a) (idx a.Base 0),Gp (W:=wro h a) hol hne hwl (a:=a) hb,IG (W:=wro h a) hol hne hwl hW hb,?_⟩;unfold tZ
   rw [if_neg (by decide),if_neg (by omega),if_pos rfl]
  ·have hb:0 < a.Base.length:=by omega
   rw [bz hb]
   obtain ⟨⟨l,b⟩,a2,a1,a0⟩:=AC (hP (.inl rfl)) hW hO a5;have hsrc:tZ h a 2 (if b=true then [sj l] else []):=by
    unfold tZ
    rw [if_neg (by decide),if_neg (by omega),if_neg (by decide),if_pos rfl]
    exact ⟨_,a0,rfl⟩
   refine ⟨_,?_,?_,hsrc⟩
   ·rw [a2]
    refine dV.1 ?_
    show Tri (bif b then _ else _) _
    cases b
    ·exact ag rfl
    ·have hl:0 < l.length∧l.length≤32:=by
      rcases a0 with ⟨_,h1,h2,h3⟩ | ⟨h1,_⟩
      ·refine ⟨?_,Nat.le_trans (vk h2 h1) hol⟩
       apply Nat.lt_of_not_le
       intro hle;have:l=[]:=List.length_eq_zero_iff.1 (by omega);subst this
       rw [h3] at hb
       simp at hb
      ·cases h1
     have hp:w64 ((l.length:Int) - 1)=((l.length - 1:Nat):Int):=jP (by omega) (by omega)
     dsimp only
     rw [hp]
     refine ai (by omega) (ag ?_)
     rw [xQ]
     show l.drop (l.length - 1)=[sj l]
     rw [List.drop_eq_getElem_cons (by omega),List.drop_eq_nil_of_le (by omega)]
     unfold sj
     rw [dh (n:=l.length - 1) rfl (by omega)]
   ·rw [a1]
    refine dV.1 ?_
    show Tri (bif b then _ else _) _
    cases b
    ·exact ag rfl
    ·have hl:0 < l.length∧l.length≤32:=by
      rcases a0 with ⟨_,h1,h2,h3⟩ | ⟨h1,_⟩
      ·refine ⟨?_,Nat.le_trans (vk h2 h1) hol⟩
       apply Nat.lt_of_not_le
       intro hle;have:l=[]:=List.length_eq_zero_iff.1 (by omega);subst this
       rw [h3] at hb
       simp at hb
      ·cases h1
     have hp:w64 ((l.length:Int) - 1)=((l.length - 1:Nat):Int):=jP (by omega) (by omega)
     dsimp only
     rw [hp]
     exact ai (by omega) (ai (by omega) (ag rfl))
  ·have hb:0 < a.Base.length:=by omega
   rw [bz hb]
   obtain ⟨⟨l,b⟩,a2,a1,a0⟩:=Cw (hP (.inr rfl)) wW hW hO a5 (a4 rfl);have hsrc:tZ h a 3 l:=by
    unfold tZ
    rw [if_neg (by decide),if_neg (by omega),if_neg (by decide),if_neg (by decide)]
    exact ⟨_,a0,rfl⟩
   refine ⟨_,?_,?_,hsrc⟩
   ·rw [a2]; rfl
   ·rw [a1]
    refine dV.1 ?_
    show Tri (bif b then _ else _) _
    cases b
    ·refine ag ?_;rcases a0 with ⟨h1,_⟩ | ⟨h1,_⟩
     ·cases h1
     ·cases h1; rfl
    ·exact ag rfl
  ·classical
   have hb:0 < a.Base.length:=by have:=a3 rfl; omega
   have hcc:=Bz (W:=wro h a) (want:=idx a.Base 0) hol hwl;have hcr:=Cx (W:=wro h a) hol hwl hW hO hb;generalize hpk:picks (oth h a) (Win (idx a.Base 0) ((oth h a).map (wro h a)) 0 (fun _=>False) 0) (oth h a).length=pk at hcc hcr;have hpl:pk.length≤32:=by rw [← hpk]; exact Nat.le_trans vo hol
   have hsrc:tZ h a 4 ((if idx a.Base 0=0 then [-1] else [])++pk):=by
    unfold tZ
    rw [if_pos rfl,← hpk]
   refine ⟨_,?_,?_,hsrc⟩
   ·refine dV.1 ?_;unfold kz dY
    simp only [hF,hcc,Option.bind_some]
    refine ai (by omega) ?_;refine au (fun h1 => ?_) (fun h1 => ?_)
    ·refine ai (by omega) (ai (by omega) (ai ?_ (ag ?_)))
     ·simp only [List.length_append,List.length_singleton,List.length_nil]; omega
     ·rw [if_pos h1]; rfl
    ·refine ai (by omega) (ai ?_ (ag ?_))
     ·simp only [List.length_nil]; omega
     ·rw [if_neg h1]
   ·refine dV.1 ?_;unfold mW
    simp only [hcr,Option.bind_some]
    refine ai (by omega) ?_;refine au (fun h1 => ?_) (fun h1 => ?_)
    ·refine ai (by omega) (ag ?_)
     rw [if_pos h1]
    ·refine ag ?_
     rw [if_neg h1]; rfl
end Go.Proofs.YtnlkggppokcmfaaT
namespace Go.Proofs.YtnlkggppokcmfaaT
open Go Go.Proofs Go.Proofs.YtnlkggppokcmfaaE
set_option linter.unusedVariables false
set_option linter.unusedSimpArgs false
noncomputable def wo (h:History) (a:Ask):List Int:=(aM h a).getD []
theorem Fp {h:History} (hS:iw h) (hc:aG h=some 0) {a:Ask} (ha:a ∈ fB h h.Txns.length):aM h a=some (wo h a)∧bA h a=some (wo h a):=by
 obtain ⟨t,p,hk⟩:=Bv hS ha;obtain ⟨s,h1,h2,_⟩:=sZ hS hc hk;unfold wo
 rw [h1,h2]
 exact ⟨rfl,rfl⟩
theorem Cy {l:List Ask} {j:Nat} (hj:j < l.length):idx l (j:Int) ∈ l:=by rw [dh (n:=j) rfl hj]; exact List.getElem_mem _
section
variable {h:History}
end
end Go.Proofs.YtnlkggppokcmfaaT
namespace Go.Proofs.YtnlkggppokcmfaaT
open Go Go.Proofs Go.Proofs.YtnlkggppokcmfaaE
set_option linter.unusedVariables false
set_option linter.unusedSimpArgs false
theorem Cz {b a:Ask} (ha:a.Base.length < 2 ^ 60):Tri (kM b a) (fun r=>r=true↔a=b):=by
 unfold kM
 rw [vY (by omega)]
 obtain ⟨a1,a2,a3,a4⟩:=a;obtain ⟨b1,b2,b3,b4⟩:=b
 dsimp only
 refine au (fun e1 => ?_) (fun e1=>ag ?_)
 ·refine au (fun e2 => ?_) (fun e2=>ag ?_)
  ·refine au (fun e3=>ag ?_) (fun e3=>ag ?_)
   ·simp [e1,e2,e3]
   ·simp [e3]
  ·simp [e2]
 ·simp [e1]
theorem Al {l:List Ask} {a:Ask} (ha:a.Base.length < 2 ^ 60) (hl:l.length < 2 ^ 60):Tri (cK l a) (fun r=>r=true↔a ∈ l):=by
 have h1:Tri (aY l a) (fun r=>0≤r↔a ∈ l):=by
  unfold aY;refine dC (k0:=0) l.length (fun k s=>s=(k:Int)∧∀ j:Nat,j < k→a≠idx l (j:Int)) (Nat.zero_le _) ⟨rfl,fun j h=>absurd h (Nat.not_lt_zero _)⟩ ?_;rintro k s hk ⟨rfl,hno⟩;have hw:w64 ((k:Int) + 1)=((k + 1:Nat):Int):=bn (by omega);unfold eB
  dsimp only
  rw [hw]
  refine au (fun h1 => ?_) (fun h1 => ?_)
  ·have a0:k < l.length:=by omega
   refine ai (by omega) (dP (Cz ha) (fun r hr => ?_));refine au (fun h2 => ?_) (fun h2 => ?_)
   ·refine ax (ag ⟨fun _ => ?_,fun _=>by omega⟩)
    rw [hr.1 h2]
    exact Cy a0
   ·refine ag ⟨a0,rfl,fun j hj => ?_⟩;rcases Nat.lt_or_ge j k with h3 | h3
    ·exact hno j h3
    ·have:j=k:=by omega
     subst this;exact fun e=>h2 (hr.2 e)
  ·have:k=l.length:=by omega
   subst this;refine ax (ag ⟨fun h=>absurd h (by decide),fun h => ?_⟩);obtain ⟨j,hj,e⟩:=List.getElem_of_mem h;exact absurd (e.symm.trans (dh rfl hj).symm) (hno j hj)
 unfold cK;refine dP h1 (fun r hr=>ag ?_)
 rw [decide_eq_true_iff]
 exact hr
theorem zJ {h:History} (hs:sU h) (hS:iw h) (hc:aG h=some 0) {a:Ask} (ha:a.Base.length < 2 ^ 60) :
  Tri (lm h a) (fun r=>(r=0∧a ∈ fB h h.Txns.length)∨(r=1∧a ∉ fB h h.Txns.length)):=by
 have a0:=hS.len;obtain ⟨i1,_,_⟩:=xO hS h.Txns.length (Nat.le_refl _);have hA:ib h=some (fB h h.Txns.length,0):=by unfold ib; rw [Cn hs hS hc]; rfl
 unfold lm;refine bY hA ?_;refine au (fun h1=>absurd rfl h1) (fun _ => ?_);refine dP (Al ha (by dsimp only; omega)) (fun r hr => ?_);refine au (fun h1 => ?_) (fun h1 => ?_)
 ·exact ag (.inl ⟨rfl,hr.1 h1⟩)
 ·exact ag (.inr ⟨rfl,fun h2=>h1 (hr.2 h2)⟩)
theorem CB {h:History} (hS:iw h) {a:Ask} (ha:a ∈ fB h h.Txns.length):a.Base.length < 2 ^ 60:=by
 obtain ⟨t,p,hk⟩:=Bv hS ha;have:=hk.b64
 omega
theorem BB {h:History} (hs:sU h) (hS:iw h) (hc:aG h=some 0) {a:Ask} (ha:a ∈ fB h h.Txns.length):gy h a=some (wo h a,0):=by
 refine dV.1 ?_;unfold gy;refine dP (zJ hs hS hc (CB hS ha)) (fun r hr => ?_);rcases hr with ⟨rfl,_⟩ | ⟨_,h1⟩
 ·refine au (fun h1=>absurd rfl h1) (fun _ => ?_);exact bY (Fp hS hc ha).1 (ag rfl)
 ·exact absurd ha h1
end Go.Proofs.YtnlkggppokcmfaaT
namespace Go.Proofs.YtnlkggppokcmfaaT
open Go Go.Proofs Go.Proofs.YtnlkggppokcmfaaE
set_option linter.unusedVariables false
set_option linter.unusedSimpArgs false
end Go.Proofs.YtnlkggppokcmfaaT
namespace Go.Proofs.YtnlkggppokcmfaaT
open Go Go.Proofs Go.Proofs.YtnlkggppokcmfaaE
set_option linter.unusedVariables false
set_option linter.unusedSimpArgs false
theorem Fq {O:List Int} {W:Int→List Int} {base:List Int}:(qx O W base).length≤O.length:=List.length_filter_le _ _
theorem Dz {O:List Int} {W:Int→List Int} {base:List Int} {r:List Int×Bool} (h:uO O W base r):r.1.length≤O.length:=by
 rcases h with ⟨_,h1,h2,_⟩ | ⟨rfl,_⟩
 ·exact vk h2 h1
 ·exact Nat.zero_le _
theorem AU {O:List Int} {W:Int→List Int} {base:List Int} {r:List Int×Bool} (h:lu O W base r):r.1.length≤O.length:=by
 rcases h with ⟨rfl,_⟩ | ⟨rfl,_⟩
 ·exact Fq
 ·exact Nat.zero_le _
theorem Ew {h:History} (hS:iw h) {a:Ask}:(oth h a).length≤32:=Nat.le_trans pQ hS.len
theorem Fs {h:History} (hS:iw h) (hc:aG h=some 0) {a:Ask} (ha:a ∈ fB h h.Txns.length):(wo h a).length≤33:=by
 classical
 obtain ⟨t,p,hk⟩:=Bv hS ha;obtain ⟨s,h1,_,h3⟩:=sZ hS hc hk;have e:wo h a=s:=by unfold wo; rw [h1]; rfl
 rw [e]
 have hol:=Ew hS (a:=a);unfold tZ at h3
 split at h3
 ·rw [h3,List.length_append]
  have:=vo (O:=oth h a) (f:=Win (idx a.Base 0) ((oth h a).map (wro h a)) 0 (fun _=>False) 0) (k:=(oth h a).length)
  split <;> simp <;> omega
 ·split at h3
  ·rw [h3]; simp
  ·split at h3
   ·rw [h3]
    exact Nat.le_trans (List.length_filter_le _ _) (by omega)
   ·split at h3
    ·obtain ⟨r,h4,rfl⟩:=h3
     split <;> simp
    ·obtain ⟨r,h4,rfl⟩:=h3;have:=AU h4
     omega
def BC (h:History) (a:Ask) (ty:Int) (r:List Int×Bool):Prop :=
 (ty=2→uO (oth h a) (wro h a) a.Base r)∧(ty=3→lu (oth h a) (wro h a) a.Base r)∧(ty≠2→ty≠3→r=([],false))
theorem DC {h:History} (hS:iw h) (hc:aG h=some 0) {a:Ask} {t p:Nat} (ha:yB h a t p) :
  ∃ r,iP h a=some r∧r.1.length≤32∧BC h a (typ (opAt h (t:Int) (p:Int)).Kind) r:=by
 have a6:=hS.len;have hT:dX h a.Key=some (typ (opAt h (t:Int) (p:Int)).Kind):=xP hS hc ha.tl ha.pl ha.e3.symm;have hF:bD h a=some (xR (oth h a) (wro h a)):=yA hS hc;have hO:aN h a=some (oth h a):=yz hS;have hol:=Ew hS (a:=a);have hW:∀ u ∈ oth h a,aL h u a.Key=some (wro h a u):=fun u hu=>by
  obtain ⟨⟨h0,h1,_,h3⟩,_⟩:=nU.1 hu;have hn:u.toNat < h.Txns.length:=by omega
  have e:u=(u.toNat:Int):=by omega
  rw [e]
  exact wm ⟨by omega,by omega⟩ (hS.txn u.toNat hn).ops.1
 have hP:=fun a4=>zB (a:=a) hS ha a4;have a3:=ha.b64;have a2:=ha.b3;generalize typ (opAt h (t:Int) (p:Int)).Kind=ty at hT a2 hP;unfold iP
 simp only [hT,hF,Option.bind_some]
 by_cases h2:ty=2
 ·subst h2;obtain ⟨r,a1,a5,a0⟩:=AC (hP (.inl rfl)) hW hO a3;refine ⟨r,?_,Nat.le_trans (Dz a0) hol,fun _=>a0,fun h=>absurd h (by decide),fun h=>absurd rfl h⟩
  rw [a1]; rfl
 ·by_cases h3:ty=3
  ·subst h3;obtain ⟨r,a1,a5,a0⟩:=Cw (hP (.inr rfl)) wW hW hO a3 (a2 rfl);refine ⟨r,?_,Nat.le_trans (AU a0) hol,fun h=>absurd h (by decide),fun _=>a0,fun _ h=>absurd rfl h⟩
   rw [a1]; rfl
  ·refine ⟨([],false),?_,Nat.zero_le _,fun h=>absurd h h2,fun h=>absurd h h3,fun _ _=>rfl⟩
   rw [beq_eq_false_iff_ne.2 h2,beq_eq_false_iff_ne.2 h3]; rfl
section
variable {h:History}
theorem Gq (hs:sU h) (i:Int):Tri (dJ h i) (fun r=>r.2=true→r.1 ∈ fB h h.Txns.length∧iw h∧aG h=some 0):=by
 obtain ⟨v,hv,hv',a0,hiff⟩:=Dv hs;unfold dJ;rcases a0 with rfl | rfl
 ·have hS:=hiff.1 rfl;have a1:=hS.len;obtain ⟨i1,_,_⟩:=xO hS h.Txns.length (Nat.le_refl _);have hA:ib h=some (fB h h.Txns.length,0):=by unfold ib; rw [Cn hs hS hv]; rfl
  generalize hl:fB h h.Txns.length=l at hA i1;refine bY hA ?_;refine au (fun h1=>absurd rfl h1) (fun _ => ?_);unfold ig;refine au (fun h1=>ag (fun h=>(nomatch h))) (fun h1 => ?_);have hn:0 < l.length:=by
   rcases Nat.eq_zero_or_pos l.length with h2 | h2
   ·exact absurd (by simpa using congrArg (Int.ofNat) h2) h1
   ·exact h2
  have hw:IntKind.wrap .u64 ((l.length:Int))=(l.length:Int):=wrap_u64 (by omega)
  dsimp only
  rw [hw]
  have hu:0≤IntKind.wrap .u64 i:=by simp only [IntKind.wrap,IntKind.signed,IntKind.bits]; exact Int.emod_nonneg _ (by decide)
  have hm:=Int.emod_nonneg (IntKind.wrap .u64 i) (b:=(l.length:Int)) (by omega);have a2:=Int.emod_lt_of_pos (IntKind.wrap .u64 i) (b:=(l.length:Int)) (by omega)
  rw [Int.tmod_eq_emod_of_nonneg hu]
  have e:w64 (IntKind.wrap .u64 i % (l.length:Int))=((IntKind.wrap .u64 i % (l.length:Int)).toNat:Int):=by
   rw [ku (by omega) (by omega)]; omega
  rw [e]
  refine ai (by omega) (ai (by omega) (ag (fun _=>⟨Cy (by omega),hS,hv⟩)))
 ·have hA:ib h=some ([],1):=by
   unfold ib jR
   rw [hv]
   rfl
  refine bY hA ?_;refine au (fun _ => ?_) (fun h1=>absurd (by decide) h1);unfold ig;exact ag (fun h=>(nomatch h))
end
end Go.Proofs.YtnlkggppokcmfaaT
namespace Go.Proofs.YtnlkggppokcmfaaT
open Go Go.Proofs Go.Proofs.YtnlkggppokcmfaaE
set_option linter.unusedVariables false
set_option linter.unusedSimpArgs false
theorem zK {l:List Int} {x:Int} (hl:l.length < 2 ^ 60):dw l x=some (decide (x ∈ l)):=by
 refine Ex.1 ?_;unfold dw;refine dC (k0:=0) l.length (fun k s=>s=(k:Int)∧∀ j:Nat,j < k→idx l (j:Int)≠x) (Nat.zero_le _) ⟨rfl,fun j h=>absurd h (Nat.not_lt_zero _)⟩ ?_;rintro k s hk ⟨rfl,hno⟩;have hw:w64 ((k:Int) + 1)=((k + 1:Nat):Int):=bn (by omega);unfold mU
 dsimp only
 rw [hw]
 refine au (fun h1 => ?_) (fun h1 => ?_)
 ·have a0:k < l.length:=by omega
  refine ai (by omega) ?_;refine au (fun h2 => ?_) (fun h2 => ?_)
  ·refine ax (ag ⟨fun _ => ?_,fun _=>rfl⟩)
   rw [← h2]
   exact dZ a0
  ·refine ag ⟨a0,rfl,fun j hj => ?_⟩;rcases Nat.lt_or_ge j k with h3 | h3
   ·exact hno j h3
   ·have:j=k:=by omega
    subst this;exact h2
 ·have:k=l.length:=by omega
  subst this;refine ax (ag ⟨fun h=>(nomatch h),fun h => ?_⟩);obtain ⟨j,hj,e⟩:=rf h;exact absurd e (hno j hj)
section
variable {h:History} {m:Txn}
theorem Gr {a:Ask} {x:Int} (hx:x ∈ oth h a):0≤x∧x < (h.Txns.length:Int):=by
 obtain ⟨⟨h0,h1,_⟩,_⟩:=nU.1 hx;exact ⟨h0,h1⟩
theorem Fu {O:List Int} {f:Nat→Prop} [DecidablePred f] {k:Nat} {x:Int}:x ∈ picks O f k↔∃ j:Nat,j < k∧f j∧idx O (j:Int)=x:=by
 unfold picks
 simp only [List.mem_map,List.mem_filter,List.mem_range,decide_eq_true_eq]
 constructor
 ·rintro ⟨j,⟨h1,h2⟩,h3⟩; exact ⟨j,h1,h2,h3⟩
 ·rintro ⟨j,h1,h2,h3⟩; exact ⟨j,⟨h1,h2⟩,h3⟩
theorem zC.uniq {O:List Int} {W:Int→List Int} (hP:Parts O W):∀ {m n:List Int},(∀ t ∈ m,t ∈ O)→(∀ t ∈ n,t ∈ O)→m.flatMap W=n.flatMap W→m=n
 | [],[],_,_,_=>rfl
 | [],u::n,_,h2,e=>by
  have:=hP.ne u (h2 u (by simp));have e2:=congrArg List.length e
  rw [List.flatMap_nil,List.flatMap_cons,List.length_append,List.length_nil] at e2
  omega
 | u::m,[],h1,_,e=>by
  have:=hP.ne u (h1 u (by simp));have e2:=congrArg List.length e
  rw [List.flatMap_nil,List.flatMap_cons,List.length_append,List.length_nil] at e2
  omega
 | u::m,v::n,h1,h2,e=>by
  have hu:=hP.ne u (h1 u (by simp));have hv:=hP.ne v (h2 v (by simp))
  rw [List.flatMap_cons,List.flatMap_cons] at e
  have e0:(W u)[0]=(W v)[0]:=by
   have:=congrArg (fun l=>l[0]?) e
   simp only [List.getElem?_append_left hu,List.getElem?_append_left hv] at this
   rw [List.getElem?_eq_getElem hu,List.getElem?_eq_getElem hv] at this
   exact Option.some.inj this
  have huv:u=v:=hP.ap u (h1 u (by simp)) v (h2 v (by simp)) (W u)[0] (List.getElem_mem _) (by rw [e0]; exact List.getElem_mem _);subst huv
  rw [List.append_cancel_left_eq] at e
  rw [zC.uniq hP (fun t ht=>h1 t (by simp [ht])) (fun t ht=>h2 t (by simp [ht])) e]
theorem II (hS:iw h) (hc:aG h=some 0) {a:Ask} {t p:Nat} (hk:yB h a t p):tZ h a (typ (opAt h (t:Int) (p:Int)).Kind) (wo h a):=by
 obtain ⟨s,h1,_,h3⟩:=sZ hS hc hk;have e:wo h a=s:=by unfold wo; rw [h1]; rfl
 rw [e]
 exact h3
end
end Go.Proofs.YtnlkggppokcmfaaT
namespace Go.Proofs.YtnlkggppokcmfaaT
open Go Go.Proofs Go.Proofs.YtnlkggppokcmfaaE
set_option linter.unusedVariables false
set_option linter.unusedSimpArgs false
theorem IJ {h:History} (hS:iw h) {a:Ask} (ha:a ∈ fB h h.Txns.length) {t p:Nat} (hk:yB h a t p) (h3:typ (opAt h (t:Int) (p:Int)).Kind=3):Asc a.Base:=by
 unfold fB at ha;obtain ⟨t',ht,ha⟩:=List.mem_flatMap.1 ha;have ht:=List.mem_range.1 ht;unfold rR at ha
 split at ha
 case isFalse=>cases ha
 case isTrue hst =>
 unfold qp at ha;obtain ⟨p',hp,ha⟩:=List.mem_flatMap.1 ha;have hp:=List.mem_range.1 hp;obtain ⟨k1,k8⟩:=sV hS ht hp;obtain ⟨_,_,_,_,_,hcs⟩:=hS.txn t' ht;have hc:=hcs p' (by simpa [uy,bT] using hp)
 dsimp only [uy,bT] at hc
 rw [rq hp] at hc
 unfold nT ql at hc
 dsimp only at hc
 unfold yo at ha
 dsimp only at ha
 have ho:idx (idx h.Txns (t':Int)).Ops (p':Int)=opAt h (t':Int) (p':Int):=rfl
 rw [ho] at ha hc
 have key:a.Txn=(t':Int)∧a.Place=(p':Int)→typ (opAt h (t':Int) (p':Int)).Kind=3:=by
  rintro ⟨q1,q2⟩;have e1:t=t':=by have:=hk.e1.symm.trans q1; omega
  have e2:p=p':=by have:=hk.e2.symm.trans q2; omega
  rw [← e1,← e2]
  exact h3
 generalize opAt h (t':Int) (p':Int)=o at ha hc k1 k8 ho key;obtain ⟨c1,c8,c3,c4,c5,c6⟩:=hc
 split at ha
 ·cases ha
 ·rename_i h4
  obtain ⟨d1,d2,d3,d4⟩:=c6 (by omega);have hg:o.Got=true:=d2.2 hst;obtain ⟨f1,f2,f3,f4⟩:=d4 hg
  split at ha
  ·rw [List.mem_singleton] at ha
   subst ha;have h7:=key ⟨rfl,rfl⟩;exact f3 (by unfold typ at h7; omega)
  ·split at ha
   ·rename_i hb
    rw [List.mem_singleton] at ha
    subst ha;have h7:=key ⟨rfl,rfl⟩;have h7:o.Kind=7:=by unfold typ at h7; omega
    have hnd:=f3 h7
    dsimp only
    unfold before
    rw [h7]
    split
    ·exact Bj
    ·simp only [show ¬ ((7:Int) - 4=1) by omega,show ¬ ((7:Int) - 4=2) by omega,if_false]
     split
     ·split
      ·exact jG.2 ((jG.1 hnd).filter _)
      ·exact Bj
     ·rename_i h0
      exact absurd (show (7:Int) - 4=3 by omega) h0
   ·cases ha
theorem IK {h:History} {a:Ask} {k:Nat}:(fQ h a k).Pairwise (· < ·):=by
 unfold fQ eF;refine List.Pairwise.filter _ (List.pairwise_map.2 ?_);exact (List.Pairwise.filter _ List.pairwise_lt_range).imp (fun h=>by omega)
theorem Fv {O:List Int} {f:Nat→Prop} [DecidablePred f] (hO:O.Pairwise (· < ·)):(picks O f O.length).Pairwise (· < ·):=by
 unfold picks;refine List.pairwise_map.2 ?_;have h1:((List.range O.length).filter (fun j=>decide (f j))).Pairwise (· < ·):=List.Pairwise.filter _ List.pairwise_lt_range;refine h1.imp_of_mem (fun {i j} hi hj hij => ?_);have a0:=List.mem_range.1 (List.mem_filter.1 hj).1
 rw [dh (n:=i) rfl (by omega),dh (n:=j) rfl a0]
 exact List.pairwise_iff_getElem.1 hO i j (by omega) a0 hij
theorem IL {l:List Int} (h:l.Pairwise (· < ·)) {k:Nat} (hk:k + 1 < l.length):idx l (k:Int) < idx l ((k + 1:Nat):Int):=jG.2 h k hk
structure JP (h:History) (a:Ask) (ty:Int) (l:List Int) (r:List Int×Bool):Prop where
 asc:l.Pairwise (· < ·)
 inO:∀ t ∈ l,t ≠ -1→t ∈ oth h a
 e0:ty < 4→∀ t ∈ l,(t = -1↔a.Base.length=0)
 pt:ty=2∨ty=3→∀ t ∈ l,t ≠ -1→r.2=true∧t ∈ r.1
 one:ty=2→l.length≤1
theorem src_ok {h:History} (hS:iw h) (hc:aG h=some 0) {a:Ask} {t p:Nat} (hk:yB h a t p) {r:List Int×Bool} (hr:BC h a (typ (opAt h (t:Int) (p:Int)).Kind) r):JP h a (typ (opAt h (t:Int) (p:Int)).Kind) (wo h a) r:=by
 classical
 have h2:=II hS hc hk;have hP:=fun a0=>zB (a:=a) hS hk a0;obtain ⟨k1,k8⟩:=sV hS hk.tl hk.pl;have hty:1≤typ (opAt h (t:Int) (p:Int)).Kind∧typ (opAt h (t:Int) (p:Int)).Kind≤4:=by unfold typ; omega
 generalize typ (opAt h (t:Int) (p:Int)).Kind=ty at h2 hP hr hty;generalize wo h a=l at h2;have hO:=IK (h:=h) (a:=a) (k:=h.Txns.length);have hpos:∀ x ∈ oth h a,0≤x:=fun x hx=>(Gr hx).1;unfold tZ at h2
 split at h2
 ·rename_i h4
  subst h4;have hpa:=Fv (f:=Win (idx a.Base 0) ((oth h a).map (wro h a)) 0 (fun _=>False) 0) hO;have hpm:∀ x ∈ picks (oth h a) (Win (idx a.Base 0) ((oth h a).map (wro h a)) 0 (fun _=>False) 0) (oth h a).length,x ∈ oth h a:=fun x hx=>by
   obtain ⟨j,hj,_,rfl⟩:=Fu.1 hx;exact dZ hj
  subst h2;refine ⟨?_,fun x hx hn => ?_,fun h=>absurd h (by decide),fun h=>absurd h (by decide),fun h=>absurd h (by decide)⟩
  ·refine List.pairwise_append.2 ⟨?_,hpa,fun x hx y hy => ?_⟩
   ·split
    ·exact List.pairwise_singleton _ _
    ·exact List.Pairwise.nil
   ·have h5:=hpos _ (hpm y hy)
    split at hx
    ·obtain rfl:x = -1:=by simpa using hx
     omega
    ·cases hx
  ·rcases List.mem_append.1 hx with hx | hx
   ·split at hx
    ·exact absurd (by simpa using hx) hn
    ·cases hx
   ·exact hpm x hx
 ·rename_i h4
  split at h2
  ·rename_i h0
   subst h2;exact ⟨List.pairwise_singleton _ _,fun x hx hn=>absurd (by simpa using hx) hn,fun _ x hx=>⟨fun _=>h0,fun _=>by simpa using hx⟩,fun _ x hx hn=>absurd (by simpa using hx) hn,fun _=>by simp⟩
  ·rename_i h0
   have sub:∀ {l':List Int},(∀ x ∈ l',x ∈ oth h a)→∀ x ∈ l',(x = -1↔a.Base.length=0):=fun h' x hx=>⟨fun e=>by have:=hpos x (h' x hx); omega,fun e=>absurd e h0⟩
   split at h2
   ·rename_i h1
    subst h1 h2;have hm:∀ x ∈ lasts (oth h a) (wro h a) (idx a.Base 0),x ∈ oth h a:=fun x hx=>(List.mem_filter.1 hx).1;exact ⟨hO.filter _,fun x hx _=>hm x hx,fun _=>sub hm,fun h=>absurd h (by decide),fun h=>absurd h (by decide)⟩
   ·split at h2
    ·rename_i h1
     subst h1;obtain ⟨r',hr',rfl⟩:=h2;have hr:=hr.1 rfl;rcases hr' with ⟨q1,q2,q3,q4⟩ | ⟨rfl,_⟩
     ·rcases hr with ⟨p1,p2,p3,p4⟩ | ⟨_,p2⟩
      ·have e:r.1=r'.1:=zC.uniq (hP (.inl rfl)) p2 q2 (p4.symm.trans q4);have hne:0 < r'.1.length:=by
        rcases Nat.eq_zero_or_pos r'.1.length with h5 | h5
        ·rw [List.length_eq_zero_iff.1 h5] at q4
         rw [q4] at h0
         exact absurd rfl h0
        ·exact h5
       have hl:sj r'.1 ∈ r'.1:=by
        unfold sj;exact dZ (by omega)
       rw [if_pos q1]
       refine ⟨List.pairwise_singleton _ _,fun x hx _ => ?_,fun _=>sub (fun x hx => ?_),fun _ x hx _=>⟨p1,?_⟩,fun _=>by simp⟩
       ·obtain rfl:x=_:=by simpa using hx
        exact q2 _ hl
       ·obtain rfl:x=_:=by simpa using hx
        exact q2 _ hl
       ·obtain rfl:x=_:=by simpa using hx
        rw [e]; exact hl
      ·exact absurd ⟨q2,q3,q4⟩ (p2 _)
     ·exact ⟨List.Pairwise.nil,fun x hx=>(nomatch hx),fun _ x hx=>(nomatch hx),fun _ x hx=>(nomatch hx),fun _=>by simp⟩
    ·rename_i h1 h2'
     have h3:ty=3:=by omega
     subst h3;obtain ⟨r',hr',rfl⟩:=h2;obtain rfl:=lu.det (hr.2.1 rfl) hr';rcases hr' with ⟨rfl,_⟩ | ⟨rfl,_⟩
     ·have hm:∀ x ∈ qx (oth h a) (wro h a) a.Base,x ∈ oth h a:=fun x hx=>(List.mem_filter.1 hx).1;exact ⟨hO.filter _,fun x hx _=>hm x hx,fun _=>sub hm,fun _ x hx _=>⟨rfl,hx⟩,fun h=>absurd h (by decide)⟩
     ·exact ⟨List.Pairwise.nil,fun x hx=>(nomatch hx),fun _ x hx=>(nomatch hx),fun _ x hx=>(nomatch hx),fun _=>by simp⟩
theorem DD {h:History} (hS:iw h) {a:Ask} (ha:a ∈ fB h h.Txns.length) {t p:Nat} (hk:yB h a t p) {r:List Int×Bool} (hr:BC h a (typ (opAt h (t:Int) (p:Int)).Kind) r) (h2:r.2=true) :
  (∀ t ∈ r.1,t ∈ oth h a)∧fold (typ (opAt h (t:Int) (p:Int)).Kind) (r.1.flatMap (wro h a))=(a.Base,0):=by
 have hb:=hk.b64;have hA:=IJ hS ha hk;generalize typ (opAt h (t:Int) (p:Int)).Kind=ty at hr hA
 by_cases e2:ty=2
 ·subst e2;rcases hr.1 rfl with ⟨_,q2,q3,q4⟩ | ⟨rfl,_⟩
  ·refine ⟨q2,?_⟩
   rw [← q4,Gb,if_pos hb]
  ·cases h2
 ·by_cases e3:ty=3
  ·subst e3;rcases hr.2.1 rfl with ⟨rfl,q1,q2⟩ | ⟨rfl,_⟩
   ·refine ⟨fun x hx=>(List.mem_filter.1 hx).1,?_⟩;have e:sets ((qx (oth h a) (wro h a) a.Base).flatMap (wro h a))=a.Base:=by
     refine Eo (jG.1 (rZ _).1) (jG.1 (hA rfl)) (fun x => ?_)
     rw [(rZ _).2,List.mem_flatMap]
     constructor
     ·rintro ⟨u,hu,hx⟩;obtain ⟨h5,h6⟩:=List.mem_filter.1 hu;have h6:0 < cnt a.Base (wro h a u):=by simpa using h6
      rcases q1 u h5 with h7 | h7
      ·omega
      ·have h8:=List.length_filter_eq_length_iff.1 h7 x hx
       simpa using h8
     ·intro hx;obtain ⟨u,hu,hux⟩:=q2 x hx;refine ⟨u,List.mem_filter.2 ⟨hu,?_⟩,hux⟩
      rw [decide_eq_true_eq]
      unfold cnt;exact List.length_pos_iff_exists_mem.2 ⟨x,List.mem_filter.2 ⟨hux,by simpa using hx⟩⟩
    dsimp only
    rw [Dp,e,if_pos hb]
   ·cases h2
  ·rw [hr.2.2 e2 e3] at h2
   cases h2
theorem yQ (h:History) (i:Int) {K:ByteArray→Prop} (g:HG K h) (gi:(Lit.int .i64 i).wf=true):af h i=some true:=by
 have hs:=g.small;refine dV.1 ?_;unfold af
 rw [sJ]
 refine bJ ?_
 rw [Bool.not_true,cond_false]
 refine dP (Gq hs i) (fun y hy => ?_);refine au (fun _=>ag rfl) (fun h1 => ?_);obtain ⟨ha,hS,hc⟩:=hy (by simpa using h1);obtain ⟨a,b⟩:=y
 dsimp only at ha ⊢
 have a8:=hS.len;obtain ⟨t,p,hk⟩:=Bv hS ha;obtain ⟨r,a9,b1,a0⟩:=DC hS hc hk;have hso:=src_ok hS hc hk a0;have hpf:=DD hS ha hk a0;have hT:dX h a.Key=some (typ (opAt h (t:Int) (p:Int)).Kind):=xP hS hc hk.tl hk.pl hk.e3.symm;have hPt:mV h a=some (r.1,r.2,0):=by
  refine dV.1 ?_;unfold mV;refine dP (zJ hs hS hc (CB hS ha)) (fun k hk => ?_);rcases hk with ⟨rfl,_⟩ | ⟨_,h1⟩
  ·refine au (fun h1=>absurd rfl h1) (fun _ => ?_);exact bY a9 (ag rfl)
  ·exact absurd ha h1
 have b2:=hk.b64;have hsl:=Fs hS hc ha;have a7:r.2=false→r.1=[]:=fun e=>by
  by_cases e2:typ (opAt h (t:Int) (p:Int)).Kind=2
  ·rcases a0.1 e2 with ⟨q,_⟩ | ⟨rfl,_⟩
   ·rw [q] at e; cases e
   ·rfl
  ·by_cases e3:typ (opAt h (t:Int) (p:Int)).Kind=3
   ·rcases a0.2.1 e3 with ⟨rfl,_⟩ | ⟨rfl,_⟩
    ·cases e
    ·rfl
   ·rw [a0.2.2 e2 e3]
 refine bY (BB hs hS hc ha) ?_;refine bY (wV hS hc) ?_;refine bY hPt ?_;refine bY hT ?_;generalize typ (opAt h (t:Int) (p:Int)).Kind=ty at hso hpf;have hwl:(eF h a.Key h.Txns.length).length≤32:=Nat.le_trans oC a8;have hin:∀ x ∈ oth h a,x ∈ eF h a.Key h.Txns.length∧x≠a.Txn:=fun x hx=>by
  unfold oth fQ at hx;obtain ⟨q1,q2⟩:=List.mem_filter.1 hx;exact ⟨q1,by simpa using q2⟩
 generalize hwd:eF h a.Key h.Txns.length=wr at hwl hin;have a5:((0:Int) != 0)=false:=by decide
 dsimp only
 rw [a5,cond_false,cond_false]
 have a3:Tri (dz h (a,b) (wo h a,0) wr (r.1,r.2,0) ty false) (fun b=>b=true):=by
  unfold dz
  rw [cond_false]
  generalize hl:wo h a=l at hso hsl;refine dC (k0:=0) l.length (fun k s=>s=(k:Int)) (Nat.zero_le _) rfl ?_;rintro k s hk' rfl;have hw:w64 ((k:Int) + 1)=((k + 1:Nat):Int):=bn (by omega);unfold iq
  dsimp only
  refine au (fun h5 => ?_) (fun h5 => ?_)
  ·have a2:k < l.length:=by omega
   have hm:idx l (k:Int) ∈ l:=dZ a2;have hJ:az (l,0) (r.1,r.2,0) ty (k:Int) false=some (.inl ((k + 1:Nat):Int)):=by
    refine dV.1 ?_;unfold az
    rw [cond_false]
    have h4:aW (k:Int) false=some (.inl ((k + 1:Nat):Int)):=by
     unfold aW
     rw [cond_false,hw]
    have fin:ty=2∨ty=3→Tri (bif (idx l (k:Int) != (-1)) then bif !r.2 then aW (k:Int) true else ((dw r.1 (idx l (k:Int))).bind fun y=>aW (k:Int) (!y)) else (aW (k:Int) false)) (fun x=>x = .inl ((k + 1:Nat):Int)):=fun a6=>by
     refine au (fun h6 => ?_) (fun h6=>dV.2 h4);obtain ⟨q1,q2⟩:=hso.pt a6 _ hm h6
     rw [q1,Bool.not_true,cond_false]
     refine bY (zK (by omega)) ?_
     rw [decide_eq_true q2,Bool.not_true]
     exact dV.2 h4
    refine au (fun h6=>ai (by dsimp only; omega) (fin (.inl h6))) (fun _=>au (fun h6=>ai (by dsimp only; omega) (fin (.inr h6))) (fun _=>dV.2 h4))
   have h4:((idx l (k:Int) == (-1)) != ((a.Base.length:Int) == 0))=false ∨ ¬ ty < 4:=by
    by_cases h6:ty < 4
    ·left
     have h7:=hso.e0 h6 _ hm
     by_cases h8:idx l (k:Int) = -1
     ·have:=h7.1 h8
      rw [beq_iff_eq.2 h8,show ((a.Base.length:Int) == 0)=true by rw [beq_iff_eq]; omega]
      rfl
     ·have:a.Base.length≠0:=fun e=>h8 (h7.2 e)
      rw [beq_eq_false_iff_ne.2 h8,show ((a.Base.length:Int) == 0)=false by rw [beq_eq_false_iff_ne]; omega]
      rfl
    ·exact .inr h6
   have hE:Tri (bif decide (ty < 4) then az (l,0) (r.1,r.2,0) ty (k:Int) ((idx l (k:Int) == (-1)) != ((a.Base.length:Int) == 0)) else (az (l,0) (r.1,r.2,0) ty (k:Int) false)) (fun x=>x = .inl ((k + 1:Nat):Int)):=by
    refine au (fun h6 => ?_) (fun h6=>dV.2 hJ);rcases h4 with h4 | h4
    ·rw [h4]; exact dV.2 hJ
    ·exact absurd h6 h4
   have hR:Tri (bif (idx l (k:Int) != (-1)) then bif (idx l (k:Int) == a.Txn) then az (l,0) (r.1,r.2,0) ty (k:Int) true else ((dw wr (idx l (k:Int))).bind fun y=>bif !y then az (l,0) (r.1,r.2,0) ty (k:Int) true else (bif decide (ty < 4) then az (l,0) (r.1,r.2,0) ty (k:Int) ((idx l (k:Int) == (-1)) != ((a.Base.length:Int) == 0)) else (az (l,0) (r.1,r.2,0) ty (k:Int) false))) else (bif decide (ty < 4) then az (l,0) (r.1,r.2,0) ty (k:Int) ((idx l (k:Int) == (-1)) != ((a.Base.length:Int) == 0)) else (az (l,0) (r.1,r.2,0) ty (k:Int) false))) (fun x=>x = .inl ((k + 1:Nat):Int)):=by
    refine au (fun h6 => ?_) (fun _=>hE);obtain ⟨q1,q2⟩:=hin _ (hso.inO _ hm h6);refine au (fun h7=>absurd h7 q2) (fun _ => ?_);refine bY (zK (by omega)) ?_
    rw [decide_eq_true q1,Bool.not_true,cond_false]
    exact hE
   have fin:∀ {x:Option (Int ⊕ Bool)},Tri x (fun x=>x = .inl ((k + 1:Nat):Int))→Tri x (Upm l.length k (fun k s=>s=(k:Int)) (fun b=>b=true)):=fun h6=>dU h6 (by rintro x rfl; exact ⟨a2,rfl⟩);refine au (fun h6 => ?_) (fun h6=>ai (by omega) (fin hR));obtain ⟨j,rfl⟩:∃ j,k=j + 1:=⟨k - 1,by omega⟩
   have hp:w64 (((j + 1:Nat):Int) - 1)=(j:Int):=by rw [ku (by omega) (by omega)]; omega
   rw [hp]
   refine ai (by omega) (ai (by omega) ?_);have:=IL hso.asc a2;exact au (fun h7=>absurd h7 (by omega)) (fun _=>fin hR)
  ·refine au (fun h6 => ?_) (fun h6 => ?_)
   ·refine ax (ag ?_)
    rw [a7 (by simpa using h6)]
    rfl
   ·have hr':r.2=true:=by simpa using h6
    obtain ⟨q1,q2⟩:=hpf hr';have a4:fold ty (r.1.flatMap (wro h a))=(a.Base,0):=q2;have hlen:∀ n,n≤r.1.length→((r.1.take n).flatMap (wro h a)).length≤16 * n:=by
     intro n
     induction n with
     | zero=>intro _; simp
     | succ n ih =>
      intro hn;have h7:=ih (by omega)
      rw [pV (by omega),List.flatMap_append,List.length_append]
      have h8:=Gr (q1 _ (dZ (show n < r.1.length by omega)));have h9:(wro h a (idx r.1 (n:Int))).length≤16:=by
       obtain ⟨m,hm⟩:∃ m:Nat,idx r.1 (n:Int)=(m:Int):=⟨(idx r.1 (n:Int)).toNat,by omega⟩
       rw [hm] at h8 ⊢
       exact Nat.le_trans qZ (hS.txn m (by omega)).ops.1
      simp only [List.flatMap_cons,List.flatMap_nil,List.append_nil]
      omega
    suffices hfin:Tri (iter (fA h (a,b) (r.1,r.2,0) ty) ([],0)) (fun x:Int ⊕ Bool=>x = .inr true) from dU hfin (by rintro x rfl; rfl)
    refine dC (k0:=0) r.1.length (fun k s=>s=((r.1.take k).flatMap (wro h a),(k:Int))) (Nat.zero_le _) rfl ?_;rintro n s hn rfl;have hw:w64 ((n:Int) + 1)=((n + 1:Nat):Int):=bn (by omega);have b0:=hlen n hn;unfold fA
    dsimp only
    rw [hw]
    refine au (fun h7 => ?_) (fun h7 => ?_)
    ·have a1:n < r.1.length:=by omega
     have hx:=q1 _ (dZ a1);obtain ⟨⟨g0,g1,_,g3⟩,_⟩:=nU.1 hx;have h9:(fI h (idx r.1 (n:Int)) a.Key).length≤16:=by
      obtain ⟨m,hm⟩:∃ m:Nat,idx r.1 (n:Int)=(m:Int):=⟨(idx r.1 (n:Int)).toNat,by omega⟩
      rw [hm] at g1 ⊢
      exact Nat.le_trans qZ (hS.txn m (by omega)).ops.1
     refine ai (by omega) (bY (zz hS hc) ?_)
     rw [if_pos ⟨g0,g1⟩]
     dsimp only
     rw [decide_eq_true g3,Bool.not_true,cond_false]
     refine ai (by omega) (ag ⟨a1,?_⟩)
     dsimp only
     rw [pV a1,List.flatMap_append]
     simp
    ·have:n=r.1.length:=by omega
     subst this
     rw [List.take_length]
     rw [List.take_length] at b0
     refine bY (yL ty (by omega)) ?_
     rw [a4]
     refine au (fun _ => ?_) (fun h8=>absurd rfl h8);refine bY (Av (by dsimp only; omega)) ?_
     rw [decide_eq_true rfl]
     exact ax (ax (ag rfl))
 refine au (fun h5 => ?_) (fun _=>a3);have:=hso.one h5
 rw [show decide (((wo h a).length:Int) > 1)=false from decide_eq_false (by omega)]
 exact a3
end Go.Proofs.YtnlkggppokcmfaaT
