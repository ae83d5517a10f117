import Derived.Test.YtnlkggppokcmfaaGreatTPXB
namespace Go.Proofs.YtnlkggppokcmfaaGreatT
open Go Go.Proofs Go.Proofs.YtnlkggppokcmfaaGreatE
set_option linter.unusedVariables false
set_option linter.unusedSimpArgs false
def CS (h:History) (key ty:Int):Prop:=∀ t p:Nat,t < h.Txns.length→p < (idx h.Txns (t:Int)).Ops.length→(opAt h (t:Int) (p:Int)).Key=key→typ (opAt h (t:Int) (p:Int)).Kind=ty
def Apart (e f:Call×Int):Prop:=e.1.Key=f.1.Key→(e.1.Kind=2∨e.1.Kind=3)→(f.1.Kind=2∨f.1.Kind=3)→e.1.Arg≠f.1.Arg
theorem zW {L:List (Call×Int)} (h:nZ [] L):L.Pairwise Apart:=by
 rw [List.pairwise_iff_getElem]
 intro i j hi hj hij hk h1 h2;have:=(h j hj).2.1
 rw [dn (n:=j) rfl hj] at this
 exact this h2 L[i] (by rw [List.nil_append]; exact List.mem_take_iff_getElem.2 ⟨i,by omega,rfl⟩) hk h1
theorem Bi {h:History} {t key v:Int}:v ∈ iA h t key↔∃ o ∈ (idx h.Txns t).Ops,o.Key=key∧o.Kind≤4∧o.Arg=v:=by
 unfold iA qJ
 rw [List.take_length]
 simp only [List.mem_map,List.mem_filter,decide_eq_true_eq]
 constructor
 ·rintro ⟨o,⟨h1,h2,h3⟩,h4⟩; exact ⟨o,h1,h2,h3,h4⟩
 ·rintro ⟨o,h1,h2,h3,h4⟩; exact ⟨o,⟨h1,h2,h3⟩,h4⟩
theorem Kw {h:History} {t:Nat} {o:Op} (ho:o ∈ (idx h.Txns (t:Int)).Ops):∃ p:Nat,p < (idx h.Txns (t:Int)).Ops.length∧opAt h (t:Int) (p:Int)=o:=by
 obtain ⟨p,hp,rfl⟩:=List.getElem_of_mem ho;exact ⟨p,hp,dn rfl hp⟩
theorem zA {h:History} (hS:jS h) {key ty:Int} (hty:CS h key ty) (a0:ty=2∨ty=3) {t:Nat} (ht:t < h.Txns.length) {o:Op} (ho:o ∈ (idx h.Txns (t:Int)).Ops) (hk:o.Key=key) (h4:o.Kind≤4):o.Kind=2∨o.Kind=3:=by
 obtain ⟨p,hp,rfl⟩:=Kw ho;have h1:=hty t p ht hp hk;obtain ⟨k1,k2⟩:=xN hS ht hp;unfold typ at h1
 omega
theorem CU {h:History} (hS:jS h) {key ty:Int} (hty:CS h key ty) (a0:ty=2∨ty=3) {t:Nat} (ht:t < h.Txns.length):(iA h (t:Int) key).Nodup:=by
 have hp:=(List.pairwise_flatMap.1 (zW hS.ents)).1 t (List.mem_range.2 ht);unfold wN cB at hp
 rw [List.map_map,List.pairwise_map] at hp
 unfold iA qJ
 rw [List.take_length]
 unfold List.Nodup
 rw [List.pairwise_map,List.pairwise_filter]
 refine List.Pairwise.imp_of_mem (fun {x y} hx hy hR => ?_) hp;intro h1 h2
 rw [decide_eq_true_eq] at h1 h2
 refine hR ?_ (zA hS hty a0 ht hx h1.1 h1.2) (zA hS hty a0 ht hy h2.1 h2.2)
 show idx h.Keys _=idx h.Keys _
 rw [h1.1,h2.1]
theorem CV {h:History} (hS:jS h) {key ty:Int} (hty:CS h key ty) (a1:ty=2∨ty=3) {t u:Nat} (ht:t < h.Txns.length) (hu:u < h.Txns.length) (hn:t≠u) {v:Int}
  (h1:v ∈ iA h (t:Int) key):v ∉ iA h (u:Int) key:=by
 intro h2;have hp:=(List.pairwise_flatMap.1 (zW hS.ents)).2;obtain ⟨o,ho,k1,k2,k3⟩:=Bi.1 h1;obtain ⟨o',ho',l1,l2,l3⟩:=Bi.1 h2;have a0:∀ {t u:Nat} (ht:t < h.Txns.length) (hu:u < h.Txns.length),t < u→∀ {o o':Op},o ∈ (idx h.Txns (t:Int)).Ops→o' ∈ (idx h.Txns (u:Int)).Ops→o.Key=key→o'.Key=key→o.Kind≤4→o'.Kind≤4→o.Arg≠o'.Arg:=by
  intro t u ht hu htu o o' ho ho' e1 e2 e3 e4;have:=(List.pairwise_iff_getElem.1 hp) t u (by simpa using ht) (by simpa using hu) htu
  rw [List.getElem_range,List.getElem_range] at this
  refine this (sJ h o,(t:Int)) ?_ (sJ h o',(u:Int)) ?_ ?_ (zA hS hty a1 ht ho e1 e3) (zA hS hty a1 hu ho' e2 e4)
  ·unfold wN cB; rw [List.map_map]; exact List.mem_map.2 ⟨o,ho,rfl⟩
  ·unfold wN cB; rw [List.map_map]; exact List.mem_map.2 ⟨o',ho',rfl⟩
  ·show idx h.Keys _=idx h.Keys _
   rw [e1,e2]
 rcases Nat.lt_or_gt_of_ne hn with hlt | hlt
 ·exact a0 ht hu hlt ho ho' k1 l1 k2 l2 (k3.trans l3.symm)
 ·exact a0 hu ht hlt ho' ho l1 k1 l2 k2 (l3.trans k3.symm)
structure EO (h:History) (a:Ask) (t p:Nat):Prop where
 tl:t < h.Txns.length
 pl:p < (idx h.Txns (t:Int)).Ops.length
 e1:a.Txn=(t:Int)
 e2:a.Place=(p:Int)
 e3:a.Key=(opAt h (t:Int) (p:Int)).Key
 rd:5≤(opAt h (t:Int) (p:Int)).Kind
 b64:a.Base.length≤64
 b4:typ (opAt h (t:Int) (p:Int)).Kind=4→a.Base.length=1
 b3:typ (opAt h (t:Int) (p:Int)).Kind=3→a.Base.Nodup
theorem Bj {s:List Int} (h:Asc s):s.Nodup:=by
 exact (vY.1 h).imp (fun h=>by omega)
theorem Ca {h:History} (hS:jS h) {a:Ask} (ha:a ∈ fU h h.Txns.length):∃ t p,EO h a t p:=by
 unfold fU at ha;obtain ⟨t,ht,ha⟩:=List.mem_flatMap.1 ha;have ht:=List.mem_range.1 ht;unfold rf at ha
 split at ha
 case isFalse=>cases ha
 case isTrue hst =>
 unfold qZ at ha;obtain ⟨p,hp,ha⟩:=List.mem_flatMap.1 ha;have hp:=List.mem_range.1 hp;refine ⟨t,p,?_⟩;obtain ⟨k1,k8⟩:=xN hS ht hp;obtain ⟨_,_,_,_,_,hcs⟩:=hS.txn t ht;have hc:=hcs p (by simpa [wJ,cB] using hp)
 dsimp only [wJ,cB] at hc
 rw [uz hp] at hc
 unfold qE sJ at hc
 dsimp only at hc
 unfold yR at ha
 dsimp only at ha
 have ho:idx (idx h.Txns (t:Int)).Ops (p:Int)=opAt h (t:Int) (p:Int):=rfl
 rw [ho] at ha hc
 generalize opAt h (t:Int) (p:Int)=o at ha hc k1 k8 ho;obtain ⟨c1,c8,c3,c4,c5,c6⟩:=hc;have hoo:opAt h (t:Int) (p:Int)=o:=ho
 split at ha
 ·cases ha
 ·rename_i h4
  obtain ⟨d1,d2,d3,d4⟩:=c6 (by omega);have hg:o.Got=true:=d2.2 hst;obtain ⟨f1,f2,f3,f4⟩:=d4 hg
  split at ha
  ·rw [List.mem_singleton] at ha
   subst ha;exact ⟨ht,hp,rfl,rfl,by rw [hoo],by rw [hoo]; omega,f4,fun h=>f2 (by rw [hoo] at h; unfold typ at h; omega),fun h=>Bj (f3 (by rw [hoo] at h; unfold typ at h; omega))⟩
  ·split at ha
   ·rename_i hb
    rw [List.mem_singleton] at ha
    subst ha;obtain ⟨hb,h5⟩:=hb;refine ⟨ht,hp,rfl,rfl,by rw [hoo],by rw [hoo]; omega,?_,fun h => ?_,fun h => ?_⟩
    ·dsimp only
     unfold before;have:=List.length_filter_le (fun x=>decide (x ∉ qJ (idx h.Txns (t:Int)).Ops o.Key p)) o.Vals
     split
     ·simp
     ·split
      ·simp
      ·split
       ·split
        ·simp; omega
        ·simp
       ·split
        ·split
         ·dsimp only; omega
         ·simp
        ·simp
    ·have h8:o.Kind=8:=by rw [hoo] at h; unfold typ at h; omega
     dsimp only
     unfold before at hb ⊢
     rw [h8] at hb ⊢
     split at hb
     ·cases hb
     ·rename_i hq
      rw [if_neg hq]
      simp
    ·have h7:o.Kind=7:=by rw [hoo] at h; unfold typ at h; omega
     have hnd:=Bj (f3 h7)
     dsimp only
     unfold before
     rw [h7]
     split
     ·simp
     ·simp only [show ¬ ((7:Int) - 4=1) by omega,show ¬ ((7:Int) - 4=2) by omega,if_false]
      split
      ·split
       ·exact hnd.filter _
       ·simp
      ·rename_i h0
       exact absurd (show (7:Int) - 4=3 by omega) h0
   ·cases ha
end Go.Proofs.YtnlkggppokcmfaaGreatT
namespace Go.Proofs.YtnlkggppokcmfaaGreatT
open Go Go.Proofs Go.Proofs.YtnlkggppokcmfaaGreatE
set_option linter.unusedVariables false
set_option linter.unusedSimpArgs false
theorem yG {α:Type} [Inhabited α] {l:List α} {k:Nat}:gH l (k:Int) (l.length:Int)=l.drop k:=by
 unfold gH
 simp
theorem FC {l:List Int} {v:Int} (hl:l.length < 2 ^ 60):slices_Contains_int l v=some (decide (v ∈ l)):=by
 have h1:Tri (slices_Index_int l v) (fun r=>0≤r↔∃ j:Nat,j < l.length∧idx l (j:Int)=v):=by
  unfold slices_Index_int;refine kC l.length (fun j=>idx l (j:Int)≠v) ?_;intro k hk hJ;unfold ng
  dsimp only
  repeat' (first | contradiction | with_reducible refine ay (fun hq => ?_) (fun hq => ?_) | with_reducible refine ai (by first | omega | grind [bG]) ?_ | with_reducible refine az ?_ | with_reducible refine bI ?_ | with_reducible refine bT ?_ | with_reducible refine bU ?_ | with_reducible refine bV ?_ | with_reducible refine ag ?_)
  all_goals grind [Nxt,bG]
 refine dI.1 ?_;unfold slices_Contains_int;refine ed h1 (fun r hr=>ag ?_);have:(∃ j:Nat,j < l.length∧idx l (j:Int)=v)↔v ∈ l:=by
  rw [List.mem_iff_getElem]
  constructor
  ·rintro ⟨j,hj,e⟩; exact ⟨j,hj,by rw [← e,dn (n:=j) rfl hj]⟩
  ·rintro ⟨j,hj,e⟩; exact ⟨j,hj,by rw [← e,dn (n:=j) rfl hj]⟩
 rw [decide_eq_decide]
 exact hr.trans this
theorem CW {s p:List Int} (hs:s.length < 2 ^ 60):ja s p=some (decide (p <+: s)):=by
 refine dI.1 ?_;unfold ja;refine ay (fun h => ?_) (fun h => ?_)
 ·refine ag ?_
  rw [eq_comm,decide_eq_false_iff_not]
  intro hp;have:=hp.length_le
  omega
 ·have hl:p.length≤s.length:=by omega
  refine ai (by omega) ?_;have hsv:bK (gH s (0:Int) (p.length:Int)) p=some (decide (gH s (0:Int) (p.length:Int)=p)):=sK (by rw [mK hl,List.length_take]; omega);refine df hsv (ag ?_)
  rw [decide_eq_decide,mK hl,List.prefix_iff_eq_take,eq_comm]
structure Parts (O:List Int) (W:Int→List Int):Prop where
 ne:∀ t ∈ O,0 < (W t).length
 ap:∀ t ∈ O,∀ u ∈ O,∀ v,v ∈ W t→v ∈ W u→t=u
 nd:∀ t ∈ O,(W t).Nodup
 ol:O.length≤32
 wl:∀ t ∈ O,(W t).length≤16
 pos:∀ t ∈ O,0≤t
theorem CX {h:History} (hS:jS h) {a:Ask} {t p:Nat} (ha:EO h a t p) (a0:typ (opAt h (t:Int) (p:Int)).Kind=2∨typ (opAt h (t:Int) (p:Int)).Kind=3) :
  Parts (jc h a h.Txns.length) (fun t=>iA h t a.Key):=by
 have a1:=hS.len;have hty:CS h a.Key (typ (opAt h (t:Int) (p:Int)).Kind):=fun t' p' ht' hp' hk=>CR hS ht' hp' ha.tl ha.pl (hk.trans ha.e3);have hm:∀ u ∈ jc h a h.Txns.length,∃ n:Nat,u=(n:Int)∧n < h.Txns.length∧0 < (iA h u a.Key).length:=by
  intro u hu;obtain ⟨⟨h0,h1,_,h3⟩,_⟩:=ut.1 hu;exact ⟨u.toNat,by omega,by omega,h3⟩
 refine ⟨fun u hu => ?_,fun u hu v hv x h1 h2 => ?_,fun u hu => ?_,Nat.le_trans qL a1,fun u hu => ?_,fun u hu=>(ut.1 hu).1.1⟩
 ·obtain ⟨n,_,_,h3⟩:=hm u hu; exact h3
 ·obtain ⟨n,rfl,hn,_⟩:=hm u hu;obtain ⟨m,rfl,hm',_⟩:=hm v hv
  by_cases hne:n=m
  ·rw [hne]
  ·exact absurd h2 (CV hS hty a0 hn hm' hne h1)
 ·obtain ⟨n,rfl,hn,_⟩:=hm u hu;exact CU hS hty a0 hn
 ·obtain ⟨n,rfl,hn,_⟩:=hm u hu;exact Nat.le_trans yS (hS.txn n hn).ops.1
section
variable {O:List Int} {W:Int→List Int}
def yH (O:List Int) (W:Int→List Int):List aL:=O.map (fun t=>⟨t,W t⟩)
theorem tJ:(yH O W).length=O.length:=List.length_map _
theorem wh {j:Nat} (hj:j < O.length):idx (yH O W) (j:Int)=⟨idx O (j:Int),W (idx O (j:Int))⟩:=uz hj
theorem gu {l:List Int} {j:Nat} (hj:j < l.length):idx l (j:Int) ∈ l:=by rw [dn (n:=j) rfl hj]; exact List.getElem_mem _
theorem uu {l:List Int} {t:Int} (h:t ∈ l):∃ j:Nat,j < l.length∧idx l (j:Int)=t:=by
 obtain ⟨j,hj,e⟩:=List.getElem_of_mem h;exact ⟨j,hj,(dn rfl hj).trans e⟩
theorem nL {p s:List Int} (hp:p <+: s) (h0:0 < p.length):idx p 0=idx s 0:=by
 obtain ⟨r,rfl⟩:=hp;exact (jT (j:=0) h0).symm
theorem FD (hP:Parts O W) {rest:List Int} (hr:0 < rest.length):Tri (bA (yH O W) rest)
  (fun y=>(∃ j:Nat,j < O.length∧y=(j:Int)∧idx (W (idx O (j:Int))) 0=idx rest 0)∨(y = -1∧∀ t ∈ O,idx (W t) 0≠idx rest 0)):=by
 have hol:=hP.ol;unfold bA;refine di (k0:=0) O.length (fun k s=>s=(k:Int)∧∀ j:Nat,j < k→idx (W (idx O (j:Int))) 0≠idx rest 0) (Nat.zero_le _) ⟨rfl,fun j h=>absurd h (Nat.not_lt_zero _)⟩ ?_;rintro k s hk ⟨rfl,hno⟩;have hw:w64 ((k:Int) + 1)=((k + 1:Nat):Int):=aV (by omega);unfold eu qg
 dsimp only
 rw [hw,tJ]
 refine ay (fun a1 => ?_) (fun a1 => ?_)
 ·have a0:k < O.length:=by omega
  have h0:=hP.ne _ (gu a0)
  rw [wh a0]
  refine ai (by omega) ?_
  simp only [jV _ (show 0≤(0:Int)∧(0:Int) < ((W (idx O (k:Int))).length:Int) by omega),jV _ (show 0≤(0:Int)∧(0:Int) < (rest.length:Int) by omega),Option.bind_some]
  refine ay (fun he => ?_) (fun he => ?_)
  ·exact az (ag (.inl ⟨k,a0,rfl,he⟩))
  ·refine ag ⟨a0,rfl,fun j hj => ?_⟩;rcases Nat.lt_or_ge j k with h1 | h1
   ·exact hno j h1
   ·have:j=k:=by omega
    subst this;exact he
 ·have:k=O.length:=by omega
  subst this;refine az (ag (.inr ⟨rfl,fun t ht => ?_⟩));obtain ⟨j,hj,rfl⟩:=uu ht;exact hno j hj
theorem pV (hP:Parts O W) {rest:List Int} {t u:Int} (ht:t ∈ O) (hu:u ∈ O) (h1:idx (W t) 0=idx rest 0) (h2:idx (W u) 0=idx rest 0):t=u:=by
 have e1:=hP.ne t ht;have e2:=hP.ne u hu;refine hP.ap t ht u hu (idx rest 0) ?_ ?_
 ·rw [← h1]; exact gu (j:=0) e1
 ·rw [← h2]; exact gu (j:=0) e2
end
end Go.Proofs.YtnlkggppokcmfaaGreatT
namespace Go.Proofs.YtnlkggppokcmfaaGreatT
open Go Go.Proofs Go.Proofs.YtnlkggppokcmfaaGreatE
set_option linter.unusedVariables false
set_option linter.unusedSimpArgs false
def Stp (O:List Int) (W:Int→List Int) (rest l:List Int):Option (Option Int)→Prop
 | none=>rest.length=0
 | some none=>0 < rest.length∧∀ t ∈ O,W t <+: rest→t ∈ l
 | some (some t)=>0 < rest.length∧t ∈ O∧W t <+: rest∧t ∉ l
section
variable {O:List Int} {W:Int→List Int} {rest l:List Int}
theorem Stp.det (hP:Parts O W) {x y:Option (Option Int)} (hx:Stp O W rest l x) (hy:Stp O W rest l y):x=y:=by
 match x,y,hx,hy with
 | none,none,_,_=>rfl
 | none,some none,h1,h2=>exact absurd (show rest.length=0 from h1) (by have:0 < rest.length:=h2.1; omega)
 | none,some (some t),h1,h2=>exact absurd (show rest.length=0 from h1) (by have:0 < rest.length:=h2.1; omega)
 | some none,none,h1,h2=>exact absurd (show rest.length=0 from h2) (by have:0 < rest.length:=h1.1; omega)
 | some (some t),none,h1,h2=>exact absurd (show rest.length=0 from h2) (by have:0 < rest.length:=h1.1; omega)
 | some none,some none,_,_=>rfl
 | some none,some (some t),h1,h2=>exact absurd (h1.2 t h2.2.1 h2.2.2.1) h2.2.2.2
 | some (some t),some none,h1,h2=>exact absurd (h2.2 t h1.2.1 h1.2.2.1) h1.2.2.2
 | some (some t),some (some u),h1,h2 =>
  rw [pV hP h1.2.1 h2.2.1 (nL h1.2.2.1 (hP.ne t h1.2.1)) (nL h2.2.2.1 (hP.ne u h2.2.1))]
def KH (W:Int→List Int) (rest l:List Int):Option (Option Int)→(List Int×List Int) ⊕ (List Int×Bool)
 | none => .inr (l,true)
 | some none => .inr ([],false)
 | some (some t) => .inl (rest.drop (W t).length,l++[t])
def KI (W:Int→List Int) (rest l:List Int):Option (Option Int)→(List Int×List Int) ⊕ (List Int×Bool)
 | none => .inr (l,true)
 | some none => .inr ([],false)
 | some (some t) => .inl (l++[t],rest.drop (W t).length)
theorem FE (hP:Parts O W) (hr:rest.length≤64) (hl:l.length≤64):Tri (oH (yH O W) (rest,l)) (fun x=>∃ o,Stp O W rest l o∧x=KH W rest l o):=by
 have hol:=hP.ol;unfold oH
 dsimp only
 refine ay (fun h0 => ?_) (fun h0 => ?_)
 ·have h0:0 < rest.length:=by omega
  refine ed (FD hP h0) (fun y hy => ?_);unfold kE
  rw [tJ]
  rcases hy with ⟨j,hj,rfl,hh⟩ | ⟨rfl,hno⟩
  ·have a0:=hP.wl _ (gu hj);refine ay (fun h1=>absurd h1 (by omega)) (fun _ => ?_);refine ai (by omega) ?_
   rw [wh hj]
   dsimp only
   generalize hg:idx O (j:Int)=t at *;have ht:t ∈ O:=hg ▸ gu hj;refine ay (fun h2 => ?_) (fun h2 => ?_)
   ·refine az (ag ⟨some none,⟨h0,fun u hu hp => ?_⟩,rfl⟩);have:=pV hP hu ht (nL hp (hP.ne u hu)) hh;subst this;have:=hp.length_le
    omega
   ·have h2:(W t).length≤rest.length:=by omega
    refine ai (by omega) ?_;refine df (wX (by omega)) ?_
    rw [mK h2]
    refine ay (fun h3 => ?_) (fun h3 => ?_)
    ·refine az (ag ⟨some none,⟨h0,fun u hu hp => ?_⟩,rfl⟩);have:=pV hP hu ht (nL hp (hP.ne u hu)) hh;subst this;have:=List.prefix_iff_eq_take.1 hp;exact absurd this (by simpa using h3)
    ·have h3:W t=rest.take (W t).length:=by simpa using h3
     refine df (FC (by omega)) ?_;refine ay (fun h4 => ?_) (fun h4 => ?_)
     ·refine az (ag ⟨some none,⟨h0,fun u hu hp => ?_⟩,rfl⟩);have:=pV hP hu ht (nL hp (hP.ne u hu)) hh;subst this;exact h4
     ·refine ai (by omega) (ai (by omega) (ai (by omega) ?_))
      rw [yG]
      exact ag ⟨some (some t),⟨h0,ht,List.prefix_iff_eq_take.2 h3,h4⟩,rfl⟩
  ·refine ay (fun h1 => ?_) (fun h1=>absurd h1 (by omega));exact az (ag ⟨some none,⟨h0,fun u hu hp=>absurd (nL hp (hP.ne u hu)) (hno u hu)⟩,rfl⟩)
 ·exact az (ag ⟨none,by show rest.length=0; omega,rfl⟩)
theorem Gz {h:History} {a:Ask} (hP:Parts O W) (hW:∀ t ∈ O,aM h t a.Key=some (W t)) (hr:rest.length≤64) (hl:l.length≤64) :
  Tri (iR h a O (l,rest)) (fun x=>∃ o,Stp O W rest l o∧x=KI W rest l o):=by
 have hol:=hP.ol;unfold iR
 dsimp only
 refine ay (fun h0 => ?_) (fun h0 => ?_)
 ·have h0:0 < rest.length:=by omega
  refine di (k0:=0) O.length (fun k s=>s.2=(k:Int)∧((s.1 = -1∧∀ j:Nat,j < k → ¬ W (idx O (j:Int)) <+: rest)∨(s.1 ∈ O∧W s.1 <+: rest))) (Nat.zero_le _) ⟨rfl,.inl ⟨rfl,fun j h=>absurd h (Nat.not_lt_zero _)⟩⟩ ?_;rintro k ⟨x,y⟩ hk ⟨e,hx⟩
  dsimp only at e hx
  subst e;have hw:w64 ((k:Int) + 1)=((k + 1:Nat):Int):=aV (by omega);unfold nA kw
  dsimp only
  rw [hw]
  refine ay (fun a4 => ?_) (fun a4 => ?_)
  ·have a0:k < O.length:=by omega
   refine ai (by omega) ?_;refine df (hW _ (gu a0)) ?_;refine df (CW (by omega)) ?_;refine ay (fun h1 => ?_) (fun h1 => ?_)
   ·exact ag ⟨a0,rfl,.inr ⟨gu a0,h1⟩⟩
   ·refine ag ⟨a0,rfl,?_⟩;rcases hx with ⟨e,hx⟩ | hx
    ·refine .inl ⟨e,fun j hj => ?_⟩;rcases Nat.lt_or_ge j k with h2 | h2
     ·exact hx j h2
     ·have:j=k:=by omega
      subst this;exact h1
    ·exact .inr hx
  ·have:k=O.length:=by omega
   subst this;rcases hx with ⟨rfl,hx⟩ | ⟨hx,hp⟩
   ·refine ay (fun _ => ?_) (fun h1=>absurd h1 (by omega));refine az (az (ag ⟨some none,⟨h0,fun t ht hp => ?_⟩,rfl⟩));obtain ⟨j,hj,rfl⟩:=uu ht;exact absurd hp (hx j hj)
   ·have h2:=hP.pos x hx;have h3:=hp.length_le;refine ay (fun h1=>absurd h1 (by omega)) (fun _ => ?_);refine di (k0:=0) l.length (fun k s=>s=(k:Int)∧∀ j:Nat,j < k→idx l (j:Int)≠x) (Nat.zero_le _) ⟨rfl,fun j h=>absurd h (Nat.not_lt_zero _)⟩ ?_;rintro m s hm ⟨rfl,hno⟩;have a3:w64 ((m:Int) + 1)=((m + 1:Nat):Int):=aV (by omega);unfold nz
    dsimp only
    rw [a3]
    refine ay (fun a2 => ?_) (fun a2 => ?_)
    ·have a1:m < l.length:=by omega
     refine ai (by omega) ?_;refine ay (fun h4 => ?_) (fun h4 => ?_)
     ·refine az (az (az (ag ⟨some none,⟨h0,fun u hu hq => ?_⟩,rfl⟩)))
      rw [pV hP hu hx (nL hq (hP.ne u hu)) (nL hp (hP.ne x hx)),← h4]
      exact gu a1
     ·refine ag ⟨a1,rfl,fun j hj => ?_⟩;rcases Nat.lt_or_ge j m with h5 | h5
      ·exact hno j h5
      ·have:j=m:=by omega
       subst this;exact h4
    ·have:m=l.length:=by omega
     subst this;refine ai (by omega) ?_;refine df (hW x hx) ?_;refine ai (by omega) ?_
     rw [yG]
     refine az (az (ag ⟨some (some x),⟨h0,hx,hp,fun hmem => ?_⟩,rfl⟩));obtain ⟨j,hj,e⟩:=uu hmem;exact hno j hj e
 ·exact az (ag ⟨none,by show rest.length=0; omega,rfl⟩)
end
end Go.Proofs.YtnlkggppokcmfaaGreatT
namespace Go.Proofs.YtnlkggppokcmfaaGreatT
open Go Go.Proofs Go.Proofs.YtnlkggppokcmfaaGreatE
set_option linter.unusedVariables false
set_option linter.unusedSimpArgs false
def EP (O:List Int) (W:Int→List Int) (base m:List Int):Prop:=(∀ t ∈ m,t ∈ O)∧m.Nodup∧base=m.flatMap W
def vF (O:List Int) (W:Int→List Int) (base:List Int) (r:List Int×Bool):Prop:=(r.2=true∧EP O W base r.1)∨(r=([],false)∧∀ m,¬ EP O W base m)
section
variable {O:List Int} {W:Int→List Int} {rest l:List Int}
theorem FH (hP:Parts O W) {m:List Int} (hm:∀ t ∈ m,t ∈ O) (hr:0 < rest.length) (e:rest=m.flatMap W):∃ u m',m=u::m'∧u ∈ O∧W u <+: rest∧idx (W u) 0=idx rest 0:=by
 cases m with
 | nil=>rw [e] at hr; simp at hr
 | cons u m' =>
  have hu:=hm u (by simp);have hp:W u <+: rest:=⟨m'.flatMap W,by rw [e,List.flatMap_cons]⟩
  exact ⟨u,m',rfl,hu,hp,nL hp (hP.ne u hu)⟩
theorem Bl (hP:Parts O W) {h:History} {a:Ask} (hW:∀ t ∈ O,aM h t a.Key=some (W t)) (ho:aN h a=some O) (hb:a.Base.length≤64) :
  ∃ r,dK a.Base (yH O W)=some r∧aZ h a=some r∧vF O W a.Base r:=by
 have key:Tri (dK a.Base (yH O W)) (fun r=>Tri (iter (iR h a O) ([],a.Base)) (fun r'=>r=r'∧vF O W a.Base r)):=by
  unfold dK;refine yM (k0:=0) a.Base.length (fun (k:Nat) (s t:List Int×List Int)=>s.1=t.2∧s.2=t.1∧s.1.length + k≤a.Base.length∧s.2.length≤k∧(∀ t ∈ s.2,t ∈ O)∧s.2.Nodup∧a.Base=s.2.flatMap W++s.1∧∀ m,EP O W a.Base m→∃ m',m=s.2++m')
   (Nat.zero_le _) ⟨rfl,rfl,Nat.le_refl _,Nat.le_refl _,fun t h=>(nomatch h),List.nodup_nil,by simp,fun m _=>⟨m,rfl⟩⟩ ?_
  rintro k ⟨rest,l⟩ ⟨l',rest'⟩ hk ⟨e1,e2,i1,i2,i3,i4,i5,i6⟩
  dsimp only at e1 e2 i1 i2 i3 i4 i5 i6
  subst e1 e2;refine eX (FE hP (by omega) (by omega)) ?_;rintro x ⟨o,hs,rfl⟩;refine eX (Gz hP hW (by omega) (by omega)) ?_;rintro y ⟨o',hs',rfl⟩;obtain rfl:=Stp.det hP hs hs';have nxt:∀ m,EP O W a.Base m→0 < rest.length→∃ u m',m=l++u::m'∧u ∈ O∧W u <+: rest∧idx (W u) 0=idx rest 0:=by
   intro m hm hr;obtain ⟨m',rfl⟩:=i6 m hm;obtain ⟨h1,h2,h3⟩:=hm
   rw [i5,List.flatMap_append,List.append_cancel_left_eq] at h3
   obtain ⟨u,m2,rfl,q1,q2,q3⟩:=FH hP (fun t ht=>h1 t (List.mem_append_right _ ht)) hr h3;exact ⟨u,m2,rfl,q1,q2,q3⟩
  match o,hs with
  | none,hs =>
   refine ⟨rfl,.inl ⟨rfl,i3,i4,?_⟩⟩
   rw [i5,List.length_eq_zero_iff.1 (show rest.length=0 from hs),List.append_nil]
  | some none,hs =>
   refine ⟨rfl,.inr ⟨rfl,fun m hm => ?_⟩⟩;obtain ⟨u,m',rfl,q1,q2,q3⟩:=nxt m hm hs.1;have:=(List.nodup_append.1 hm.2.1).2.2;exact this u (hs.2 u q1 q2) u (by simp) rfl
  | some (some t),⟨s1,s2,s3,s4⟩ =>
   have h1:=hP.ne t s2;have h2:=s3.length_le;refine ⟨by omega,rfl,rfl,by rw [List.length_drop]; omega,by rw [List.length_append,List.length_singleton]; omega,fun u hu => ?_,?_,?_,fun m hm => ?_⟩
   ·rcases List.mem_append.1 hu with hu | hu
    ·exact i3 u hu
    ·rw [List.mem_singleton.1 hu]; exact s2
   ·rw [List.nodup_append]
    refine ⟨i4,List.nodup_cons.2 ⟨by simp,List.nodup_nil⟩,fun u hu v hv => ?_⟩
    rw [List.mem_singleton.1 hv]
    intro e;exact s4 (e ▸ hu)
   ·dsimp only
    rw [List.flatMap_append,List.append_assoc,i5]
    congr 1
    rw [List.flatMap_cons,List.flatMap_nil,List.append_nil]
    obtain ⟨z,hz⟩:=s3
    rw [← hz,List.drop_left]
   ·obtain ⟨u,m',rfl,q1,q2,q3⟩:=nxt m hm s1;have:=pV hP q1 s2 q3 (nL s3 h1);subst this;exact ⟨m',by simp⟩
 obtain ⟨r,hr,r',hr',rfl,ht⟩:=key;refine ⟨r,hr,?_,ht⟩;unfold aZ
 rw [ho]
 exact hr'
end
end Go.Proofs.YtnlkggppokcmfaaGreatT
namespace Go.Proofs.YtnlkggppokcmfaaGreatT
open Go Go.Proofs Go.Proofs.YtnlkggppokcmfaaGreatE
set_option linter.unusedVariables false
set_option linter.unusedSimpArgs false
theorem wm {l:List Int}:∀ {m:List Int},l.Nodup→(∀ x ∈ l,x ∈ m)→l.length≤m.length:=by
 induction l with
 | nil=>intro m _ _; simp
 | cons x l ih =>
  intro m hn hs;obtain ⟨h1,h2⟩:=List.nodup_cons.1 hn;have hx:=hs x (by simp);have:=ih (m:=m.erase x) h2 (fun y hy=>(List.mem_erase_of_ne (fun (e:y=x)=>h1 (e ▸ hy))).2 (hs y (by simp [hy])))
  rw [List.length_erase_of_mem hx] at this
  have:0 < m.length:=List.length_pos_of_mem hx
  simp
  omega
def keysOf (m:List (Int×Unit)):List Int:=m.map (·.1)
theorem Bn {m:List (Int×Unit)} {x:Int}:pY m x=true↔x ∈ keysOf m:=by
 unfold pY keysOf
 simp [List.any_eq_true]
theorem yI {x:Int}:∀ {m:List (Int×Unit)},keysOf (zt m x)=(keysOf m).erase x
 | []=>rfl
 | p::m=>by
  unfold zt keysOf
  rw [List.map_cons,List.erase_cons]
  by_cases e:p.1=x
  ·simp [e]
  ·rw [if_neg e,if_neg (by simpa using e),List.map_cons]
   congr 1
   exact yI
theorem Bo {x:Int}:∀ {m:List (Int×Unit)},x ∉ keysOf m→keysOf (iT m x ())=keysOf m++[x]
 | [],_=>rfl
 | p::m,h=>by
  have h1:¬ p.1=x:=fun e=>h (by simp [keysOf,e]);have h2:x ∉ keysOf m:=fun h'=>h (by simp only [keysOf,List.map_cons,List.mem_cons]; exact .inr h');unfold iT
  rw [if_neg h1]
  show p.1::keysOf (iT m x ())=p.1::keysOf m++[x]
  rw [Bo h2]
  rfl
def cnt (base w:List Int):Nat:=(w.filter (fun v=>decide (v ∈ base))).length
theorem zX {base w:List Int}:cnt base w≤w.length:=List.length_filter_le _ _
theorem CY {base w:List Int} {i:Nat} (hi:i < w.length):cnt base (w.take (i + 1))=if idx w (i:Int) ∈ base then cnt base (w.take i) + 1 else cnt base (w.take i):=by
 unfold cnt
 rw [List.take_succ_eq_append_getElem hi,List.filter_append,List.length_append,(dn (n:=i) rfl hi:idx w (i:Int)=w[i])]
 by_cases h:w[i] ∈ base <;> simp [h]
def Whole (O:List Int) (W:Int→List Int) (base:List Int):Prop:=(∀ t ∈ O,cnt base (W t)=0∨cnt base (W t)=(W t).length)∧∀ v ∈ base,∃ t ∈ O,v ∈ W t
def tK (O:List Int) (W:Int→List Int) (base:List Int):List Int:=O.filter (fun t=>decide (0 < cnt base (W t)))
def nQ (O:List Int) (W:Int→List Int) (base:List Int) (r:List Int×Bool):Prop:=(r=(tK O W base,true)∧Whole O W base)∨(r=([],false) ∧ ¬ Whole O W base)
theorem nQ.det {O:List Int} {W:Int→List Int} {base:List Int} {r s:List Int×Bool} (h1:nQ O W base r) (h2:nQ O W base s):r=s:=by
 rcases h1 with ⟨rfl,h1⟩ | ⟨rfl,h1⟩ <;> rcases h2 with ⟨rfl,h2⟩ | ⟨rfl,h2⟩
 ·rfl
 ·exact absurd h1 h2
 ·exact absurd h2 h1
 ·rfl
section
variable {O:List Int} {W:Int→List Int} {base:List Int}
theorem zY {k:Nat} (hk:k < O.length):tK (O.take (k + 1)) W base=if 0 < cnt base (W (idx O (k:Int))) then tK (O.take k) W base++[idx O (k:Int)] else tK (O.take k) W base:=by
 unfold tK
 rw [List.take_succ_eq_append_getElem hk,List.filter_append,(dn (n:=k) rfl hk:idx O (k:Int)=O[k])]
 by_cases h:0 < cnt base (W O[k]) <;> simp [h]
theorem Bp {k:Nat}:(tK (O.take k) W base).length≤O.length:=Nat.le_trans (List.length_filter_le _ _) (by rw [List.length_take]; omega)
theorem Cb {i j:Nat} (hn:O.Nodup) (hi:i < O.length) (hj:j < O.length) (e:idx O (i:Int)=idx O (j:Int)):i=j:=by
 rw [dn (n:=i) rfl hi,dn (n:=j) rfl hj] at e
 have hp:=List.pairwise_iff_getElem.1 hn;rcases Nat.lt_trichotomy i j with h | h | h
 ·exact absurd e (hp i j hi hj h)
 ·exact h
 ·exact absurd e.symm (hp j i hj hi h)
theorem GA (hP:Parts O W) (hO:O.Nodup) (hb:base.length≤64) (hn:base.Nodup):Tri (bN base (yH O W)) (nQ O W base):=by
 have hol:=hP.ol;unfold bN;refine di (k0:=0) base.length (fun k s=>s.2=(k:Int)∧keysOf s.1=base.take k) (Nat.zero_le _) ⟨rfl,rfl⟩ ?_;rintro k ⟨m,x⟩ hk ⟨e,hm⟩
 dsimp only at e hm
 subst e;have hw:w64 ((k:Int) + 1)=((k + 1:Nat):Int):=aV (by omega);unfold su
 dsimp only
 rw [hw]
 refine ay (fun a2 => ?_) (fun a2 => ?_)
 ·have a0:k < base.length:=by omega
  refine ai (by omega) (ag ⟨a0,rfl,?_⟩);have hni:idx base (k:Int) ∉ keysOf m:=by
   rw [hm]
   intro h;obtain ⟨i,hi,e⟩:=List.mem_take_iff_getElem.1 h;have:=Cb (i:=i) (j:=k) hn (by omega) a0 ((dn rfl (by omega)).trans e)
   omega
  dsimp only
  rw [Bo hni,hm,List.take_succ_eq_append_getElem a0,(dn (n:=k) rfl a0:idx base (k:Int)=base[k])]
 ·have:k=base.length:=by omega
  subst this
  rw [List.take_length] at hm
  refine di (k0:=0) O.length (fun k s=>s.1=tK (O.take k) W base∧(keysOf s.2.1).Nodup∧(∀ v,v ∈ keysOf s.2.1↔v ∈ base∧∀ j:Nat,j < k→v ∉ W (idx O (j:Int)))∧s.2.2=(k:Int)∧∀ j:Nat,j < k→cnt base (W (idx O (j:Int)))=0∨cnt base (W (idx O (j:Int)))=(W (idx O (j:Int))).length)
   (Nat.zero_le _) ⟨by simp [tK],by rw [hm]; exact hn,fun v=>by rw [hm]; exact ⟨fun h=>⟨h,fun j h=>absurd h (Nat.not_lt_zero _)⟩,fun h=>h.1⟩,rfl,fun j h=>absurd h (Nat.not_lt_zero _)⟩ ?_
  rintro k ⟨l,m,x⟩ hk ⟨e1,e2,e3,e4,e5⟩
  dsimp only at e1 e2 e3 e4 e5
  subst e1 e4;have hw:w64 ((k:Int) + 1)=((k + 1:Nat):Int):=aV (by omega);have hsl:=Bp (O:=O) (W:=W) (base:=base) (k:=k);unfold sj
  dsimp only
  rw [tJ]
  refine ay (fun a2 => ?_) (fun a2 => ?_)
  ·have a0:k < O.length:=by omega
   refine ai (by omega) ?_;have ht:=gu a0;have hss:=zY (W:=W) (base:=base) a0;generalize hg:idx O (k:Int)=t at ht hss;have hwl:=hP.wl t ht;have hwn:=hP.nd t ht;refine di (k0:=0) (W t).length (fun i s=>(keysOf s.1).Nodup∧(∀ v,v ∈ keysOf s.1↔(v ∈ base∧∀ j:Nat,j < k→v ∉ W (idx O (j:Int)))∧v ∉ (W t).take i)∧s.2.1=(cnt base ((W t).take i):Int)∧s.2.2=(i:Int))
    (Nat.zero_le _) ⟨e2,fun v=>⟨fun h=>⟨(e3 v).1 h,by simp⟩,fun h=>(e3 v).2 h.1⟩,by simp [cnt],rfl⟩ ?_
   rintro i ⟨m2,c,x⟩ hi ⟨f1,f2,f3,f4⟩
   dsimp only at f1 f2 f3 f4
   subst f3 f4;have hcl:cnt base ((W t).take i)≤i:=Nat.le_trans zX (by rw [List.length_take]; omega);have a5:w64 ((i:Int) + 1)=((i + 1:Nat):Int):=aV (by omega);have a8:w64 ((cnt base ((W t).take i):Int) + 1)=((cnt base ((W t).take i) + 1:Nat):Int):=aV (by omega);unfold si qi qj qh
   dsimp only
   rw [a5,a8,wh a0,hg]
   dsimp only
   refine ay (fun a9 => ?_) (fun a9 => ?_)
   ·have a1:i < (W t).length:=by omega
    refine ai (by omega) ?_;have hct:=CY (base:=base) a1;have hmem:∀ v,v ∈ (W t).take (i + 1)↔v ∈ (W t).take i∨v=idx (W t) (i:Int):=by
     intro v
     rw [List.take_succ_eq_append_getElem a1,(dn (n:=i) rfl a1:idx (W t) (i:Int)=(W t)[i]),List.mem_append,List.mem_singleton]
    have hni:idx (W t) (i:Int) ∉ (W t).take i:=by
     intro h;obtain ⟨j,hj,e⟩:=List.mem_take_iff_getElem.1 h;have:=Cb (i:=j) (j:=i) hwn (by omega) a1 ((dn rfl (by omega)).trans e)
     omega
    have hout:∀ j:Nat,j < k→idx (W t) (i:Int) ∉ W (idx O (j:Int)):=by
     intro j hj h;have:=hP.ap _ (gu (show j < O.length by omega)) t ht _ h (gu a1)
     rw [← hg] at this
     have:=Cb hO (by omega) a0 this
     omega
    have a3:idx (W t) (i:Int) ∈ keysOf m2↔idx (W t) (i:Int) ∈ base:=by
     rw [f2]
     exact ⟨fun h=>h.1.1,fun h=>⟨⟨h,hout⟩,hni⟩⟩
    cases hmh:pY m2 (idx (W t) (i:Int))
    ·have hnb:idx (W t) (i:Int) ∉ base:=fun h=>by rw [Bn.2 (a3.2 h)] at hmh; cases hmh
     rw [cond_false]
     refine ag ⟨a1,f1,fun v => ?_,?_,rfl⟩
     ·dsimp only
      rw [f2,hmem]
      constructor
      ·rintro ⟨h1,h2⟩;refine ⟨h1,?_⟩;rintro (h3 | h3)
       ·exact h2 h3
       ·subst h3;exact hnb h1.1
      ·rintro ⟨h1,h2⟩;exact ⟨h1,fun h=>h2 (.inl h)⟩
     ·dsimp only
      rw [hct,if_neg hnb]
    ·have hib:idx (W t) (i:Int) ∈ base:=a3.1 (Bn.1 hmh)
     rw [cond_true]
     refine ag ⟨a1,?_,fun v => ?_,?_,rfl⟩
     ·dsimp only
      rw [yI]
      exact f1.erase _
     ·dsimp only
      rw [yI,List.Nodup.mem_erase_iff f1,f2,hmem]
      constructor
      ·rintro ⟨h1,h2,h3⟩;exact ⟨h2,fun h=>h.elim h3 h1⟩
      ·rintro ⟨h1,h2⟩;exact ⟨fun h=>h2 (.inr h),h1,fun h=>h2 (.inl h)⟩
     ·dsimp only
      rw [hct,if_pos hib]
   ·have:i=(W t).length:=by omega
    subst this
    rw [List.take_length] at f2 ⊢
    have hcw:cnt base (W t)≤(W t).length:=zX;have fin:∀ (hc:cnt base (W t)=0∨cnt base (W t)=(W t).length) (l':List Int),l'=tK (O.take (k + 1)) W base→Upm O.length k (fun k s=>s.1=tK (O.take k) W base∧(keysOf s.2.1).Nodup∧(∀ v,v ∈ keysOf s.2.1↔v ∈ base∧∀ j:Nat,j < k→v ∉ W (idx O (j:Int)))∧s.2.2=(k:Int)∧∀ j:Nat,j < k→cnt base (W (idx O (j:Int)))=0∨cnt base (W (idx O (j:Int)))=(W (idx O (j:Int))).length) (nQ O W base) (.inl (l',m2,((k + 1:Nat):Int))):=by
     intro hc l' hl';refine ⟨a0,hl',f1,fun v => ?_,rfl,fun j hj => ?_⟩
     ·dsimp only
      rw [f2]
      constructor
      ·rintro ⟨⟨h1,h2⟩,h3⟩;refine ⟨h1,fun j hj => ?_⟩;rcases Nat.lt_or_ge j k with h4 | h4
       ·exact h2 j h4
       ·have:j=k:=by omega
        subst this
        rw [hg]; exact h3
      ·rintro ⟨h1,h2⟩;exact ⟨⟨h1,fun j hj=>h2 j (by omega)⟩,by have:=h2 k (by omega); rwa [hg] at this⟩
     ·rcases Nat.lt_or_ge j k with h4 | h4
      ·exact e5 j h4
      ·have:j=k:=by omega
       subst this
       rw [hg]; exact hc
    have bad:¬ (cnt base (W t)=0∨cnt base (W t)=(W t).length)→nQ O W base ([],false):=fun hc => .inr ⟨rfl,fun hW=>hc (hW.1 t ht)⟩
    rw [hw]
    refine ay (fun h1 => ?_) (fun h1 => ?_)
    ·refine ay (fun h2 => ?_) (fun h2 => ?_)
     ·exact az (az (az (ag (bad (by omega)))))
     ·refine ay (fun h3 => ?_) (fun h3 => ?_)
      ·refine ai (by omega) ?_;refine az (ag (fin (by omega) _ ?_))
       rw [hss,if_pos (by omega)]
      ·exact absurd h1 h3
    ·rw [cond_false]
     refine ay (fun h3=>absurd h3 h1) (fun h3 => ?_);refine az (ag (fin (by omega) _ ?_))
     rw [hss,if_neg (by omega)]
  ·have:k=O.length:=by omega
   subst this
   rw [List.take_length]
   have hml:0 < m.length↔∃ v,v ∈ keysOf m:=by
    unfold keysOf;cases m with
    | nil=>simp
    | cons p m=>exact ⟨fun _=>⟨p.1,by simp⟩,fun _=>by simp⟩
   have hall:(∀ t ∈ O,cnt base (W t)=0∨cnt base (W t)=(W t).length):=by
    intro t ht;obtain ⟨j,hj,rfl⟩:=uu ht;exact e5 j hj
   refine ay (fun h1 => ?_) (fun h1 => ?_)
   ·refine az (az (ag (.inr ⟨rfl,fun hW => ?_⟩)));obtain ⟨v,hv⟩:=hml.1 (by omega);obtain ⟨a4,a7⟩:=(e3 v).1 hv;obtain ⟨t,ht,a6⟩:=hW.2 v a4;obtain ⟨j,hj,rfl⟩:=uu ht;exact a7 j hj a6
   ·refine az (az (ag (.inl ⟨rfl,hall,fun v hv => ?_⟩)))
    apply Classical.byContradiction
    intro hno;refine h1 ?_;have:=hml.2 ⟨v,(e3 v).2 ⟨hv,fun j hj h=>hno ⟨_,gu hj,h⟩⟩⟩
    omega
end
end Go.Proofs.YtnlkggppokcmfaaGreatT
namespace Go.Proofs.YtnlkggppokcmfaaGreatT
open Go Go.Proofs Go.Proofs.YtnlkggppokcmfaaGreatE
set_option linter.unusedVariables false
set_option linter.unusedSimpArgs false
theorem DY {l:List Int} {v:Int} (hl:l.length < 2 ^ 60):dZ l v=some (decide (v ∈ l)):=by
 refine dI.1 ?_;unfold dZ;refine di (k0:=0) l.length (fun k s=>s=(k:Int)∧∀ j:Nat,j < k→idx l (j:Int)≠v) (Nat.zero_le _) ⟨rfl,fun j h=>absurd h (Nat.not_lt_zero _)⟩ ?_;rintro k s hk ⟨rfl,hno⟩;have hw:w64 ((k:Int) + 1)=((k + 1:Nat):Int):=aV (by omega);unfold mI
 dsimp only
 rw [hw]
 refine ay (fun a1 => ?_) (fun a1 => ?_)
 ·have a0:k < l.length:=by omega
  refine ai (by omega) ?_;refine ay (fun h1 => ?_) (fun h1 => ?_)
  ·refine az (ag ?_)
   show true=decide (v ∈ l)
   rw [eq_comm,decide_eq_true_iff,← h1]
   exact gu a0
  ·refine ag ⟨a0,rfl,fun j hj => ?_⟩;rcases Nat.lt_or_ge j k with h2 | h2
   ·exact hno j h2
   ·have:j=k:=by omega
    subst this;exact h1
 ·have:k=l.length:=by omega
  subst this;refine az (ag ?_)
  show false=decide (v ∈ l)
  rw [eq_comm,decide_eq_false_iff_not]
  intro h;obtain ⟨j,hj,e⟩:=uu h;exact hno j hj e
section
variable {O:List Int} {W:Int→List Int} {base:List Int}
def hits (O:List Int) (W:Int→List Int) (base:List Int):List Int:=O.flatMap (fun t=>(W t).filter (fun v=>decide (v ∈ base)))
theorem Bq {k:Nat} (hk:k < O.length):(hits (O.take (k + 1)) W base).length=(hits (O.take k) W base).length + cnt base (W (idx O (k:Int))):=by
 unfold hits cnt
 rw [List.take_succ_eq_append_getElem hk,List.flatMap_append,List.length_append,(dn (n:=k) rfl hk:idx O (k:Int)=O[k])]
 simp
theorem DZ (hP:Parts O W):∀ k,k≤O.length→(hits (O.take k) W base).length≤16 * k:=by
 intro k
 induction k with
 | zero=>intro _; simp [hits]
 | succ k ih =>
  intro hk
  rw [Bq (by omega)]
  have:=ih (by omega);have h1:=hP.wl _ (gu (show k < O.length by omega));have h2:cnt base (W (idx O (k:Int)))≤_:=zX
  omega
theorem zZ {v:Int}:v ∈ hits O W base↔∃ t ∈ O,v ∈ W t∧v ∈ base:=by
 unfold hits
 simp only [List.mem_flatMap,List.mem_filter,decide_eq_true_eq]
theorem Ea (hP:Parts O W) (hO:O.Nodup):(hits O W base).Nodup:=by
 unfold hits List.Nodup
 rw [List.pairwise_flatMap]
 refine ⟨fun t ht=>(hP.nd t ht).filter _,List.Pairwise.imp_of_mem (fun {t u} ht hu hne => ?_) hO⟩;intro x hx y hy e;subst e
 rw [List.mem_filter] at hx hy
 exact hne (hP.ap t ht u hu x hx.1 hy.1)
theorem FI (hP:Parts O W) (hO:O.Nodup) (hn:base.Nodup):(hits O W base).length=base.length↔∀ v ∈ base,∃ t ∈ O,v ∈ W t:=by
 have hN:=Ea (base:=base) hP hO;have hS:∀ v ∈ hits O W base,v ∈ base:=fun v hv=>by obtain ⟨_,_,_,h⟩:=zZ.1 hv; exact h
 constructor
 ·intro e v hv
  apply Classical.byContradiction
  intro hno;have h1:v ∉ hits O W base:=fun h=>by
   obtain ⟨t,ht,h2,_⟩:=zZ.1 h;exact hno ⟨t,ht,h2⟩
  have:=wm (l:=v::hits O W base) (m:=base) (List.nodup_cons.2 ⟨h1,hN⟩) (fun x hx=>by
   rcases List.mem_cons.1 hx with rfl | hx
   ·exact hv
   ·exact hS x hx)
  simp at this
  omega
 ·intro hc;refine Nat.le_antisymm (wm hN hS) (wm hn (fun v hv => ?_));obtain ⟨t,ht,h⟩:=hc v hv;exact zZ.2 ⟨t,ht,h,hv⟩
theorem Jj {h:History} {a:Ask} (hP:Parts O W) (hO:O.Nodup) (hW:∀ t ∈ O,aM h t a.Key=some (W t)) (ho:aN h a=some O) (hb:a.Base.length≤64) (hn:a.Base.Nodup) :
  Tri (aU h a) (nQ O W a.Base):=by
 have hol:=hP.ol;unfold aU;refine df ho ?_;refine di (k0:=0) O.length (fun k s=>s.1=tK (O.take k) W a.Base∧s.2.1=((hits (O.take k) W a.Base).length:Int)∧s.2.2=(k:Int)∧∀ j:Nat,j < k→cnt a.Base (W (idx O (j:Int)))=0∨cnt a.Base (W (idx O (j:Int)))=(W (idx O (j:Int))).length)
  (Nat.zero_le _) ⟨by simp [tK],by simp [hits],rfl,fun j h=>absurd h (Nat.not_lt_zero _)⟩ ?_
 rintro k ⟨l,n,x⟩ hk ⟨e1,e2,e4,e5⟩
 dsimp only at e1 e2 e4 e5
 subst e1 e2 e4;have hw:w64 ((k:Int) + 1)=((k + 1:Nat):Int):=aV (by omega);have hsl:=Bp (O:=O) (W:=W) (base:=a.Base) (k:=k);have hsm:=DZ (base:=a.Base) hP k hk;unfold nX
 dsimp only
 refine ay (fun a6 => ?_) (fun a6 => ?_)
 ·have a0:k < O.length:=by omega
  refine ai (by omega) ?_;have ht:=gu a0;have hss:=zY (W:=W) (base:=a.Base) a0;have hhs:=Bq (W:=W) (base:=a.Base) a0;refine df (hW _ ht) ?_;generalize hg:idx O (k:Int)=t at ht hss hhs;have hwl:=hP.wl t ht;refine di (k0:=0) (W t).length (fun i s=>s.1=(cnt a.Base ((W t).take i):Int)∧s.2=(i:Int)) (Nat.zero_le _) ⟨by simp [cnt],rfl⟩ ?_
  rintro i ⟨c,x⟩ hi ⟨f3,f4⟩
  dsimp only at f3 f4
  subst f3 f4;have hcl:cnt a.Base ((W t).take i)≤i:=Nat.le_trans zX (by rw [List.length_take]; omega);have a2:w64 ((i:Int) + 1)=((i + 1:Nat):Int):=aV (by omega);have a4:w64 ((cnt a.Base ((W t).take i):Int) + 1)=((cnt a.Base ((W t).take i) + 1:Nat):Int):=aV (by omega);unfold nW kN kP kM
  dsimp only
  rw [a2,a4,hg]
  refine ay (fun a5 => ?_) (fun a5 => ?_)
  ·have a1:i < (W t).length:=by omega
   refine ai (by omega) ?_;have hct:=CY (base:=a.Base) a1;refine df (DY (by omega)) ?_;refine ay (fun h1 => ?_) (fun h1 => ?_)
   ·refine ag ⟨a1,?_,rfl⟩
    dsimp only
    rw [hct,if_pos h1]
   ·refine ag ⟨a1,?_,rfl⟩
    dsimp only
    rw [hct,if_neg h1]
  ·have:i=(W t).length:=by omega
   subst this
   rw [List.take_length]
   have hcw:cnt a.Base (W t)≤(W t).length:=zX;have a3:w64 (((hits (O.take k) W a.Base).length:Int) + (cnt a.Base (W t):Int))=(((hits (O.take k) W a.Base).length + cnt a.Base (W t):Nat):Int):=by rw [nI (by omega) (by omega)]; omega
   have bad:¬ (cnt a.Base (W t)=0∨cnt a.Base (W t)=(W t).length)→nQ O W a.Base ([],false):=fun hc => .inr ⟨rfl,fun hW=>hc (hW.1 t ht)⟩;have five:(cnt a.Base (W t)=0∨cnt a.Base (W t)=(W t).length)→∀ j:Nat,j < k + 1→cnt a.Base (W (idx O (j:Int)))=0∨cnt a.Base (W (idx O (j:Int)))=(W (idx O (j:Int))).length:=by
    intro hc j hj;rcases Nat.lt_or_ge j k with h4 | h4
    ·exact e5 j h4
    ·have:j=k:=by omega
     subst this
     rw [hg]; exact hc
   rw [hw,a3]
   refine ay (fun h1 => ?_) (fun h1 => ?_)
   ·refine ay (fun h2 => ?_) (fun h2 => ?_)
    ·exact az (az (ag (bad (by omega))))
    ·refine ay (fun h3 => ?_) (fun h3=>absurd h1 h3);refine ai (by omega) ?_;refine az (ag ⟨a0,?_,?_,rfl,five (by omega)⟩)
     ·dsimp only
      rw [hss,if_pos (by omega)]
     ·dsimp only
      rw [hhs]
   ·rw [cond_false]
    refine ay (fun h3=>absurd h3 h1) (fun h3 => ?_);refine az (ag ⟨a0,?_,?_,rfl,five (by omega)⟩)
    ·dsimp only
     rw [hss,if_neg (by omega)]
    ·dsimp only
     rw [hhs]
     omega
 ·have:k=O.length:=by omega
  subst this
  rw [List.take_length]
  have hall:(∀ t ∈ O,cnt a.Base (W t)=0∨cnt a.Base (W t)=(W t).length):=by
   intro t ht;obtain ⟨j,hj,rfl⟩:=uu ht;exact e5 j hj
  have hfull:=FI hP hO hn;refine ay (fun h1 => ?_) (fun h1 => ?_)
  ·refine az (ag (.inr ⟨rfl,fun hW => ?_⟩));have:=hfull.2 hW.2
   omega
  ·exact az (ag (.inl ⟨rfl,hall,hfull.1 (by omega)⟩))
theorem CZ {h:History} {a:Ask} (hP:Parts O W) (hO:O.Nodup) (hW:∀ t ∈ O,aM h t a.Key=some (W t)) (ho:aN h a=some O) (hb:a.Base.length≤64) (hn:a.Base.Nodup) :
  ∃ r,bN a.Base (yH O W)=some r∧aU h a=some r∧nQ O W a.Base r:=by
 obtain ⟨r,hr,h1⟩:=GA hP hO hb hn;obtain ⟨s,hs,h2⟩:=Jj hP hO hW ho hb hn;obtain rfl:=h1.det h2;exact ⟨r,hr,hs,h1⟩
end
theorem AP {h:History} {key:Int} {k:Nat}:(gY h key k).Nodup:=by
 unfold gY List.Nodup
 rw [List.pairwise_map]
 refine ((List.nodup_range (n:=k)).filter _).imp (fun {a b} hne e=>hne (by omega))
theorem xO {h:History} {a:Ask} {k:Nat}:(jc h a k).Nodup:=AP.filter _
end Go.Proofs.YtnlkggppokcmfaaGreatT
namespace Go.Proofs.YtnlkggppokcmfaaGreatT
open Go Go.Proofs Go.Proofs.YtnlkggppokcmfaaGreatE
set_option linter.unusedVariables false
set_option linter.unusedSimpArgs false
def uV (s:Int) (w:List Int):Int:=w.foldl (fun x v=>w64 (x + v)) s
theorem Br {s:Int} {w:List Int} {k:Nat} (hk:k < w.length):uV s (w.take (k + 1))=w64 (uV s (w.take k) + idx w (k:Int)):=by
 unfold uV
 rw [List.take_succ_eq_append_getElem hk,List.foldl_append,(dn (n:=k) rfl hk:idx w (k:Int)=w[k])]
 rfl
def Win (want:Int):List (List Int)→Int→(Nat→Prop)→Nat→Nat→Prop
 | [],s,p,_,j=>s=want∧p j
 | w::ls,s,p,i,j=>Win want ls s p (i + 1) j∨Win want ls (uV s w) (fun j=>p j∨j=i) (i + 1) j
section
variable {O:List Int} {W:Int→List Int} {want:Int}
theorem yJ (hol:O.length≤32) (hwl:∀ t ∈ O,(W t).length≤16):∀ (k i:Nat),i≤O.length→O.length - i < k→∀ (sum tk wi:Int) (p q:Nat→Prop),Wd tk p→Wd wi q →
  Tri (fC k (i:Int) sum tk (yH O W) want wi) (fun r=>Wd r (fun j=>q j∨Win want ((O.drop i).map W) sum p i j))
 | 0,i,_,hk=>by omega
 | k + 1,i,hi,hk=>by
  intro sum tk wi p q hp hq;have hw:w64 ((i:Int) + 1)=((i + 1:Nat):Int):=aV (by omega);unfold fC ji
  rw [tJ,hw]
  refine ay (fun h1 => ?_) (fun h1 => ?_)
  ·have:i=O.length:=by omega
   subst this
   rw [List.drop_length,List.map_nil]
   refine ay (fun h2 => ?_) (fun h2 => ?_)
   ·exact ag ((hq.or hp).congr fun j=>by show q j∨p j↔q j∨(sum=want∧p j); simp [h2])
   ·exact ag (hq.congr fun j=>by show q j↔q j∨(sum=want∧p j); simp [h2])
  ·have a0:i < O.length:=by omega
   have hd:(O.drop i).map W=W (idx O (i:Int))::(O.drop (i + 1)).map W:=by
    rw [List.drop_eq_getElem_cons a0,List.map_cons,(dn (n:=i) rfl a0:idx O (i:Int)=O[i])]
   have a3:=hwl _ (gu a0);refine ed (yJ hol hwl k (i + 1) (by omega) (by omega) sum tk wi p q hp hq) (fun y hy => ?_);refine ai (by omega) ?_;refine di (k0:=0) (W (idx O (i:Int))).length (fun m s=>s.1=uV sum ((W (idx O (i:Int))).take m)∧s.2=(m:Int)) (Nat.zero_le _) ⟨by simp [uV],rfl⟩ ?_
   rintro m ⟨s,x⟩ hm ⟨f1,f2⟩
   dsimp only at f1 f2
   subst f1 f2;have a2:w64 ((m:Int) + 1)=((m + 1:Nat):Int):=aV (by omega);unfold ni
   dsimp only
   rw [wh a0,a2,hw]
   dsimp only
   refine ay (fun h2 => ?_) (fun h2 => ?_)
   ·have a1:m < (W (idx O (i:Int))).length:=by omega
    refine ai (by omega) (ag ⟨a1,?_,rfl⟩)
    dsimp only
    rw [Br a1]
   ·have:m=(W (idx O (i:Int))).length:=by omega
    subst this
    rw [List.take_length]
    refine ai (by unfold far; omega) ?_;refine ed (yJ hol hwl k (i + 1) (by omega) (by omega) _ _ y _ _ (hp.or (Wd.bit (n:=i) rfl (by omega))) hy) (fun z hz => ?_);refine az (ag (hz.congr fun j => ?_))
    rw [hd]
    show (q j∨Win want _ sum p (i + 1) j)∨_↔q j∨Win want _ sum p (i + 1) j∨_
    exact or_assoc
def picks (O:List Int) (f:Nat→Prop) [DecidablePred f] (k:Nat):List Int:=((List.range k).filter (fun j=>decide (f j))).map (fun j:Nat=>idx O (j:Int))
theorem Aa {f:Nat→Prop} [DecidablePred f] {k:Nat}:picks O f (k + 1)=if f k then picks O f k++[idx O (k:Int)] else picks O f k:=by
 unfold picks
 rw [List.range_succ,List.filter_append,List.map_append]
 by_cases h:f k <;> simp [h]
theorem wo {f:Nat→Prop} [DecidablePred f] {k:Nat}:(picks O f k).length≤k:=by
 unfold picks
 rw [List.length_map]
 exact Nat.le_trans (List.length_filter_le _ _) (by simp)
open Classical in
theorem Cc (hol:O.length≤32) (hwl:∀ t ∈ O,(W t).length≤16):dF want (yH O W)=some (picks O (Win want (O.map W) 0 (fun _=>False) 0) O.length):=by
 refine dI.1 ?_;unfold dF bu;have:=yJ (want:=want) hol hwl 64 0 (Nat.zero_le _) (by omega) 0 0 0 _ _ Wd.zero Wd.zero;refine ed this (fun y hy => ?_)
 rw [List.drop_zero] at hy
 replace hy:Wd y (Win want (O.map W) 0 (fun _=>False) 0):=hy.congr fun j=>by simp
 generalize Win want (O.map W) 0 (fun _=>False) 0=f at hy ⊢;refine di (k0:=0) O.length (fun k s=>s=(picks O f k,(k:Int))) (Nat.zero_le _) (by simp [picks]) ?_;rintro k s hk rfl;have hw:w64 ((k:Int) + 1)=((k + 1:Nat):Int):=aV (by omega);have hl:=wo (O:=O) (f:=f) (k:=k);have hs:=Aa (O:=O) (f:=f) (k:=k);unfold oI lJ
 dsimp only
 rw [tJ,hw]
 refine ay (fun h1 => ?_) (fun h1 => ?_)
 ·have a0:k < O.length:=by omega
  refine ai (by omega) (ai (by unfold far; omega) ?_)
  rw [wh a0]
  rcases hy.look (i:=(k:Int)) (n:=k) rfl (by omega) with ⟨e,hf⟩ | ⟨e,hf⟩
  ·rw [e]
   refine ay (fun _ => ?_) (fun h=>absurd rfl h);refine ai (by omega) (ag ⟨a0,?_⟩)
   dsimp only
   rw [hs,if_pos hf]
  ·rw [e]
   refine ay (fun h=>absurd h (by decide)) (fun _ => ?_);refine ag ⟨a0,?_⟩
   dsimp only
   rw [hs,if_neg hf]
 ·have:k=O.length:=by omega
  subst this;exact az (ag rfl)
end
end Go.Proofs.YtnlkggppokcmfaaGreatT
namespace Go.Proofs.YtnlkggppokcmfaaGreatT
open Go Go.Proofs Go.Proofs.YtnlkggppokcmfaaGreatE
set_option linter.unusedVariables false
set_option linter.unusedSimpArgs false
theorem wbm (x:Int):w64 x=Int.bmod x 18446744073709551616:=by
 unfold w64 IntKind.wrap
 simp only [IntKind.bits,IntKind.signed,Bool.true_and,Int.bmod_def]
 have h1:(2 ^ 64:Int)=18446744073709551616:=by decide
 have h2:=Int.emod_nonneg x (show (18446744073709551616:Int)≠0 by decide);have h3:=Int.emod_lt_of_pos x (show (0:Int) < 18446744073709551616 by decide)
 simp only [h1]
 by_cases h:x % 18446744073709551616 < 9223372036854775808
 ·rw [if_neg (by simp; omega),if_pos (by simp; omega)]
  rfl
 ·rw [if_pos (by simp; omega),if_neg (by simp; omega)]
  rfl
theorem Jk (x y:Int):w64 (w64 x + y)=w64 (x + y):=by rw [wbm,wbm,wbm,Int.bmod_add_bmod]
theorem Ky (x y:Int):w64 (x + w64 y)=w64 (x + y):=by rw [Int.add_comm,Jk,Int.add_comm]
theorem yK:∀ (w:List Int) (s:Int),uV (w64 s) w=w64 (s + w.sum)
 | [],s=>by simp [uV]
 | v::w,s=>by
  show uV (w64 (w64 s + v)) w=_
  rw [Jk,yK w,List.sum_cons,Int.add_assoc]
theorem FJ (w:List Int):uV 0 w=w64 w.sum:=by
 have h:=yK w 0
 rw [Int.zero_add] at h
 exact h
theorem EQ {m i:Nat} (hm:m < 2 ^ 62) (hi:i < 62):wL .i64 (rJ .i64 (m:Int) (i:Int)) 1=if m.testBit i then 1 else 0:=by
 have h1:rJ .i64 (m:Int) (i:Int)=((m >>> i:Nat):Int):=by
  unfold rJ
  rw [show IntKind.bits .i64=64 from rfl,Int.toNat_natCast,Nat.min_eq_left (by omega),Nat.shiftRight_eq_div_pow]
  have:(2:Int) ^ i=((2 ^ i:Nat):Int):=(Int.natCast_pow 2 i).symm
  rw [this,Int.fdiv_eq_ediv_of_nonneg _ (Int.natCast_nonneg _)]
  exact (Int.natCast_ediv m (2 ^ i)).symm
 have h2:m >>> i < 2 ^ 62:=Nat.lt_of_le_of_lt (Nat.shiftRight_le _ _) hm;have h3:wL .i64 ((m >>> i:Nat):Int) ((1:Nat):Int)=(((m >>> i) &&& 1:Nat):Int):=by
  unfold wL
  rw [show IntKind.bits .i64=64 from rfl,BitVec.ofInt_natCast,BitVec.ofInt_natCast,BitVec.toNat_and,BitVec.toNat_ofNat,BitVec.toNat_ofNat,Nat.mod_eq_of_lt (by omega),Nat.mod_eq_of_lt (by decide)]
  have h4:(m >>> i) &&& 1≤1:=Nat.and_le_right;exact nI (by omega) (by omega)
 rw [h1,show (1:Int)=((1:Nat):Int) from rfl,h3,EW]
 cases m.testBit i <;> rfl
theorem Jl {n:Nat} (hn:n≤32):zq .i64 1 (n:Int)=((2 ^ n:Nat):Int):=by
 unfold zq
 rw [show IntKind.bits .i64=64 from rfl,Int.toNat_natCast,Nat.min_eq_left (by omega)]
 have h1:(1:Int) * 2 ^ n=((2 ^ n:Nat):Int):=by rw [Int.one_mul]; exact (Int.natCast_pow 2 n).symm
 rw [h1]
 have h2:2 ^ n≤2 ^ 32:=Nat.pow_le_pow_right (by decide) hn;generalize 2 ^ n=q at h2;exact nI (by omega) (by omega)
section
variable {O:List Int} {W:Int→List Int} {want:Int}
def pW (O:List Int) (W:Int→List Int) (f:Nat→Bool):Nat→Int
 | 0=>0
 | k + 1=>if f k then w64 (pW O W f k + uV 0 (W (idx O (k:Int)))) else pW O W f k
theorem wu {f:Nat→Bool} {k:Nat}:pW O W f (k + 1)=if f k then w64 (pW O W f k + uV 0 (W (idx O (k:Int)))) else pW O W f k:=rfl
theorem GD {f:Nat→Bool}:∀ k,w64 (pW O W f k)=pW O W f k
 | 0=>rfl
 | k + 1=>by
  unfold pW
  split
  ·have h:=Jk (pW O W f k + uV 0 (W (idx O (k:Int)))) 0
   rw [Int.add_zero,Int.add_zero] at h
   exact h
  ·exact GD k
theorem uw {f g:Nat→Bool}:∀ k,(∀ a,a < k→f a=g a)→pW O W f k=pW O W g k
 | 0,_=>rfl
 | k + 1,h=>by
  unfold pW
  rw [h k (by omega),uw k (fun a ha=>h a (by omega))]
theorem Ce (f:Nat→Bool):∀ (d i j:Nat) (f:Nat→Bool) (p:Nat→Prop),i + d=O.length→(∀ a,p a↔a < i∧f a=true) →
  (Win want ((O.drop i).map W) (pW O W f i) p i j↔∃ g:Nat→Bool,(∀ a,a < i→g a=f a)∧pW O W g O.length=want∧j < O.length∧g j=true)
 | 0,i,j,f,p,e,hp=>by
  have:i=O.length:=by omega
  subst this
  rw [List.drop_length,List.map_nil]
  show (pW O W f O.length=want∧p j)↔_
  rw [hp j]
  constructor
  ·rintro ⟨h1,h2,h3⟩; exact ⟨f,fun a _=>rfl,h1,h2,h3⟩
  ·rintro ⟨g,h1,h2,h3,h4⟩
   rw [uw O.length h1] at h2
   exact ⟨h2,h3,(h1 j h3) ▸ h4⟩
 | d + 1,i,j,f,p,e,hp=>by
  have hi:i < O.length:=by omega
  have hd:(O.drop i).map W=W (idx O (i:Int))::(O.drop (i + 1)).map W:=by
   rw [List.drop_eq_getElem_cons hi,List.map_cons,(dn (n:=i) rfl hi:idx O (i:Int)=O[i])]
  rw [hd]
  show Win want _ (pW O W f i) p (i + 1) j∨Win want _ (uV (pW O W f i) (W (idx O (i:Int)))) (fun j=>p j∨j=i) (i + 1) j↔_
  have hag:∀ b:Bool,pW O W (fun a=>if a=i then b else f a) i=pW O W f i:=fun b=>uw i (fun a ha=>if_neg (by omega));have e0:pW O W (fun a=>if a=i then false else f a) (i + 1)=pW O W f i:=by
   rw [wu,hag]
   simp
  have e1:pW O W (fun a=>if a=i then true else f a) (i + 1)=uV (pW O W f i) (W (idx O (i:Int))):=by
   rw [wu,hag,if_pos (if_pos rfl),← GD i,yK,FJ,Ky,Jk]
  have i0:=Ce f d (i + 1) j (fun a=>if a=i then false else f a) p (by omega) (fun a=>by
   rw [hp a]
   by_cases h:a=i
   ·subst h; simp
   ·simp only [if_neg h]
    constructor
    ·rintro ⟨h1,h2⟩; exact ⟨by omega,h2⟩
    ·rintro ⟨h1,h2⟩; exact ⟨by omega,h2⟩)
  have i1:=Ce f d (i + 1) j (fun a=>if a=i then true else f a) (fun j=>p j∨j=i) (by omega) (fun a=>by
   rw [hp a]
   by_cases h:a=i
   ·subst h; simp
   ·simp only [if_neg h,or_iff_left h]
    constructor
    ·rintro ⟨h1,h2⟩; exact ⟨by omega,h2⟩
    ·rintro ⟨h1,h2⟩; exact ⟨by omega,h2⟩)
  rw [e0] at i0
  rw [e1] at i1
  rw [i0,i1]
  constructor
  ·rintro (⟨g,h1,h2⟩ | ⟨g,h1,h2⟩)
   ·exact ⟨g,fun a ha=>by rw [h1 a (by omega),if_neg (by omega)],h2⟩
   ·exact ⟨g,fun a ha=>by rw [h1 a (by omega),if_neg (by omega)],h2⟩
  ·rintro ⟨g,h1,h2⟩;cases hgi:g i
   ·refine .inl ⟨g,fun a ha => ?_,h2⟩
    by_cases h:a=i
    ·subst h; rw [if_pos rfl,hgi]
    ·rw [if_neg h,h1 a (by omega)]
   ·refine .inr ⟨g,fun a ha => ?_,h2⟩
    by_cases h:a=i
    ·subst h; rw [if_pos rfl,hgi]
    ·rw [if_neg h,h1 a (by omega)]
theorem ER (g:Nat→Bool):∀ n:Nat,∃ m:Nat,m < 2 ^ n∧∀ a,a < n→m.testBit a=g a
 | 0=>⟨0,by decide,fun a h=>absurd h (Nat.not_lt_zero _)⟩
 | n + 1=>by
  obtain ⟨m,h1,h2⟩:=ER g n;have hp:2 ^ (n + 1)=2 ^ n + 2 ^ n:=by rw [Nat.pow_succ]; omega
  cases hg:g n
  ·refine ⟨m,by omega,fun a ha => ?_⟩
   by_cases h:a=n
   ·subst h; rw [hg]; exact Nat.testBit_lt_two_pow h1
   ·exact h2 a (by omega)
  ·refine ⟨2 ^ n + m,by omega,fun a ha => ?_⟩
   by_cases h:a=n
   ·subst h
    rw [Nat.testBit_two_pow_add_eq,hg,Nat.testBit_lt_two_pow h1]
    rfl
   ·rw [Nat.testBit_two_pow_add_gt (by omega)]
    exact h2 a (by omega)
def Msk (O:List Int) (W:Int→List Int) (want:Int) (m j:Nat):Prop:=pW O W m.testBit O.length=want∧m.testBit j=true
theorem GG {j:Nat} (hj:j < O.length):Win want (O.map W) 0 (fun _=>False) 0 j↔∃ m:Nat,1≤m∧m < 2 ^ O.length∧Msk O W want m j:=by
 have h:=Ce (O:=O) (W:=W) (want:=want) (fun _=>false) O.length 0 j (fun _=>false) (fun _=>False) (by omega) (fun a=>by simp)
 rw [List.drop_zero] at h
 refine Iff.trans h ?_
 constructor
 ·rintro ⟨g,_,h2,h3,h4⟩;obtain ⟨m,m1,m2⟩:=ER g O.length;refine ⟨m,?_,m1,?_,?_⟩
  ·apply Nat.lt_of_not_le
   intro h0;have:m=0:=by omega
   subst this
   rw [← m2 j hj,Nat.zero_testBit] at h4
   cases h4
  ·rw [uw O.length m2]; exact h2
  ·rw [m2 j hj]; exact h4
 ·rintro ⟨m,_,m1,m2,m3⟩;exact ⟨m.testBit,fun a ha=>absurd ha (Nat.not_lt_zero _),m2,hj,m3⟩
end
end Go.Proofs.YtnlkggppokcmfaaGreatT
namespace Go.Proofs.YtnlkggppokcmfaaGreatT
open Go Go.Proofs Go.Proofs.YtnlkggppokcmfaaGreatE
set_option linter.unusedVariables false
set_option linter.unusedSimpArgs false
theorem GH {h:History} {t key:Int} {w:List Int} (hW:aM h t key=some w) (hl:w.length≤16):fK h t key=some (uV 0 w):=by
 refine dI.1 ?_;unfold fK;refine df hW ?_;refine di (k0:=0) w.length (fun m s=>s.1=uV 0 (w.take m)∧s.2=(m:Int)) (Nat.zero_le _) ⟨by simp [uV],rfl⟩ ?_
 rintro m ⟨s,x⟩ hm ⟨f1,f2⟩
 dsimp only at f1 f2
 subst f1 f2;have a1:w64 ((m:Int) + 1)=((m + 1:Nat):Int):=aV (by omega);unfold nV
 dsimp only
 rw [a1]
 refine ay (fun h2 => ?_) (fun h2 => ?_)
 ·have a0:m < w.length:=by omega
  refine ai (by omega) (ag ⟨a0,?_,rfl⟩)
  dsimp only
  rw [Br a0]
 ·have:m=w.length:=by omega
  subst this;exact az (ag (by rw [List.take_length]; rfl))
section
variable {O:List Int} {W:Int→List Int}
open Classical in
theorem Da (hol:O.length≤32) (hwl:∀ t ∈ O,(W t).length≤16) {h:History} {a:Ask} (hW:∀ t ∈ O,aM h t a.Key=some (W t)) (ho:aN h a=some O) (hb:0 < a.Base.length) :
  aC h a=some (picks O (Win (idx a.Base 0) (O.map W) 0 (fun _=>False) 0) O.length):=by
 refine dI.1 ?_;have a5:2 ^ O.length≤2 ^ 32:=Nat.pow_le_pow_right (by decide) hol;have a2:0 < 2 ^ O.length:=Nat.two_pow_pos _;unfold aC;refine df ho ?_;refine ai (by omega) ?_;have hfin:∀ j,j < O.length→(Win (idx a.Base 0) (O.map W) 0 (fun _=>False) 0 j↔∃ m:Nat,1≤m∧m < 2 ^ O.length∧Msk O W (idx a.Base 0) m j):=fun j hj=>GG hj;generalize Win (idx a.Base 0) (O.map W) 0 (fun _=>False) 0=f at hfin ⊢;have hshl:=Jl hol;generalize 2 ^ O.length=N at a5 a2 hfin hshl;refine di (k0:=1) N (fun m s=>s.1.length=O.length∧s.2=(m:Int)∧∀ j,j < O.length→(idx s.1 (j:Int)=true↔∃ m':Nat,1≤m'∧m' < m∧Msk O W (idx a.Base 0) m' j)) a2 ⟨by simp,rfl,fun j hj => ?_⟩ ?_
 ·dsimp only
  rw [Int.toNat_natCast,dn (n:=j) rfl (by simpa using hj)]
  simp
  intro m' h1 h2
  omega
 rintro m ⟨ok,x⟩ hm ⟨e1,e2,e3⟩
 dsimp only at e1 e2 e3
 subst e2;unfold lG
 dsimp only
 rw [hshl]
 refine ai (by unfold far; omega) ?_;refine ay (fun h1 => ?_) (fun h1 => ?_)
 ·have a4:m < N:=by omega
  have hwm:w64 ((m:Int) + 1)=((m + 1:Nat):Int):=aV (by omega);refine di (k0:=0) O.length (fun i s=>s.1=pW O W m.testBit i∧s.2=(i:Int)) (Nat.zero_le _) ⟨rfl,rfl⟩ ?_;rintro i ⟨s,x⟩ hi ⟨f1,f2⟩
  dsimp only at f1 f2
  subst f1 f2;have hwi:w64 ((i:Int) + 1)=((i + 1:Nat):Int):=aV (by omega);unfold lD jv
  dsimp only
  rw [hwi]
  refine ay (fun h2 => ?_) (fun h2 => ?_)
  ·have a0:i < O.length:=by omega
   refine ai (by unfold far; omega) ?_
   rw [EQ (by omega) (by omega)]
   cases hbit:m.testBit i
   ·refine ay (fun h3=>absurd h3 (by simp)) (fun _ => ?_);refine ag ⟨a0,?_,rfl⟩
    dsimp only
    rw [wu,hbit]
    rfl
   ·refine ay (fun _ => ?_) (fun h3=>absurd (by simp) h3);refine ai (by omega) ?_;refine df (GH (hW _ (gu a0)) (hwl _ (gu a0))) (ag ⟨a0,?_,rfl⟩)
    dsimp only
    rw [wu,hbit]
    rfl
  ·have:i=O.length:=by omega
   subst this;have fin:∀ l:List Bool,l.length=O.length→(∀ j,j < O.length→(idx l (j:Int)=true↔idx ok (j:Int)=true∨Msk O W (idx a.Base 0) m j)) →
     Upm N m (fun m s=>s.1.length=O.length∧s.2=(m:Int)∧∀ j,j < O.length→(idx s.1 (j:Int)=true↔∃ m':Nat,1≤m'∧m' < m∧Msk O W (idx a.Base 0) m' j)) (fun b=>b=picks O f O.length) (.inl (l,((m + 1:Nat):Int))):=by
    intro l hl hj;refine ⟨a4,hl,rfl,fun j a3 => ?_⟩
    dsimp only
    rw [hj j a3,e3 j a3]
    constructor
    ·rintro (⟨m',h1,h2,h3⟩ | h3)
     ·exact ⟨m',h1,by omega,h3⟩
     ·refine ⟨m,?_,by omega,h3⟩
      apply Nat.lt_of_not_le
      intro h0;have:m=0:=by omega
      subst this;have:=h3.2
      rw [Nat.zero_testBit] at this
      cases this
    ·rintro ⟨m',h1,h2,h3⟩;rcases Nat.lt_or_ge m' m with h4 | h4
     ·exact .inl ⟨m',h1,h4,h3⟩
     ·have:m'=m:=by omega
      subst this;exact .inr h3
   refine di (k0:=0) O.length (fun i s=>s.1.length=O.length∧s.2=(i:Int)∧∀ j,j < O.length→(idx s.1 (j:Int)=true↔idx ok (j:Int)=true∨(pW O W m.testBit O.length=idx a.Base 0∧j < i∧m.testBit j=true))) (Nat.zero_le _)
    ⟨e1,rfl,fun j hj=>⟨fun h => .inl h,fun h=>h.elim id (fun h=>absurd h.2.1 (Nat.not_lt_zero _))⟩⟩ ?_
   rintro i ⟨l,x⟩ hi ⟨f1,f2,f3⟩
   dsimp only at f1 f2 f3
   subst f2;have hwi:w64 ((i:Int) + 1)=((i + 1:Nat):Int):=aV (by omega);unfold lC jy jw
   dsimp only
   rw [hwi,hwm]
   refine ay (fun h3 => ?_) (fun h3 => ?_)
   ·have a0:i < O.length:=by omega
    refine ai (by omega) ?_;refine ay (fun h4 => ?_) (fun h4 => ?_)
    ·refine ai (by omega) ?_
     rw [Int.toNat_natCast,EQ (by omega) (by omega)]
     have step:∀ v:Bool,(v=true↔idx l (i:Int)=true∨m.testBit i=true)→∀ j,j < O.length→(idx (l.set i v) (j:Int)=true↔idx ok (j:Int)=true∨(pW O W m.testBit O.length=idx a.Base 0∧j < i + 1∧m.testBit j=true)):=by
      intro v hv j hj
      rw [qy (by omega)]
      by_cases e:j=i
      ·subst e
       rw [if_pos rfl,hv,f3 j hj]
       constructor
       ·rintro ((h | ⟨_,h,_⟩) | h)
        ·exact .inl h
        ·omega
        ·exact .inr ⟨h4,by omega,h⟩
       ·rintro (h | ⟨_,_,h⟩)
        ·exact .inl (.inl h)
        ·exact .inr h
      ·rw [if_neg e,f3 j hj]
       constructor
       ·rintro (h | ⟨h,h',h''⟩)
        ·exact .inl h
        ·exact .inr ⟨h,by omega,h''⟩
       ·rintro (h | ⟨h,h',h''⟩)
        ·exact .inl h
        ·exact .inr ⟨h,by omega,h''⟩
     cases hli:idx l (i:Int)
     ·rw [cond_false]
      refine ai (by unfold far; omega) (ag ⟨a0,by simp [f1],rfl,step _ ?_⟩)
      rw [hli]
      cases m.testBit i <;> simp
     ·rw [cond_true]
      refine ag ⟨a0,by simp [f1],rfl,step _ ?_⟩
      rw [hli]
      simp
    ·refine az (az (ag (fin l f1 fun j hj => ?_)))
     rw [f3 j hj]
     unfold Msk;exact or_congr Iff.rfl ⟨fun h=>absurd h.1 h4,fun h=>absurd h.1 h4⟩
   ·have:i=O.length:=by omega
    subst this
    rw [cond_false]
    refine az (az (ag (fin l f1 fun j hj => ?_)))
    rw [f3 j hj]
    unfold Msk;exact or_congr Iff.rfl ⟨fun h=>⟨h.1,h.2.2⟩,fun h=>⟨h.1,hj,h.2⟩⟩
 ·have hmN:m=N:=by omega
  subst hmN;have e4:∀ j,j < O.length→(idx ok (j:Int)=true↔f j):=fun j hj=>(e3 j hj).trans (hfin j hj).symm;refine di (k0:=0) O.length (fun k s=>s=(picks O f k,(k:Int))) (Nat.zero_le _) (by simp [picks]) ?_;rintro k s hk rfl;have hw:w64 ((k:Int) + 1)=((k + 1:Nat):Int):=aV (by omega);have hl:=wo (O:=O) (f:=f) (k:=k);have hs:=Aa (O:=O) (f:=f) (k:=k);unfold lF jA
  dsimp only
  rw [hw]
  refine ay (fun h1 => ?_) (fun h1 => ?_)
  ·have a1:k < O.length:=by omega
   refine ai (by omega) ?_;cases hok:idx ok (k:Int)
   ·rw [cond_false]
    refine ag ⟨a1,?_⟩
    dsimp only
    rw [hs,if_neg (fun hf=>by rw [(e4 k a1).2 hf] at hok; cases hok)]
   ·rw [cond_true]
    refine ai (by omega) (ai (by omega) (ag ⟨a1,?_⟩))
    dsimp only
    rw [hs,if_pos ((e4 k a1).1 hok)]
  ·have:k=O.length:=by omega
   subst this;exact az (az (ag rfl))
end
end Go.Proofs.YtnlkggppokcmfaaGreatT
namespace Go.Proofs.YtnlkggppokcmfaaGreatT
open Go Go.Proofs Go.Proofs.YtnlkggppokcmfaaGreatE
set_option linter.unusedVariables false
set_option linter.unusedSimpArgs false
def vG (w:List Int):Int:=idx w ((w.length - 1:Nat):Int)
section
variable {O:List Int} {W:Int→List Int}
def lasts (O:List Int) (W:Int→List Int) (v:Int):List Int:=O.filter (fun t=>decide (vG (W t)=v))
theorem Ab {v:Int} {k:Nat} (hk:k < O.length):lasts (O.take (k + 1)) W v=if vG (W (idx O (k:Int)))=v then lasts (O.take k) W v++[idx O (k:Int)] else lasts (O.take k) W v:=by
 unfold lasts
 rw [List.take_succ_eq_append_getElem hk,List.filter_append,(dn (n:=k) rfl hk:idx O (k:Int)=O[k])]
 by_cases h:vG (W O[k])=v <;> simp [h]
theorem Bt {v:Int} {k:Nat}:(lasts (O.take k) W v).length≤O.length:=Nat.le_trans (List.length_filter_le _ _) (by rw [List.length_take]; omega)
theorem GI (hol:O.length≤32) (hne:∀ t ∈ O,0 < (W t).length) (hwl:∀ t ∈ O,(W t).length≤16) {a:Ask} (hb:0 < a.Base.length) :
  iter (lM a (yH O W)) ([],0)=some (lasts O W (idx a.Base 0)):=by
 refine dI.1 ?_;refine di (k0:=0) O.length (fun k s=>s.1=lasts (O.take k) W (idx a.Base 0)∧s.2=(k:Int)) (Nat.zero_le _) ⟨by simp [lasts],rfl⟩ ?_
 rintro k ⟨l,x⟩ hk ⟨e1,e2⟩
 dsimp only at e1 e2
 subst e1 e2;have hw:w64 ((k:Int) + 1)=((k + 1:Nat):Int):=aV (by omega);have hl:=Bt (O:=O) (W:=W) (v:=idx a.Base 0) (k:=k);unfold lM lL dX
 dsimp only
 rw [tJ,hw]
 refine ay (fun h1 => ?_) (fun h1 => ?_)
 ·have a0:k < O.length:=by omega
  have h0:=hne _ (gu a0);have a1:=hwl _ (gu a0);have hs:=Ab (W:=W) (v:=idx a.Base 0) a0
  rw [wh a0]
  dsimp only
  have hp:w64 (((W (idx O (k:Int))).length:Int) - 1)=(((W (idx O (k:Int))).length - 1:Nat):Int):=kI (by omega) (by omega)
  rw [hp]
  refine ai (by omega) (ai (by omega) (ai (by omega) ?_));refine ay (fun h2 => ?_) (fun h2 => ?_)
  ·refine ai (by omega) (ag ⟨a0,?_,rfl⟩)
   dsimp only
   rw [hs,if_pos (show vG _=_ from h2)]
  ·refine ag ⟨a0,?_,rfl⟩
   dsimp only
   rw [hs,if_neg (show ¬ vG _=_ from h2)]
 ·have:k=O.length:=by omega
  subst this;exact az (ag (by rw [List.take_length]; rfl))
theorem Jm (hol:O.length≤32) (hne:∀ t ∈ O,0 < (W t).length) (hwl:∀ t ∈ O,(W t).length≤16) {h:History} {a:Ask} (hW:∀ t ∈ O,aM h t a.Key=some (W t)) (hb:0 < a.Base.length) :
  iter (lW h a O) ([],0)=some (lasts O W (idx a.Base 0)):=by
 refine dI.1 ?_;refine di (k0:=0) O.length (fun k s=>s.1=lasts (O.take k) W (idx a.Base 0)∧s.2=(k:Int)) (Nat.zero_le _) ⟨by simp [lasts],rfl⟩ ?_
 rintro k ⟨l,x⟩ hk ⟨e1,e2⟩
 dsimp only at e1 e2
 subst e1 e2;have hw:w64 ((k:Int) + 1)=((k + 1:Nat):Int):=aV (by omega);have hl:=Bt (O:=O) (W:=W) (v:=idx a.Base 0) (k:=k);unfold lW lV gq
 dsimp only
 rw [hw]
 refine ay (fun h1 => ?_) (fun h1 => ?_)
 ·have a0:k < O.length:=by omega
  have h0:=hne _ (gu a0);have a1:=hwl _ (gu a0);have hs:=Ab (W:=W) (v:=idx a.Base 0) a0;refine ai (by omega) (df (hW _ (gu a0)) ?_);have hp:w64 (((W (idx O (k:Int))).length:Int) - 1)=(((W (idx O (k:Int))).length - 1:Nat):Int):=kI (by omega) (by omega)
  rw [hp]
  refine ai (by omega) (ai (by omega) ?_);refine ay (fun h2 => ?_) (fun h2 => ?_)
  ·refine ai (by omega) (ag ⟨a0,?_,rfl⟩)
   dsimp only
   rw [hs,if_pos (show vG _=_ from h2)]
  ·refine ag ⟨a0,?_,rfl⟩
   dsimp only
   rw [hs,if_neg (show ¬ vG _=_ from h2)]
 ·have:k=O.length:=by omega
  subst this;exact az (ag (by rw [List.take_length]; rfl))
end
abbrev oth (h:History) (a:Ask):List Int:=jc h a h.Txns.length
abbrev wro (h:History) (a:Ask):Int→List Int:=fun t=>iA h t a.Key
open Classical in
def wO (h:History) (a:Ask) (ty:Int) (s:List Int):Prop :=
 if ty=4 then s=(if idx a.Base 0=0 then [-1] else [])++picks (oth h a) (Win (idx a.Base 0) ((oth h a).map (wro h a)) 0 (fun _=>False) 0) (oth h a).length
 else if a.Base.length=0 then s=[-1]
 else if ty=1 then s=lasts (oth h a) (wro h a) (idx a.Base 0)
 else if ty=2 then ∃ r,vF (oth h a) (wro h a) a.Base r∧s=if r.2=true then [vG r.1] else []
 else ∃ r,nQ (oth h a) (wro h a) a.Base r∧s=r.1
theorem xP {h:History} (hS:jS h) (hc:aO h=some 0) {a:Ask} {t p:Nat} (ha:EO h a t p) :
  ∃ s,aT h a=some s∧bf h a=some s∧wO h a (typ (opAt h (t:Int) (p:Int)).Kind) s:=by
 have a6:=hS.len;obtain ⟨k1,k8⟩:=xN hS ha.tl ha.pl;have hT:fq h a.Key=some (typ (opAt h (t:Int) (p:Int)).Kind):=Bh hS hc ha.tl ha.pl ha.e3.symm;have hK:=Bg hS ha.tl ha.pl ha.e1 ha.e2;have hF:bM h a=some (yH (oth h a) (wro h a)):=yV hS hc;have hO:aN h a=some (oth h a):=yU hS;have hol:(oth h a).length≤32:=Nat.le_trans qL a6;have hmem:∀ u ∈ oth h a,∃ n:Nat,u=(n:Int)∧n < h.Txns.length∧0 < (wro h a u).length:=fun u hu=>by
  obtain ⟨⟨h0,h1,_,h3⟩,_⟩:=ut.1 hu;exact ⟨u.toNat,by omega,by omega,h3⟩
 have hwl:∀ u ∈ oth h a,(wro h a u).length≤16:=fun u hu=>by
  obtain ⟨n,rfl,hn,_⟩:=hmem u hu;exact Nat.le_trans yS (hS.txn n hn).ops.1
 have hne:∀ u ∈ oth h a,0 < (wro h a u).length:=fun u hu=>by obtain ⟨n,_,_,h3⟩:=hmem u hu; exact h3
 have hW:∀ u ∈ oth h a,aM h u a.Key=some (wro h a u):=fun u hu=>by
  obtain ⟨n,rfl,hn,_⟩:=hmem u hu;exact xe ⟨by omega,by omega⟩ (hS.txn n hn).ops.1
 have hP:=fun a7=>CX (a:=a) hS ha a7;have a4:=ha.b64;have a3:=ha.b4;have a5:=ha.b3;have hty:typ (opAt h (t:Int) (p:Int)).Kind=1∨typ (opAt h (t:Int) (p:Int)).Kind=2∨typ (opAt h (t:Int) (p:Int)).Kind=3∨typ (opAt h (t:Int) (p:Int)).Kind=4:=by unfold typ; omega
 generalize typ (opAt h (t:Int) (p:Int)).Kind=ty at hT hK a3 a5 hty hP;have bz:0 < a.Base.length→((a.Base.length:Int) == 0)=false:=fun h=>by rw [beq_eq_false_iff_ne]; omega
 have b0:a.Base.length=0→((a.Base.length:Int) == 0)=true:=fun h=>by rw [beq_iff_eq]; omega
 unfold aT bf ik
 simp only [hT,hK,hF,hO,Option.bind_some]
 by_cases h0:a.Base.length=0∧ty≠4
 ·obtain ⟨h0,h4⟩:=h0;refine ⟨[-1],?_,?_,?_⟩
  ·rw [b0 h0,beq_eq_false_iff_ne.2 h4]; rfl
  ·rw [b0 h0,beq_eq_false_iff_ne.2 h4]; rfl
  ·unfold wO; rw [if_neg h4,if_pos h0]
 ·rcases hty with rfl | rfl | rfl | rfl
  ·have hb:0 < a.Base.length:=by omega
   rw [bz hb]
   refine ⟨lasts (oth h a) (wro h a) (idx a.Base 0),GI (W:=wro h a) hol hne hwl (a:=a) hb,Jm (W:=wro h a) hol hne hwl hW hb,?_⟩;unfold wO
   rw [if_neg (by decide),if_neg (by omega),if_pos rfl]
  ·have hb:0 < a.Base.length:=by omega
   rw [bz hb]
   obtain ⟨⟨l,b⟩,a1,a2,a0⟩:=Bl (hP (.inl rfl)) hW hO a4;have hsrc:wO h a 2 (if b=true then [vG l] else []):=by
    unfold wO
    rw [if_neg (by decide),if_neg (by omega),if_neg (by decide),if_pos rfl]
    exact ⟨_,a0,rfl⟩
   refine ⟨_,?_,?_,hsrc⟩
   ·rw [a1]
    refine dI.1 ?_
    show Tri (bif b then _ else _) _
    cases b
    ·exact ag rfl
    ·have hl:0 < l.length∧l.length≤32:=by
      rcases a0 with ⟨_,h1,h2,h3⟩ | ⟨h1,_⟩
      ·refine ⟨?_,Nat.le_trans (wm h2 h1) hol⟩
       apply Nat.lt_of_not_le
       intro hle;have:l=[]:=List.length_eq_zero_iff.1 (by omega);subst this
       rw [h3] at hb
       simp at hb
      ·cases h1
     have hp:w64 ((l.length:Int) - 1)=((l.length - 1:Nat):Int):=kI (by omega) (by omega)
     dsimp only
     rw [hp]
     refine ai (by omega) (ag ?_)
     rw [yG]
     show l.drop (l.length - 1)=[vG l]
     rw [List.drop_eq_getElem_cons (by omega),List.drop_eq_nil_of_le (by omega)]
     unfold vG
     rw [dn (n:=l.length - 1) rfl (by omega)]
   ·rw [a2]
    refine dI.1 ?_
    show Tri (bif b then _ else _) _
    cases b
    ·exact ag rfl
    ·have hl:0 < l.length∧l.length≤32:=by
      rcases a0 with ⟨_,h1,h2,h3⟩ | ⟨h1,_⟩
      ·refine ⟨?_,Nat.le_trans (wm h2 h1) hol⟩
       apply Nat.lt_of_not_le
       intro hle;have:l=[]:=List.length_eq_zero_iff.1 (by omega);subst this
       rw [h3] at hb
       simp at hb
      ·cases h1
     have hp:w64 ((l.length:Int) - 1)=((l.length - 1:Nat):Int):=kI (by omega) (by omega)
     dsimp only
     rw [hp]
     exact ai (by omega) (ai (by omega) (ag rfl))
  ·have hb:0 < a.Base.length:=by omega
   rw [bz hb]
   obtain ⟨⟨l,b⟩,a1,a2,a0⟩:=CZ (hP (.inr rfl)) xO hW hO a4 (a5 rfl);have hsrc:wO h a 3 l:=by
    unfold wO
    rw [if_neg (by decide),if_neg (by omega),if_neg (by decide),if_neg (by decide)]
    exact ⟨_,a0,rfl⟩
   refine ⟨_,?_,?_,hsrc⟩
   ·rw [a1]; rfl
   ·rw [a2]
    refine dI.1 ?_
    show Tri (bif b then _ else _) _
    cases b
    ·refine ag ?_;rcases a0 with ⟨h1,_⟩ | ⟨h1,_⟩
     ·cases h1
     ·cases h1; rfl
    ·exact ag rfl
  ·classical
   have hb:0 < a.Base.length:=by have:=a3 rfl; omega
   have hcc:=Cc (W:=wro h a) (want:=idx a.Base 0) hol hwl;have hcr:=Da (W:=wro h a) hol hwl hW hO hb;generalize hpk:picks (oth h a) (Win (idx a.Base 0) ((oth h a).map (wro h a)) 0 (fun _=>False) 0) (oth h a).length=pk at hcc hcr;have hpl:pk.length≤32:=by rw [← hpk]; exact Nat.le_trans wo hol
   have hsrc:wO h a 4 ((if idx a.Base 0=0 then [-1] else [])++pk):=by
    unfold wO
    rw [if_pos rfl,← hpk]
   refine ⟨_,?_,?_,hsrc⟩
   ·refine dI.1 ?_;unfold lK dX
    simp only [hF,hcc,Option.bind_some]
    refine ai (by omega) ?_;refine ay (fun h1 => ?_) (fun h1 => ?_)
    ·refine ai (by omega) (ai (by omega) (ai ?_ (ag ?_)))
     ·simp only [List.length_append,List.length_singleton,List.length_nil]; omega
     ·rw [if_pos h1]; rfl
    ·refine ai (by omega) (ai ?_ (ag ?_))
     ·simp only [List.length_nil]; omega
     ·rw [if_neg h1]
   ·refine dI.1 ?_;unfold lU
    simp only [hcr,Option.bind_some]
    refine ai (by omega) ?_;refine ay (fun h1 => ?_) (fun h1 => ?_)
    ·refine ai (by omega) (ag ?_)
     rw [if_pos h1]
    ·refine ag ?_
     rw [if_neg h1]; rfl
end Go.Proofs.YtnlkggppokcmfaaGreatT
namespace Go.Proofs.YtnlkggppokcmfaaGreatT
open Go Go.Proofs Go.Proofs.YtnlkggppokcmfaaGreatE
set_option linter.unusedVariables false
set_option linter.unusedSimpArgs false
noncomputable def Eb (h:History) (a:Ask):List Int:=(aT h a).getD []
theorem FK {h:History} (hS:jS h) (hc:aO h=some 0) {a:Ask} (ha:a ∈ fU h h.Txns.length):aT h a=some (Eb h a)∧bf h a=some (Eb h a):=by
 obtain ⟨t,p,hk⟩:=Ca hS ha;obtain ⟨s,h1,h2,_⟩:=xP hS hc hk;unfold Eb
 rw [h1,h2]
 exact ⟨rfl,rfl⟩
theorem Ac {l:List Ask} {j:Nat} (hj:j < l.length):idx l (j:Int) ∈ l:=by rw [dn (n:=j) rfl hj]; exact List.getElem_mem _
section
variable {h:History}
end
end Go.Proofs.YtnlkggppokcmfaaGreatT
namespace Go.Proofs.YtnlkggppokcmfaaGreatT
open Go Go.Proofs Go.Proofs.YtnlkggppokcmfaaGreatE
set_option linter.unusedVariables false
set_option linter.unusedSimpArgs false
theorem Db {b a:Ask} (ha:a.Base.length < 2 ^ 60):Tri (mo b a) (fun r=>r=true↔a=b):=by
 unfold mo
 rw [wX (by omega)]
 obtain ⟨a1,a2,a3,a4⟩:=a;obtain ⟨b1,b2,b3,b4⟩:=b
 dsimp only
 refine ay (fun e1 => ?_) (fun e1=>ag ?_)
 ·refine ay (fun e2 => ?_) (fun e2=>ag ?_)
  ·refine ay (fun e3=>ag ?_) (fun e3=>ag ?_)
   ·simp [e1,e2,e3]
   ·simp [e3]
  ·simp [e2]
 ·simp [e1]
theorem AQ {l:List Ask} {a:Ask} (ha:a.Base.length < 2 ^ 60) (hl:l.length < 2 ^ 60):Tri (cZ l a) (fun r=>r=true↔a ∈ l):=by
 have h1:Tri (bD l a) (fun r=>0≤r↔a ∈ l):=by
  unfold bD;refine di (k0:=0) l.length (fun k s=>s=(k:Int)∧∀ j:Nat,j < k→a≠idx l (j:Int)) (Nat.zero_le _) ⟨rfl,fun j h=>absurd h (Nat.not_lt_zero _)⟩ ?_;rintro k s hk ⟨rfl,hno⟩;have hw:w64 ((k:Int) + 1)=((k + 1:Nat):Int):=aV (by omega);unfold eH
  dsimp only
  rw [hw]
  refine ay (fun h1 => ?_) (fun h1 => ?_)
  ·have a0:k < l.length:=by omega
   refine ai (by omega) (ed (Db ha) (fun r hr => ?_));refine ay (fun h2 => ?_) (fun h2 => ?_)
   ·refine az (ag ⟨fun _ => ?_,fun _=>by omega⟩)
    rw [hr.1 h2]
    exact Ac a0
   ·refine ag ⟨a0,rfl,fun j hj => ?_⟩;rcases Nat.lt_or_ge j k with h3 | h3
    ·exact hno j h3
    ·have:j=k:=by omega
     subst this;exact fun e=>h2 (hr.2 e)
  ·have:k=l.length:=by omega
   subst this;refine az (ag ⟨fun h=>absurd h (by decide),fun h => ?_⟩);obtain ⟨j,hj,e⟩:=List.getElem_of_mem h;exact absurd (e.symm.trans (dn rfl hj).symm) (hno j hj)
 unfold cZ;refine ed h1 (fun r hr=>ag ?_)
 rw [decide_eq_true_iff]
 exact hr
theorem Ec {h:History} (hs:pU h) (hS:jS h) (hc:aO h=some 0) {a:Ask} (ha:a.Base.length < 2 ^ 60) :
  Tri (jK h a) (fun r=>(r=0∧a ∈ fU h h.Txns.length)∨(r=1∧a ∉ fU h h.Txns.length)):=by
 have a0:=hS.len;obtain ⟨i1,_,_⟩:=tH hS h.Txns.length (Nat.le_refl _);have hA:iN h=some (fU h h.Txns.length,0):=by unfold iN; rw [CO hs hS hc]; rfl
 unfold jK;refine df hA ?_;refine ay (fun h1=>absurd rfl h1) (fun _ => ?_);refine ed (AQ ha (by dsimp only; omega)) (fun r hr => ?_);refine ay (fun h1 => ?_) (fun h1 => ?_)
 ·exact ag (.inl ⟨rfl,hr.1 h1⟩)
 ·exact ag (.inr ⟨rfl,fun h2=>h1 (hr.2 h2)⟩)
theorem GJ {h:History} (hS:jS h) {a:Ask} (ha:a ∈ fU h h.Txns.length):a.Base.length < 2 ^ 60:=by
 obtain ⟨t,p,hk⟩:=Ca hS ha;have:=hk.b64
 omega
end Go.Proofs.YtnlkggppokcmfaaGreatT
namespace Go.Proofs.YtnlkggppokcmfaaGreatT
open Go Go.Proofs Go.Proofs.YtnlkggppokcmfaaGreatE
set_option linter.unusedVariables false
set_option linter.unusedSimpArgs false
theorem Bu {l:List Int} (hl:l.length < 2 ^ 60):dw l l=some true:=by
 refine dI.1 ?_;unfold dw;refine ay (fun h=>absurd rfl h) (fun _ => ?_);refine di (k0:=0) l.length (fun k s=>s=(k:Int)) (Nat.zero_le _) rfl ?_;rintro k s hk rfl;have hw:w64 ((k:Int) + 1)=((k + 1:Nat):Int):=aV (by omega);unfold kF
 dsimp only
 rw [hw]
 refine ay (fun h1 => ?_) (fun h1 => ?_)
 ·have a0:k < l.length:=by omega
  refine ai (by omega) (ai (by omega) ?_);refine ay (fun h2=>absurd rfl h2) (fun _ => ?_);exact ag ⟨a0,rfl⟩
 ·exact az (ag rfl)
theorem FL {h:History} (hs:pU h) (hS:jS h) (hc:av h=some 0) {a:Ask} (ha:a.Base.length < 2 ^ 60):Tri (bJ h a) (fun r=>r=true↔a ∈ fU h h.Txns.length):=by
 have a5:=hS.len;obtain ⟨i1,_,i3⟩:=tH hS h.Txns.length (Nat.le_refl _);unfold bJ;refine df hc ?_;refine ay (fun h1=>absurd rfl h1) (fun _ => ?_);refine df (CP hs hS) ?_;generalize fU h h.Txns.length=l at i1 i3;refine di (k0:=0) l.length (fun k s=>s=(k:Int)∧∀ j:Nat,j < k→a≠idx l (j:Int)) (Nat.zero_le _) ⟨rfl,fun j h=>absurd h (Nat.not_lt_zero _)⟩ ?_;rintro k s hk ⟨rfl,hno⟩;have hw:w64 ((k:Int) + 1)=((k + 1:Nat):Int):=aV (by omega);unfold mG fT
 dsimp only
 rw [hw]
 have no:k < l.length→a≠idx l (k:Int)→Upm l.length k (fun k s=>s=(k:Int)∧∀ j:Nat,j < k→a≠idx l (j:Int)) (fun r=>r=true↔a ∈ l) (.inl ((k + 1:Nat):Int)):=by
  intro a0 h1;refine ⟨a0,rfl,fun j hj => ?_⟩;rcases Nat.lt_or_ge j k with h3 | h3
  ·exact hno j h3
  ·have:j=k:=by omega
   subst this;exact h1
 refine ay (fun h1 => ?_) (fun h1 => ?_)
 ·have a0:k < l.length:=by omega
  refine ai (by omega) ?_;refine ay (fun e1 => ?_) (fun e1=>ag (no a0 fun e=>e1 (by rw [e])));refine ay (fun e2 => ?_) (fun e2=>ag (no a0 fun e=>e2 (by rw [e])));refine ay (fun e3 => ?_) (fun e3=>ag (no a0 fun e=>e3 (by rw [e])));refine df (sK (i3 k a0)) ?_;refine ay (fun e4 => ?_) (fun e4=>ag (no a0 fun e=>e4 (by rw [e])));have he:a=idx l (k:Int):=by
   generalize idx l (k:Int)=b at e1 e2 e3 e4;obtain ⟨a1,a2,a3,a4⟩:=a;obtain ⟨b1,b2,b3,b4⟩:=b
   dsimp only at e1 e2 e3 e4
   rw [e1,e2,e3,e4]
  refine az (ag ⟨fun _ => ?_,fun _=>rfl⟩)
  rw [he]
  exact Ac a0
 ·have:k=l.length:=by omega
  subst this;refine az (ag ⟨fun h=>(nomatch h),fun h => ?_⟩);obtain ⟨j,hj,e⟩:=List.getElem_of_mem h;exact absurd (e.symm.trans (dn rfl hj).symm) (hno j hj)
end Go.Proofs.YtnlkggppokcmfaaGreatT
namespace Go.Proofs.YtnlkggppokcmfaaGreatT
open Go Go.Proofs Go.Proofs.YtnlkggppokcmfaaGreatE
set_option linter.unusedVariables false
set_option linter.unusedSimpArgs false
theorem FM {O:List Int} {W:Int→List Int} {base:List Int}:(tK O W base).length≤O.length:=List.length_filter_le _ _
theorem Ed {O:List Int} {W:Int→List Int} {base:List Int} {r:List Int×Bool} (h:vF O W base r):r.1.length≤O.length:=by
 rcases h with ⟨_,h1,h2,_⟩ | ⟨rfl,_⟩
 ·exact wm h2 h1
 ·exact Nat.zero_le _
theorem Bv {O:List Int} {W:Int→List Int} {base:List Int} {r:List Int×Bool} (h:nQ O W base r):r.1.length≤O.length:=by
 rcases h with ⟨rfl,_⟩ | ⟨rfl,_⟩
 ·exact FM
 ·exact Nat.zero_le _
theorem ES {h:History} (hS:jS h) {a:Ask}:(oth h a).length≤32:=Nat.le_trans qL hS.len
theorem FN {h:History} (hS:jS h) (hc:aO h=some 0) {a:Ask} (ha:a ∈ fU h h.Txns.length):(Eb h a).length≤33:=by
 classical
 obtain ⟨t,p,hk⟩:=Ca hS ha;obtain ⟨s,h1,_,h3⟩:=xP hS hc hk;have e:Eb h a=s:=by unfold Eb; rw [h1]; rfl
 rw [e]
 have hol:=ES hS (a:=a);unfold wO at h3
 split at h3
 ·rw [h3,List.length_append]
  have:=wo (O:=oth h a) (f:=Win (idx a.Base 0) ((oth h a).map (wro h a)) 0 (fun _=>False) 0) (k:=(oth h a).length)
  split <;> simp <;> omega
 ·split at h3
  ·rw [h3]; simp
  ·split at h3
   ·rw [h3]
    exact Nat.le_trans (List.length_filter_le _ _) (by omega)
   ·split at h3
    ·obtain ⟨r,h4,rfl⟩:=h3
     split <;> simp
    ·obtain ⟨r,h4,rfl⟩:=h3;have:=Bv h4
     omega
def Jn (h:History) (a:Ask) (ty:Int) (r:List Int×Bool):Prop :=
 (ty=2→vF (oth h a) (wro h a) a.Base r)∧(ty=3→nQ (oth h a) (wro h a) a.Base r)∧(ty≠2→ty≠3→r=([],false))
theorem Ee {h:History} (hS:jS h) (hc:aO h=some 0) {a:Ask} {t p:Nat} (ha:EO h a t p) :
  ∃ r,ik h a=some r∧iX h a=some r∧r.1.length≤32∧Jn h a (typ (opAt h (t:Int) (p:Int)).Kind) r:=by
 have a6:=hS.len;have hT:fq h a.Key=some (typ (opAt h (t:Int) (p:Int)).Kind):=Bh hS hc ha.tl ha.pl ha.e3.symm;have hK:=Bg hS ha.tl ha.pl ha.e1 ha.e2;have hF:bM h a=some (yH (oth h a) (wro h a)):=yV hS hc;have hO:aN h a=some (oth h a):=yU hS;have hol:=ES hS (a:=a);have hW:∀ u ∈ oth h a,aM h u a.Key=some (wro h a u):=fun u hu=>by
  obtain ⟨⟨h0,h1,_,h3⟩,_⟩:=ut.1 hu;have hn:u.toNat < h.Txns.length:=by omega
  have e:u=(u.toNat:Int):=by omega
  rw [e]
  exact xe ⟨by omega,by omega⟩ (hS.txn u.toNat hn).ops.1
 have hP:=fun a5=>CX (a:=a) hS ha a5;have a3:=ha.b64;have a4:=ha.b3;generalize typ (opAt h (t:Int) (p:Int)).Kind=ty at hT hK a4 hP;unfold ik iX
 simp only [hT,hK,hF,Option.bind_some]
 by_cases h2:ty=2
 ·subst h2;obtain ⟨r,a1,a2,a0⟩:=Bl (hP (.inl rfl)) hW hO a3;refine ⟨r,?_,?_,Nat.le_trans (Ed a0) hol,fun _=>a0,fun h=>absurd h (by decide),fun h=>absurd rfl h⟩
  ·rw [a1]; rfl
  ·rw [a2]; rfl
 ·by_cases h3:ty=3
  ·subst h3;obtain ⟨r,a1,a2,a0⟩:=CZ (hP (.inr rfl)) xO hW hO a3 (a4 rfl);refine ⟨r,?_,?_,Nat.le_trans (Bv a0) hol,fun h=>absurd h (by decide),fun _=>a0,fun _ h=>absurd rfl h⟩
   ·rw [a1]; rfl
   ·rw [a2]; rfl
  ·refine ⟨([],false),?_,?_,Nat.zero_le _,fun h=>absurd h h2,fun h=>absurd h h3,fun _ _=>rfl⟩
   ·rw [beq_eq_false_iff_ne.2 h2,beq_eq_false_iff_ne.2 h3]; rfl
   ·rw [beq_eq_false_iff_ne.2 h2,beq_eq_false_iff_ne.2 h3]; rfl
noncomputable def pts (h:History) (a:Ask):List Int×Bool:=(ik h a).getD ([],false)
theorem GK {h:History} (hS:jS h) (hc:aO h=some 0) {a:Ask} (ha:a ∈ fU h h.Txns.length):ik h a=some (pts h a)∧iX h a=some (pts h a)∧(pts h a).1.length≤32:=by
 obtain ⟨t,p,hk⟩:=Ca hS ha;obtain ⟨r,h1,h2,h3,_⟩:=Ee hS hc hk;have e:pts h a=r:=by unfold pts; rw [h1]; rfl
 rw [e]
 exact ⟨h1,h2,h3⟩
abbrev AG (a:Ask):Prop:=((Lit.int .i64 (a).Txn).wf=true)∧((Lit.int .i64 (a).Place).wf=true)∧((Lit.int .i64 (a).Key).wf=true)∧((∀ z ∈ (a).Base,(Lit.int .i64 z).wf=true)∧((a).Base).length * 8≤140737488351232)
section
variable {h:History}
theorem FO (hs:pU h) {a:Ask} (ha:a.Base.length < 2 ^ 60):∃ (l:List Int) (e:Int) (p:List Int×Bool),gm h a=some (l,e)∧dV h a=some (l,e)∧jQ h a=some (p.1,p.2,e)∧fA h a=some (p.1,p.2,e) ∧
  l.length < 2 ^ 60∧p.1.length < 2 ^ 60:=by
 obtain ⟨v,hv,hv',a1,hiff⟩:=zU hs;have odd:jK h a=some 1→bJ h a=some false→∃ (l:List Int) (e:Int) (p:List Int×Bool),gm h a=some (l,e)∧dV h a=some (l,e)∧jQ h a=some (p.1,p.2,e)∧fA h a=some (p.1,p.2,e) ∧
   l.length < 2 ^ 60∧p.1.length < 2 ^ 60:=fun h1 h2=>by
  refine ⟨[],1,([],false),?_,?_,?_,?_,by simp,by simp⟩
  ·unfold gm; rw [h1]; rfl
  ·unfold dV; rw [h2]; rfl
  ·unfold jQ; rw [h1]; rfl
  ·unfold fA; rw [h2]; rfl
 rcases a1 with rfl | rfl
 ·have hS:=hiff.1 rfl;obtain ⟨k,hk,a0⟩:=Ec hs hS hv ha;obtain ⟨k',hk',hk2'⟩:=FL hs hS hv' ha;rcases a0 with ⟨rfl,hm⟩ | ⟨rfl,hm⟩
  ·have:k'=true:=hk2'.2 hm;subst this;obtain ⟨s1,s2⟩:=FK hS hv hm;obtain ⟨p1,p2,p3⟩:=GK hS hv hm;refine ⟨Eb h a,0,pts h a,?_,?_,?_,?_,by have:=FN hS hv hm; omega,by omega⟩
   ·unfold gm; rw [hk,Option.bind_some,s1]; rfl
   ·unfold dV; rw [hk',Option.bind_some,s2]; rfl
   ·unfold jQ; rw [hk,Option.bind_some,p1]; rfl
   ·unfold fA; rw [hk',Option.bind_some,p2]; rfl
  ·have:k'=false:=by cases k' with
    | false=>rfl
    | true=>exact absurd (hk2'.1 rfl) hm
   subst this;exact odd hk hk'
 ·refine odd ?_ ?_
  ·unfold jK iN kD
   rw [hv]
   rfl
  ·unfold bJ
   rw [hv']
   rfl
theorem GL (hs:pU h) (i:Int):Tri (dS h i) (fun r=>r.2=true→r.1 ∈ fU h h.Txns.length∧jS h∧aO h=some 0):=by
 obtain ⟨v,hv,hv',a0,hiff⟩:=zU hs;unfold dS;rcases a0 with rfl | rfl
 ·have hS:=hiff.1 rfl;have a1:=hS.len;obtain ⟨i1,_,_⟩:=tH hS h.Txns.length (Nat.le_refl _);have hA:iN h=some (fU h h.Txns.length,0):=by unfold iN; rw [CO hs hS hv]; rfl
  generalize hl:fU h h.Txns.length=l at hA i1;refine df hA ?_;refine ay (fun h1=>absurd rfl h1) (fun _ => ?_);unfold iZ;refine ay (fun h1=>ag (fun h=>(nomatch h))) (fun h1 => ?_);have hn:0 < l.length:=by
   rcases Nat.eq_zero_or_pos l.length with h2 | h2
   ·exact absurd (by simpa using congrArg (Int.ofNat) h2) h1
   ·exact h2
  have hw:IntKind.wrap .u64 ((l.length:Int))=(l.length:Int):=wrap_u64 (by omega)
  dsimp only
  rw [hw]
  have hu:0≤IntKind.wrap .u64 i:=by simp only [IntKind.wrap,IntKind.signed,IntKind.bits]; exact Int.emod_nonneg _ (by decide)
  have hm:=Int.emod_nonneg (IntKind.wrap .u64 i) (b:=(l.length:Int)) (by omega);have a2:=Int.emod_lt_of_pos (IntKind.wrap .u64 i) (b:=(l.length:Int)) (by omega)
  rw [Int.tmod_eq_emod_of_nonneg hu]
  have e:w64 (IntKind.wrap .u64 i % (l.length:Int))=((IntKind.wrap .u64 i % (l.length:Int)).toNat:Int):=by
   rw [nI (by omega) (by omega)]; omega
  rw [e]
  refine ai (by omega) (ai (by omega) (ag (fun _=>⟨Ac (by omega),hS,hv⟩)))
 ·have hA:iN h=some ([],1):=by
   unfold iN kD
   rw [hv]
   rfl
  refine df hA ?_;refine ay (fun _ => ?_) (fun h1=>absurd (by decide) h1);unfold iZ;exact ag (fun h=>(nomatch h))
theorem zn (h:History) (i:Int) (made:Ask) {K:ByteArray→Prop} (g:HG K h) (gi:(Lit.int .i64 i).wf=true) (ga:AG made):cz h i made=some true:=by
 have hs:=g.small;have hb:made.Base.length < 2 ^ 60:=by have:=ga.2.2.2.2; omega
 have main:∀ a:Ask,a.Base.length < 2 ^ 60→eU h a.Txn a.Place a.Key a.Base=some true:=fun a ha=>by
  obtain ⟨l,e,p,h1,h2,h3,h4,h5,h6⟩:=FO hs ha;refine dI.1 ?_;unfold eU
  rw [Fz hs]
  refine bI ?_
  show Tri ((gm h a).bind _) _
  rw [h1]
  refine bI ?_
  show Tri ((dV h a).bind _) _
  rw [h2]
  refine bI ?_
  show Tri ((jQ h a).bind _) _
  rw [h3]
  refine bI ?_
  show Tri ((fA h a).bind _) _
  rw [h4]
  refine bI ?_;refine ay (fun _ => ?_) (fun h=>absurd (by simp) h);refine df (Bu h5) ?_;refine ay (fun _ => ?_) (fun h=>absurd (by simp) h);refine ay (fun _ => ?_) (fun h=>absurd (by simp) h);refine ay (fun _ => ?_) (fun h=>absurd (by simp) h);refine df (Bu h6) ?_;refine ay (fun _ => ?_) (fun h=>absurd (by simp) h);exact df (FB hs) (ag rfl)
 refine dI.1 ?_;unfold cz
 rw [tX]
 refine bI ?_
 rw [Bool.not_true,cond_false]
 refine ed (GL hs i) (fun r hr => ?_);refine ay (fun _=>dI.2 (main made hb)) (fun h1=>dI.2 (main r.1 ?_));obtain ⟨h2,hS,hc⟩:=hr (by simpa using h1);exact GJ hS h2
end
end Go.Proofs.YtnlkggppokcmfaaGreatT
