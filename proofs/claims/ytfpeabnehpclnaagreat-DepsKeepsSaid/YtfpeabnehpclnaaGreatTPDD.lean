import Derived.Test.YtfpeabnehpclnaaGreatTPXB
namespace Go.Proofs.YtfpeabnehpclnaaGreatT
open Go Go.Proofs Go.Proofs.YtfpeabnehpclnaaGreatE
set_option linter.unusedVariables false
set_option linter.unusedSimpArgs false
def Je (h:History) (key ty:Int):Prop:=∀ t p:Nat,t < h.Txns.length→p < (idx h.Txns (t:Int)).Ops.length→(opAt h (t:Int) (p:Int)).Key=key→typ (opAt h (t:Int) (p:Int)).Kind=ty
def Apart (e f:Call×Int):Prop:=e.1.Key=f.1.Key→(e.1.Kind=2∨e.1.Kind=3)→(f.1.Kind=2∨f.1.Kind=3)→e.1.Arg≠f.1.Arg
theorem EY {L:List (Call×Int)} (h:sw [] L):L.Pairwise Apart:=by
 rw [List.pairwise_iff_getElem]
 intro i j hi hj hij hk h1 h2;have:=(h j hj).2.1
 rw [dE (n:=j) rfl hj] at this
 exact this h2 L[i] (by rw [List.nil_append]; exact List.mem_take_iff_getElem.2 ⟨i,by omega,rfl⟩) hk h1
theorem Gy {h:History} {t key v:Int}:v ∈ gY h t key↔∃ o ∈ (idx h.Txns t).Ops,o.Key=key∧o.Kind≤4∧o.Arg=v:=by
 unfold gY vR
 rw [List.take_length]
 simp only [List.mem_map,List.mem_filter,decide_eq_true_eq]
 constructor
 ·rintro ⟨o,⟨h1,h2,h3⟩,h4⟩; exact ⟨o,h1,h2,h3,h4⟩
 ·rintro ⟨o,h1,h2,h3,h4⟩; exact ⟨o,⟨h1,h2,h3⟩,h4⟩
theorem QS {h:History} {t:Nat} {o:Op} (ho:o ∈ (idx h.Txns (t:Int)).Ops):∃ p:Nat,p < (idx h.Txns (t:Int)).Ops.length∧opAt h (t:Int) (p:Int)=o:=by
 obtain ⟨p,hp,rfl⟩:=List.getElem_of_mem ho;exact ⟨p,hp,dE rfl hp⟩
theorem Eu {h:History} (hS:fJ h) {key ty:Int} (hty:Je h key ty) (a0:ty=2∨ty=3) {t:Nat} (ht:t < h.Txns.length) {o:Op} (ho:o ∈ (idx h.Txns (t:Int)).Ops) (hk:o.Key=key) (h4:o.Kind≤4):o.Kind=2∨o.Kind=3:=by
 obtain ⟨p,hp,rfl⟩:=QS ho;have h1:=hty t p ht hp hk;obtain ⟨k1,k2⟩:=AU hS ht hp;unfold typ at h1
 omega
theorem Jf {h:History} (hS:fJ h) {key ty:Int} (hty:Je h key ty) (a0:ty=2∨ty=3) {t:Nat} (ht:t < h.Txns.length):(gY h (t:Int) key).Nodup:=by
 have hp:=(List.pairwise_flatMap.1 (EY hS.ents)).1 t (List.mem_range.2 ht);unfold BF dO at hp
 rw [List.map_map,List.pairwise_map] at hp
 unfold gY vR
 rw [List.take_length]
 unfold List.Nodup
 rw [List.pairwise_map,List.pairwise_filter]
 refine List.Pairwise.imp_of_mem (fun {x y} hx hy hR => ?_) hp;intro h1 h2
 rw [decide_eq_true_eq] at h1 h2
 refine hR ?_ (Eu hS hty a0 ht hx h1.1 h1.2) (Eu hS hty a0 ht hy h2.1 h2.2)
 show idx h.Keys _=idx h.Keys _
 rw [h1.1,h2.1]
theorem Jg {h:History} (hS:fJ h) {key ty:Int} (hty:Je h key ty) (a0:ty=2∨ty=3) {t u:Nat} (ht:t < h.Txns.length) (hu:u < h.Txns.length) (hn:t≠u) {v:Int}
  (h1:v ∈ gY h (t:Int) key):v ∉ gY h (u:Int) key:=by
 intro h2;have hp:=(List.pairwise_flatMap.1 (EY hS.ents)).2;obtain ⟨o,ho,k1,k2,k3⟩:=Gy.1 h1;obtain ⟨o',ho',l1,l2,l3⟩:=Gy.1 h2;have a1:∀ {t u:Nat} (ht:t < h.Txns.length) (hu:u < h.Txns.length),t < u→∀ {o o':Op},o ∈ (idx h.Txns (t:Int)).Ops→o' ∈ (idx h.Txns (u:Int)).Ops→o.Key=key→o'.Key=key→o.Kind≤4→o'.Kind≤4→o.Arg≠o'.Arg:=by
  intro t u ht hu htu o o' ho ho' e1 e2 e3 e4;have:=(List.pairwise_iff_getElem.1 hp) t u (by simpa using ht) (by simpa using hu) htu
  rw [List.getElem_range,List.getElem_range] at this
  refine this (xU h o,(t:Int)) ?_ (xU h o',(u:Int)) ?_ ?_ (Eu hS hty a0 ht ho e1 e3) (Eu hS hty a0 hu ho' e2 e4)
  ·unfold BF dO; rw [List.map_map]; exact List.mem_map.2 ⟨o,ho,rfl⟩
  ·unfold BF dO; rw [List.map_map]; exact List.mem_map.2 ⟨o',ho',rfl⟩
  ·show idx h.Keys _=idx h.Keys _
   rw [e1,e2]
 rcases Nat.lt_or_gt_of_ne hn with hlt | hlt
 ·exact a1 ht hu hlt ho ho' k1 l1 k2 l2 (k3.trans l3.symm)
 ·exact a1 hu ht hlt ho' ho l1 k1 l2 k2 (l3.trans k3.symm)
structure DX (h:History) (a:Ask) (t p:Nat):Prop where
 tl:t < h.Txns.length
 pl:p < (idx h.Txns (t:Int)).Ops.length
 e1:a.Txn=(t:Int)
 e2:a.Place=(p:Int)
 e3:a.Key=(opAt h (t:Int) (p:Int)).Key
 rd:5≤(opAt h (t:Int) (p:Int)).Kind
 b64:a.Base.length≤64
 b4:typ (opAt h (t:Int) (p:Int)).Kind=4→a.Base.length=1
 b3:typ (opAt h (t:Int) (p:Int)).Kind=3→a.Base.Nodup
theorem Gz {s:List Int} (h:Asc s):s.Nodup:=by
 exact (AP.1 h).imp (fun h=>by omega)
theorem BU {h:History} (hS:fJ h) {a:Ask} (ha:a ∈ aV h h.Txns.length):∃ t p,DX h a t p:=by
 unfold aV at ha;obtain ⟨t,ht,ha⟩:=List.mem_flatMap.1 ha;have ht:=List.mem_range.1 ht;unfold wH at ha
 split at ha
 case isFalse=>cases ha
 case isTrue hst =>
 unfold wG at ha;obtain ⟨p,hp,ha⟩:=List.mem_flatMap.1 ha;have hp:=List.mem_range.1 hp;refine ⟨t,p,?_⟩;obtain ⟨k1,k8⟩:=AU hS ht hp;obtain ⟨_,_,_,_,_,hcs⟩:=hS.txn t ht;have hc:=hcs p (by simpa [BB,dO] using hp)
 dsimp only [BB,dO] at hc
 rw [za hp] at hc
 unfold vF xU at hc
 dsimp only at hc
 unfold DV at ha
 dsimp only at ha
 have ho:idx (idx h.Txns (t:Int)).Ops (p:Int)=opAt h (t:Int) (p:Int):=rfl
 rw [ho] at ha hc
 generalize opAt h (t:Int) (p:Int)=o at ha hc k1 k8 ho;obtain ⟨c1,c8,c3,c4,c5,c6⟩:=hc;have hoo:opAt h (t:Int) (p:Int)=o:=ho
 split at ha
 ·cases ha
 ·rename_i h4
  obtain ⟨d1,d2,d3,d4⟩:=c6 (by omega);have hg:o.Got=true:=d2.2 hst;obtain ⟨f1,f2,f3,f4⟩:=d4 hg
  split at ha
  ·rw [List.mem_singleton] at ha
   subst ha;exact ⟨ht,hp,rfl,rfl,by rw [hoo],by rw [hoo]; omega,f4,fun h=>f2 (by rw [hoo] at h; unfold typ at h; omega),fun h=>Gz (f3 (by rw [hoo] at h; unfold typ at h; omega))⟩
  ·split at ha
   ·rename_i hb
    rw [List.mem_singleton] at ha
    subst ha;obtain ⟨hb,h5⟩:=hb;refine ⟨ht,hp,rfl,rfl,by rw [hoo],by rw [hoo]; omega,?_,fun h => ?_,fun h => ?_⟩
    ·dsimp only
     unfold before;have:=List.length_filter_le (fun x=>decide (x ∉ vR (idx h.Txns (t:Int)).Ops o.Key p)) o.Vals
     split
     ·simp
     ·split
      ·simp
      ·split
       ·split
        ·simp; omega
        ·simp
       ·split
        ·split
         ·dsimp only; omega
         ·simp
        ·simp
    ·have h8:o.Kind=8:=by rw [hoo] at h; unfold typ at h; omega
     dsimp only
     unfold before at hb ⊢
     rw [h8] at hb ⊢
     split at hb
     ·cases hb
     ·rename_i hq
      rw [if_neg hq]
      simp
    ·have h7:o.Kind=7:=by rw [hoo] at h; unfold typ at h; omega
     have hnd:=Gz (f3 h7)
     dsimp only
     unfold before
     rw [h7]
     split
     ·simp
     ·simp only [show ¬ ((7:Int) - 4=1) by omega,show ¬ ((7:Int) - 4=2) by omega,if_false]
      split
      ·split
       ·exact hnd.filter _
       ·simp
      ·rename_i h0
       exact absurd (show (7:Int) - 4=3 by omega) h0
   ·cases ha
end Go.Proofs.YtfpeabnehpclnaaGreatT
namespace Go.Proofs.YtfpeabnehpclnaaGreatT
open Go Go.Proofs Go.Proofs.YtfpeabnehpclnaaGreatE
set_option linter.unusedVariables false
set_option linter.unusedSimpArgs false
theorem Dr {α:Type} [Inhabited α] {l:List α} {k:Nat}:eQ l (k:Int) (l.length:Int)=l.drop k:=by
 unfold eQ
 simp
theorem Dt {l:List Int} {v:Int} (hl:l.length < 2 ^ 60):slices_Contains_int l v=some (decide (v ∈ l)):=by
 have h1:Tri (slices_Index_int l v) (fun r=>0≤r↔∃ j:Nat,j < l.length∧idx l (j:Int)=v):=by
  unfold slices_Index_int;refine qW l.length (fun j=>idx l (j:Int)≠v) ?_;intro k hk hJ;unfold qZ
  dsimp only
  repeat' (first | contradiction | with_reducible refine aA (fun hq => ?_) (fun hq => ?_) | with_reducible refine ai (by first | omega | grind [cu]) ?_ | with_reducible refine aB ?_ | with_reducible refine dh ?_ | with_reducible refine dG ?_ | with_reducible refine dH ?_ | with_reducible refine dI ?_ | with_reducible refine ag ?_)
  all_goals grind [Nxt,cu]
 refine dS.1 ?_;unfold slices_Contains_int;refine fq h1 (fun r hr=>ag ?_);have:(∃ j:Nat,j < l.length∧idx l (j:Int)=v)↔v ∈ l:=by
  rw [List.mem_iff_getElem]
  constructor
  ·rintro ⟨j,hj,e⟩; exact ⟨j,hj,by rw [← e,dE (n:=j) rfl hj]⟩
  ·rintro ⟨j,hj,e⟩; exact ⟨j,hj,by rw [← e,dE (n:=j) rfl hj]⟩
 rw [decide_eq_decide]
 exact hr.trans this
theorem Jh {s p:List Int} (hs:s.length < 2 ^ 60):kT s p=some (decide (p <+: s)):=by
 refine dS.1 ?_;unfold kT;refine aA (fun h => ?_) (fun h => ?_)
 ·refine ag ?_
  rw [eq_comm,decide_eq_false_iff_not]
  intro hp;have:=hp.length_le
  omega
 ·have hl:p.length≤s.length:=by omega
  refine ai (by omega) ?_;have hsv:cB (eQ s (0:Int) (p.length:Int)) p=some (decide (eQ s (0:Int) (p.length:Int)=p)):=FZ (by rw [qI hl,List.length_take]; omega);refine bB hsv (ag ?_)
  rw [decide_eq_decide,qI hl,List.prefix_iff_eq_take,eq_comm]
structure Parts (O:List Int) (W:Int→List Int):Prop where
 ne:∀ t ∈ O,0 < (W t).length
 ap:∀ t ∈ O,∀ u ∈ O,∀ v,v ∈ W t→v ∈ W u→t=u
 nd:∀ t ∈ O,(W t).Nodup
 ol:O.length≤32
 wl:∀ t ∈ O,(W t).length≤16
 pos:∀ t ∈ O,0≤t
theorem EZ {h:History} (hS:fJ h) {a:Ask} {t p:Nat} (ha:DX h a t p) (a0:typ (opAt h (t:Int) (p:Int)).Kind=2∨typ (opAt h (t:Int) (p:Int)).Kind=3) :
  Parts (kW h a h.Txns.length) (fun t=>gY h t a.Key):=by
 have a1:=hS.len;have hty:Je h a.Key (typ (opAt h (t:Int) (p:Int)).Kind):=fun t' p' ht' hp' hk=>Jd hS ht' hp' ha.tl ha.pl (hk.trans ha.e3);have hm:∀ u ∈ kW h a h.Txns.length,∃ n:Nat,u=(n:Int)∧n < h.Txns.length∧0 < (gY h u a.Key).length:=by
  intro u hu;obtain ⟨⟨h0,h1,_,h3⟩,_⟩:=uL.1 hu;exact ⟨u.toNat,by omega,by omega,h3⟩
 refine ⟨fun u hu => ?_,fun u hu v hv x h1 h2 => ?_,fun u hu => ?_,Nat.le_trans vU a1,fun u hu => ?_,fun u hu=>(uL.1 hu).1.1⟩
 ·obtain ⟨n,_,_,h3⟩:=hm u hu; exact h3
 ·obtain ⟨n,rfl,hn,_⟩:=hm u hu;obtain ⟨m,rfl,hm',_⟩:=hm v hv
  by_cases hne:n=m
  ·rw [hne]
  ·exact absurd h2 (Jg hS hty a0 hn hm' hne h1)
 ·obtain ⟨n,rfl,hn,_⟩:=hm u hu;exact Jf hS hty a0 hn
 ·obtain ⟨n,rfl,hn,_⟩:=hm u hu;exact Nat.le_trans DW (hS.txn n hn).ops.1
section
variable {O:List Int} {W:Int→List Int}
def Cy (O:List Int) (W:Int→List Int):List aX:=O.map (fun t=>⟨t,W t⟩)
theorem yz:(Cy O W).length=O.length:=List.length_map _
theorem AX {j:Nat} (hj:j < O.length):idx (Cy O W) (j:Int)=⟨idx O (j:Int),W (idx O (j:Int))⟩:=za hj
theorem gz {l:List Int} {j:Nat} (hj:j < l.length):idx l (j:Int) ∈ l:=by rw [dE (n:=j) rfl hj]; exact List.getElem_mem _
theorem ve {l:List Int} {t:Int} (h:t ∈ l):∃ j:Nat,j < l.length∧idx l (j:Int)=t:=by
 obtain ⟨j,hj,e⟩:=List.getElem_of_mem h;exact ⟨j,hj,(dE rfl hj).trans e⟩
theorem rH {p s:List Int} (hp:p <+: s) (h0:0 < p.length):idx p 0=idx s 0:=by
 obtain ⟨r,rfl⟩:=hp;exact (mI (j:=0) h0).symm
theorem Me (hP:Parts O W) {rest:List Int} (hr:0 < rest.length):Tri (bR (Cy O W) rest)
  (fun y=>(∃ j:Nat,j < O.length∧y=(j:Int)∧idx (W (idx O (j:Int))) 0=idx rest 0)∨(y = -1∧∀ t ∈ O,idx (W t) 0≠idx rest 0)):=by
 have hol:=hP.ol;unfold bR;refine bY (k0:=0) O.length (fun k s=>s=(k:Int)∧∀ j:Nat,j < k→idx (W (idx O (j:Int))) 0≠idx rest 0) (Nat.zero_le _) ⟨rfl,fun j h=>absurd h (Nat.not_lt_zero _)⟩ ?_;rintro k s hk ⟨rfl,hno⟩;have hw:w64 ((k:Int) + 1)=((k + 1:Nat):Int):=aZ (by omega);unfold gu uU
 dsimp only
 rw [hw,yz]
 refine aA (fun a1 => ?_) (fun a1 => ?_)
 ·have a0:k < O.length:=by omega
  have h0:=hP.ne _ (gz a0)
  rw [AX a0]
  refine ai (by omega) ?_
  simp only [kz _ (show 0≤(0:Int)∧(0:Int) < ((W (idx O (k:Int))).length:Int) by omega),kz _ (show 0≤(0:Int)∧(0:Int) < (rest.length:Int) by omega),Option.bind_some]
  refine aA (fun he => ?_) (fun he => ?_)
  ·exact aB (ag (.inl ⟨k,a0,rfl,he⟩))
  ·refine ag ⟨a0,rfl,fun j hj => ?_⟩;rcases Nat.lt_or_ge j k with h1 | h1
   ·exact hno j h1
   ·have:j=k:=by omega
    subst this;exact he
 ·have:k=O.length:=by omega
  subst this;refine aB (ag (.inr ⟨rfl,fun t ht => ?_⟩));obtain ⟨j,hj,rfl⟩:=ve ht;exact hno j hj
theorem uM (hP:Parts O W) {rest:List Int} {t u:Int} (ht:t ∈ O) (hu:u ∈ O) (h1:idx (W t) 0=idx rest 0) (h2:idx (W u) 0=idx rest 0):t=u:=by
 have e1:=hP.ne t ht;have e2:=hP.ne u hu;refine hP.ap t ht u hu (idx rest 0) ?_ ?_
 ·rw [← h1]; exact gz (j:=0) e1
 ·rw [← h2]; exact gz (j:=0) e2
end
end Go.Proofs.YtfpeabnehpclnaaGreatT
namespace Go.Proofs.YtfpeabnehpclnaaGreatT
open Go Go.Proofs Go.Proofs.YtfpeabnehpclnaaGreatE
set_option linter.unusedVariables false
set_option linter.unusedSimpArgs false
def Stp (O:List Int) (W:Int→List Int) (rest l:List Int):Option (Option Int)→Prop
 | none=>rest.length=0
 | some none=>0 < rest.length∧∀ t ∈ O,W t <+: rest→t ∈ l
 | some (some t)=>0 < rest.length∧t ∈ O∧W t <+: rest∧t ∉ l
section
variable {O:List Int} {W:Int→List Int} {rest l:List Int}
theorem Stp.det (hP:Parts O W) {x y:Option (Option Int)} (hx:Stp O W rest l x) (hy:Stp O W rest l y):x=y:=by
 match x,y,hx,hy with
 | none,none,_,_=>rfl
 | none,some none,h1,h2=>exact absurd (show rest.length=0 from h1) (by have:0 < rest.length:=h2.1; omega)
 | none,some (some t),h1,h2=>exact absurd (show rest.length=0 from h1) (by have:0 < rest.length:=h2.1; omega)
 | some none,none,h1,h2=>exact absurd (show rest.length=0 from h2) (by have:0 < rest.length:=h1.1; omega)
 | some (some t),none,h1,h2=>exact absurd (show rest.length=0 from h2) (by have:0 < rest.length:=h1.1; omega)
 | some none,some none,_,_=>rfl
 | some none,some (some t),h1,h2=>exact absurd (h1.2 t h2.2.1 h2.2.2.1) h2.2.2.2
 | some (some t),some none,h1,h2=>exact absurd (h2.2 t h1.2.1 h1.2.2.1) h1.2.2.2
 | some (some t),some (some u),h1,h2 =>
  rw [uM hP h1.2.1 h2.2.1 (rH h1.2.2.1 (hP.ne t h1.2.1)) (rH h2.2.2.1 (hP.ne u h2.2.1))]
def Rj (W:Int→List Int) (rest l:List Int):Option (Option Int)→(List Int×List Int) ⊕ (List Int×Bool)
 | none => .inr (l,true)
 | some none => .inr ([],false)
 | some (some t) => .inl (rest.drop (W t).length,l++[t])
def Rk (W:Int→List Int) (rest l:List Int):Option (Option Int)→(List Int×List Int) ⊕ (List Int×Bool)
 | none => .inr (l,true)
 | some none => .inr ([],false)
 | some (some t) => .inl (l++[t],rest.drop (W t).length)
theorem Mf (hP:Parts O W) (hr:rest.length≤64) (hl:l.length≤64):Tri (sV (Cy O W) (rest,l)) (fun x=>∃ o,Stp O W rest l o∧x=Rj W rest l o):=by
 have hol:=hP.ol;unfold sV
 dsimp only
 refine aA (fun h0 => ?_) (fun h0 => ?_)
 ·have h0:0 < rest.length:=by omega
  refine fq (Me hP h0) (fun y hy => ?_);unfold nG
  rw [yz]
  rcases hy with ⟨j,hj,rfl,hh⟩ | ⟨rfl,hno⟩
  ·have a0:=hP.wl _ (gz hj);refine aA (fun h1=>absurd h1 (by omega)) (fun _ => ?_);refine ai (by omega) ?_
   rw [AX hj]
   dsimp only
   generalize hg:idx O (j:Int)=t at *;have ht:t ∈ O:=hg ▸ gz hj;refine aA (fun h2 => ?_) (fun h2 => ?_)
   ·refine aB (ag ⟨some none,⟨h0,fun u hu hp => ?_⟩,rfl⟩);have:=uM hP hu ht (rH hp (hP.ne u hu)) hh;subst this;have:=hp.length_le
    omega
   ·have h2:(W t).length≤rest.length:=by omega
    refine ai (by omega) ?_;refine bB (BO (by omega)) ?_
    rw [qI h2]
    refine aA (fun h3 => ?_) (fun h3 => ?_)
    ·refine aB (ag ⟨some none,⟨h0,fun u hu hp => ?_⟩,rfl⟩);have:=uM hP hu ht (rH hp (hP.ne u hu)) hh;subst this;have:=List.prefix_iff_eq_take.1 hp;exact absurd this (by simpa using h3)
    ·have h3:W t=rest.take (W t).length:=by simpa using h3
     refine bB (Dt (by omega)) ?_;refine aA (fun h4 => ?_) (fun h4 => ?_)
     ·refine aB (ag ⟨some none,⟨h0,fun u hu hp => ?_⟩,rfl⟩);have:=uM hP hu ht (rH hp (hP.ne u hu)) hh;subst this;exact h4
     ·refine ai (by omega) (ai (by omega) (ai (by omega) ?_))
      rw [Dr]
      exact ag ⟨some (some t),⟨h0,ht,List.prefix_iff_eq_take.2 h3,h4⟩,rfl⟩
  ·refine aA (fun h1 => ?_) (fun h1=>absurd h1 (by omega));exact aB (ag ⟨some none,⟨h0,fun u hu hp=>absurd (rH hp (hP.ne u hu)) (hno u hu)⟩,rfl⟩)
 ·exact aB (ag ⟨none,by show rest.length=0; omega,rfl⟩)
theorem NY {h:History} {a:Ask} (hP:Parts O W) (hW:∀ t ∈ O,aQ h t a.Key=some (W t)) (hr:rest.length≤64) (hl:l.length≤64) :
  Tri (kw h a O (l,rest)) (fun x=>∃ o,Stp O W rest l o∧x=Rk W rest l o):=by
 have hol:=hP.ol;unfold kw
 dsimp only
 refine aA (fun h0 => ?_) (fun h0 => ?_)
 ·have h0:0 < rest.length:=by omega
  refine bY (k0:=0) O.length (fun k s=>s.2=(k:Int)∧((s.1 = -1∧∀ j:Nat,j < k → ¬ W (idx O (j:Int)) <+: rest)∨(s.1 ∈ O∧W s.1 <+: rest))) (Nat.zero_le _) ⟨rfl,.inl ⟨rfl,fun j h=>absurd h (Nat.not_lt_zero _)⟩⟩ ?_;rintro k ⟨x,y⟩ hk ⟨e,hx⟩
  dsimp only at e hx
  subst e;have hw:w64 ((k:Int) + 1)=((k + 1:Nat):Int):=aZ (by omega);unfold rz ni
  dsimp only
  rw [hw]
  refine aA (fun a2 => ?_) (fun a2 => ?_)
  ·have a0:k < O.length:=by omega
   refine ai (by omega) ?_;refine bB (hW _ (gz a0)) ?_;refine bB (Jh (by omega)) ?_;refine aA (fun h1 => ?_) (fun h1 => ?_)
   ·exact ag ⟨a0,rfl,.inr ⟨gz a0,h1⟩⟩
   ·refine ag ⟨a0,rfl,?_⟩;rcases hx with ⟨e,hx⟩ | hx
    ·refine .inl ⟨e,fun j hj => ?_⟩;rcases Nat.lt_or_ge j k with h2 | h2
     ·exact hx j h2
     ·have:j=k:=by omega
      subst this;exact h1
    ·exact .inr hx
  ·have:k=O.length:=by omega
   subst this;rcases hx with ⟨rfl,hx⟩ | ⟨hx,hp⟩
   ·refine aA (fun _ => ?_) (fun h1=>absurd h1 (by omega));refine aB (aB (ag ⟨some none,⟨h0,fun t ht hp => ?_⟩,rfl⟩));obtain ⟨j,hj,rfl⟩:=ve ht;exact absurd hp (hx j hj)
   ·have h2:=hP.pos x hx;have h3:=hp.length_le;refine aA (fun h1=>absurd h1 (by omega)) (fun _ => ?_);refine bY (k0:=0) l.length (fun k s=>s=(k:Int)∧∀ j:Nat,j < k→idx l (j:Int)≠x) (Nat.zero_le _) ⟨rfl,fun j h=>absurd h (Nat.not_lt_zero _)⟩ ?_;rintro m s hm ⟨rfl,hno⟩;have a4:w64 ((m:Int) + 1)=((m + 1:Nat):Int):=aZ (by omega);unfold ry
    dsimp only
    rw [a4]
    refine aA (fun a3 => ?_) (fun a3 => ?_)
    ·have a1:m < l.length:=by omega
     refine ai (by omega) ?_;refine aA (fun h4 => ?_) (fun h4 => ?_)
     ·refine aB (aB (aB (ag ⟨some none,⟨h0,fun u hu hq => ?_⟩,rfl⟩)))
      rw [uM hP hu hx (rH hq (hP.ne u hu)) (rH hp (hP.ne x hx)),← h4]
      exact gz a1
     ·refine ag ⟨a1,rfl,fun j hj => ?_⟩;rcases Nat.lt_or_ge j m with h5 | h5
      ·exact hno j h5
      ·have:j=m:=by omega
       subst this;exact h4
    ·have:m=l.length:=by omega
     subst this;refine ai (by omega) ?_;refine bB (hW x hx) ?_;refine ai (by omega) ?_
     rw [Dr]
     refine aB (aB (ag ⟨some (some x),⟨h0,hx,hp,fun hmem => ?_⟩,rfl⟩));obtain ⟨j,hj,e⟩:=ve hmem;exact hno j hj e
 ·exact aB (ag ⟨none,by show rest.length=0; omega,rfl⟩)
end
end Go.Proofs.YtfpeabnehpclnaaGreatT
namespace Go.Proofs.YtfpeabnehpclnaaGreatT
open Go Go.Proofs Go.Proofs.YtfpeabnehpclnaaGreatE
set_option linter.unusedVariables false
set_option linter.unusedSimpArgs false
def Li (O:List Int) (W:Int→List Int) (base m:List Int):Prop:=(∀ t ∈ m,t ∈ O)∧m.Nodup∧base=m.flatMap W
def Am (O:List Int) (W:Int→List Int) (base:List Int) (r:List Int×Bool):Prop:=(r.2=true∧Li O W base r.1)∨(r=([],false)∧∀ m,¬ Li O W base m)
section
variable {O:List Int} {W:Int→List Int} {rest l:List Int}
theorem Mg (hP:Parts O W) {m:List Int} (hm:∀ t ∈ m,t ∈ O) (hr:0 < rest.length) (e:rest=m.flatMap W):∃ u m',m=u::m'∧u ∈ O∧W u <+: rest∧idx (W u) 0=idx rest 0:=by
 cases m with
 | nil=>rw [e] at hr; simp at hr
 | cons u m' =>
  have hu:=hm u (by simp);have hp:W u <+: rest:=⟨m'.flatMap W,by rw [e,List.flatMap_cons]⟩
  exact ⟨u,m',rfl,hu,hp,rH hp (hP.ne u hu)⟩
theorem Du (hP:Parts O W) {h:History} {a:Ask} (hW:∀ t ∈ O,aQ h t a.Key=some (W t)) (ho:bf h a=some O) (hb:a.Base.length≤64) :
  ∃ r,fA a.Base (Cy O W)=some r∧bI h a=some r∧Am O W a.Base r:=by
 have key:Tri (fA a.Base (Cy O W)) (fun r=>Tri (iter (kw h a O) ([],a.Base)) (fun r'=>r=r'∧Am O W a.Base r)):=by
  unfold fA;refine DF (k0:=0) a.Base.length (fun (k:Nat) (s t:List Int×List Int)=>s.1=t.2∧s.2=t.1∧s.1.length + k≤a.Base.length∧s.2.length≤k∧(∀ t ∈ s.2,t ∈ O)∧s.2.Nodup∧a.Base=s.2.flatMap W++s.1∧∀ m,Li O W a.Base m→∃ m',m=s.2++m')
   (Nat.zero_le _) ⟨rfl,rfl,Nat.le_refl _,Nat.le_refl _,fun t h=>(nomatch h),List.nodup_nil,by simp,fun m _=>⟨m,rfl⟩⟩ ?_
  rintro k ⟨rest,l⟩ ⟨l',rest'⟩ hk ⟨e1,e2,i1,i2,i3,i4,i5,i6⟩
  dsimp only at e1 e2 i1 i2 i3 i4 i5 i6
  subst e1 e2;refine fT (Mf hP (by omega) (by omega)) ?_;rintro x ⟨o,hs,rfl⟩;refine fT (NY hP hW (by omega) (by omega)) ?_;rintro y ⟨o',hs',rfl⟩;obtain rfl:=Stp.det hP hs hs';have nxt:∀ m,Li O W a.Base m→0 < rest.length→∃ u m',m=l++u::m'∧u ∈ O∧W u <+: rest∧idx (W u) 0=idx rest 0:=by
   intro m hm hr;obtain ⟨m',rfl⟩:=i6 m hm;obtain ⟨h1,h2,h3⟩:=hm
   rw [i5,List.flatMap_append,List.append_cancel_left_eq] at h3
   obtain ⟨u,m2,rfl,q1,q2,q3⟩:=Mg hP (fun t ht=>h1 t (List.mem_append_right _ ht)) hr h3;exact ⟨u,m2,rfl,q1,q2,q3⟩
  match o,hs with
  | none,hs =>
   refine ⟨rfl,.inl ⟨rfl,i3,i4,?_⟩⟩
   rw [i5,List.length_eq_zero_iff.1 (show rest.length=0 from hs),List.append_nil]
  | some none,hs =>
   refine ⟨rfl,.inr ⟨rfl,fun m hm => ?_⟩⟩;obtain ⟨u,m',rfl,q1,q2,q3⟩:=nxt m hm hs.1;have:=(List.nodup_append.1 hm.2.1).2.2;exact this u (hs.2 u q1 q2) u (by simp) rfl
  | some (some t),⟨s1,s2,s3,s4⟩ =>
   have h1:=hP.ne t s2;have h2:=s3.length_le;refine ⟨by omega,rfl,rfl,by rw [List.length_drop]; omega,by rw [List.length_append,List.length_singleton]; omega,fun u hu => ?_,?_,?_,fun m hm => ?_⟩
   ·rcases List.mem_append.1 hu with hu | hu
    ·exact i3 u hu
    ·rw [List.mem_singleton.1 hu]; exact s2
   ·rw [List.nodup_append]
    refine ⟨i4,List.nodup_cons.2 ⟨by simp,List.nodup_nil⟩,fun u hu v hv => ?_⟩
    rw [List.mem_singleton.1 hv]
    intro e;exact s4 (e ▸ hu)
   ·dsimp only
    rw [List.flatMap_append,List.append_assoc,i5]
    congr 1
    rw [List.flatMap_cons,List.flatMap_nil,List.append_nil]
    obtain ⟨z,hz⟩:=s3
    rw [← hz,List.drop_left]
   ·obtain ⟨u,m',rfl,q1,q2,q3⟩:=nxt m hm s1;have:=uM hP q1 s2 q3 (rH s3 h1);subst this;exact ⟨m',by simp⟩
 obtain ⟨r,hr,r',hr',rfl,ht⟩:=key;refine ⟨r,hr,?_,ht⟩;unfold bI
 rw [ho]
 exact hr'
end
end Go.Proofs.YtfpeabnehpclnaaGreatT
namespace Go.Proofs.YtfpeabnehpclnaaGreatT
open Go Go.Proofs Go.Proofs.YtfpeabnehpclnaaGreatE
set_option linter.unusedVariables false
set_option linter.unusedSimpArgs false
theorem vg {l:List Int}:∀ {m:List Int},l.Nodup→(∀ x ∈ l,x ∈ m)→l.length≤m.length:=by
 induction l with
 | nil=>intro m _ _; simp
 | cons x l ih =>
  intro m hn hs;obtain ⟨h1,h2⟩:=List.nodup_cons.1 hn;have hx:=hs x (by simp);have:=ih (m:=m.erase x) h2 (fun y hy=>(List.mem_erase_of_ne (fun (e:y=x)=>h1 (e ▸ hy))).2 (hs y (by simp [hy])))
  rw [List.length_erase_of_mem hx] at this
  have:0 < m.length:=List.length_pos_of_mem hx
  simp
  omega
def keysOf (m:List (Int×Unit)):List Int:=m.map (·.1)
theorem GA {m:List (Int×Unit)} {x:Int}:qJ m x=true↔x ∈ keysOf m:=by
 unfold qJ keysOf
 simp [List.any_eq_true]
theorem Dv {x:Int}:∀ {m:List (Int×Unit)},keysOf (Ep m x)=(keysOf m).erase x
 | []=>rfl
 | p::m=>by
  unfold Ep keysOf
  rw [List.map_cons,List.erase_cons]
  by_cases e:p.1=x
  ·simp [e]
  ·rw [if_neg e,if_neg (by simpa using e),List.map_cons]
   congr 1
   exact Dv
theorem GD {x:Int}:∀ {m:List (Int×Unit)},x ∉ keysOf m→keysOf (iQ m x ())=keysOf m++[x]
 | [],_=>rfl
 | p::m,h=>by
  have h1:¬ p.1=x:=fun e=>h (by simp [keysOf,e]);have h2:x ∉ keysOf m:=fun h'=>h (by simp only [keysOf,List.map_cons,List.mem_cons]; exact .inr h');unfold iQ
  rw [if_neg h1]
  show p.1::keysOf (iQ m x ())=p.1::keysOf m++[x]
  rw [GD h2]
  rfl
def cnt (base w:List Int):Nat:=(w.filter (fun v=>decide (v ∈ base))).length
theorem Fa {base w:List Int}:cnt base w≤w.length:=List.length_filter_le _ _
theorem Ji {base w:List Int} {i:Nat} (hi:i < w.length):cnt base (w.take (i + 1))=if idx w (i:Int) ∈ base then cnt base (w.take i) + 1 else cnt base (w.take i):=by
 unfold cnt
 rw [List.take_succ_eq_append_getElem hi,List.filter_append,List.length_append,(dE (n:=i) rfl hi:idx w (i:Int)=w[i])]
 by_cases h:w[i] ∈ base <;> simp [h]
def Whole (O:List Int) (W:Int→List Int) (base:List Int):Prop:=(∀ t ∈ O,cnt base (W t)=0∨cnt base (W t)=(W t).length)∧∀ v ∈ base,∃ t ∈ O,v ∈ W t
def yA (O:List Int) (W:Int→List Int) (base:List Int):List Int:=O.filter (fun t=>decide (0 < cnt base (W t)))
def rT (O:List Int) (W:Int→List Int) (base:List Int) (r:List Int×Bool):Prop:=(r=(yA O W base,true)∧Whole O W base)∨(r=([],false) ∧ ¬ Whole O W base)
theorem rT.det {O:List Int} {W:Int→List Int} {base:List Int} {r s:List Int×Bool} (h1:rT O W base r) (h2:rT O W base s):r=s:=by
 rcases h1 with ⟨rfl,h1⟩ | ⟨rfl,h1⟩ <;> rcases h2 with ⟨rfl,h2⟩ | ⟨rfl,h2⟩
 ·rfl
 ·exact absurd h1 h2
 ·exact absurd h2 h1
 ·rfl
section
variable {O:List Int} {W:Int→List Int} {base:List Int}
theorem Fb {k:Nat} (hk:k < O.length):yA (O.take (k + 1)) W base=if 0 < cnt base (W (idx O (k:Int))) then yA (O.take k) W base++[idx O (k:Int)] else yA (O.take k) W base:=by
 unfold yA
 rw [List.take_succ_eq_append_getElem hk,List.filter_append,(dE (n:=k) rfl hk:idx O (k:Int)=O[k])]
 by_cases h:0 < cnt base (W O[k]) <;> simp [h]
theorem GG {k:Nat}:(yA (O.take k) W base).length≤O.length:=Nat.le_trans (List.length_filter_le _ _) (by rw [List.length_take]; omega)
theorem Hw {i j:Nat} (hn:O.Nodup) (hi:i < O.length) (hj:j < O.length) (e:idx O (i:Int)=idx O (j:Int)):i=j:=by
 rw [dE (n:=i) rfl hi,dE (n:=j) rfl hj] at e
 have hp:=List.pairwise_iff_getElem.1 hn;rcases Nat.lt_trichotomy i j with h | h | h
 ·exact absurd e (hp i j hi hj h)
 ·exact h
 ·exact absurd e.symm (hp j i hj hi h)
theorem NZ (hP:Parts O W) (hO:O.Nodup) (hb:base.length≤64) (hn:base.Nodup):Tri (di base (Cy O W)) (rT O W base):=by
 have hol:=hP.ol;unfold di;refine bY (k0:=0) base.length (fun k s=>s.2=(k:Int)∧keysOf s.1=base.take k) (Nat.zero_le _) ⟨rfl,rfl⟩ ?_;rintro k ⟨m,x⟩ hk ⟨e,hm⟩
 dsimp only at e hm
 subst e;have hw:w64 ((k:Int) + 1)=((k + 1:Nat):Int):=aZ (by omega);unfold xG
 dsimp only
 rw [hw]
 refine aA (fun a2 => ?_) (fun a2 => ?_)
 ·have a0:k < base.length:=by omega
  refine ai (by omega) (ag ⟨a0,rfl,?_⟩);have hni:idx base (k:Int) ∉ keysOf m:=by
   rw [hm]
   intro h;obtain ⟨i,hi,e⟩:=List.mem_take_iff_getElem.1 h;have:=Hw (i:=i) (j:=k) hn (by omega) a0 ((dE rfl (by omega)).trans e)
   omega
  dsimp only
  rw [GD hni,hm,List.take_succ_eq_append_getElem a0,(dE (n:=k) rfl a0:idx base (k:Int)=base[k])]
 ·have:k=base.length:=by omega
  subst this
  rw [List.take_length] at hm
  refine bY (k0:=0) O.length (fun k s=>s.1=yA (O.take k) W base∧(keysOf s.2.1).Nodup∧(∀ v,v ∈ keysOf s.2.1↔v ∈ base∧∀ j:Nat,j < k→v ∉ W (idx O (j:Int)))∧s.2.2=(k:Int)∧∀ j:Nat,j < k→cnt base (W (idx O (j:Int)))=0∨cnt base (W (idx O (j:Int)))=(W (idx O (j:Int))).length)
   (Nat.zero_le _) ⟨by simp [yA],by rw [hm]; exact hn,fun v=>by rw [hm]; exact ⟨fun h=>⟨h,fun j h=>absurd h (Nat.not_lt_zero _)⟩,fun h=>h.1⟩,rfl,fun j h=>absurd h (Nat.not_lt_zero _)⟩ ?_
  rintro k ⟨l,m,x⟩ hk ⟨e1,e2,e3,e4,e5⟩
  dsimp only at e1 e2 e3 e4 e5
  subst e1 e4;have hw:w64 ((k:Int) + 1)=((k + 1:Nat):Int):=aZ (by omega);have hsl:=GG (O:=O) (W:=W) (base:=base) (k:=k);unfold xE
  dsimp only
  rw [yz]
  refine aA (fun a2 => ?_) (fun a2 => ?_)
  ·have a0:k < O.length:=by omega
   refine ai (by omega) ?_;have ht:=gz a0;have hss:=Fb (W:=W) (base:=base) a0;generalize hg:idx O (k:Int)=t at ht hss;have hwl:=hP.wl t ht;have hwn:=hP.nd t ht;refine bY (k0:=0) (W t).length (fun i s=>(keysOf s.1).Nodup∧(∀ v,v ∈ keysOf s.1↔(v ∈ base∧∀ j:Nat,j < k→v ∉ W (idx O (j:Int)))∧v ∉ (W t).take i)∧s.2.1=(cnt base ((W t).take i):Int)∧s.2.2=(i:Int))
    (Nat.zero_le _) ⟨e2,fun v=>⟨fun h=>⟨(e3 v).1 h,by simp⟩,fun h=>(e3 v).2 h.1⟩,by simp [cnt],rfl⟩ ?_
   rintro i ⟨m2,c,x⟩ hi ⟨f1,f2,f3,f4⟩
   dsimp only at f1 f2 f3 f4
   subst f3 f4;have hcl:cnt base ((W t).take i)≤i:=Nat.le_trans Fa (by rw [List.length_take]; omega);have a9:w64 ((i:Int) + 1)=((i + 1:Nat):Int):=aZ (by omega);have a8:w64 ((cnt base ((W t).take i):Int) + 1)=((cnt base ((W t).take i) + 1:Nat):Int):=aZ (by omega);unfold xD uW uX uV
   dsimp only
   rw [a9,a8,AX a0,hg]
   dsimp only
   refine aA (fun a7 => ?_) (fun a7 => ?_)
   ·have a1:i < (W t).length:=by omega
    refine ai (by omega) ?_;have hct:=Ji (base:=base) a1;have hmem:∀ v,v ∈ (W t).take (i + 1)↔v ∈ (W t).take i∨v=idx (W t) (i:Int):=by
     intro v
     rw [List.take_succ_eq_append_getElem a1,(dE (n:=i) rfl a1:idx (W t) (i:Int)=(W t)[i]),List.mem_append,List.mem_singleton]
    have hni:idx (W t) (i:Int) ∉ (W t).take i:=by
     intro h;obtain ⟨j,hj,e⟩:=List.mem_take_iff_getElem.1 h;have:=Hw (i:=j) (j:=i) hwn (by omega) a1 ((dE rfl (by omega)).trans e)
     omega
    have hout:∀ j:Nat,j < k→idx (W t) (i:Int) ∉ W (idx O (j:Int)):=by
     intro j hj h;have:=hP.ap _ (gz (show j < O.length by omega)) t ht _ h (gz a1)
     rw [← hg] at this
     have:=Hw hO (by omega) a0 this
     omega
    have a3:idx (W t) (i:Int) ∈ keysOf m2↔idx (W t) (i:Int) ∈ base:=by
     rw [f2]
     exact ⟨fun h=>h.1.1,fun h=>⟨⟨h,hout⟩,hni⟩⟩
    cases hmh:qJ m2 (idx (W t) (i:Int))
    ·have hnb:idx (W t) (i:Int) ∉ base:=fun h=>by rw [GA.2 (a3.2 h)] at hmh; cases hmh
     rw [cond_false]
     refine ag ⟨a1,f1,fun v => ?_,?_,rfl⟩
     ·dsimp only
      rw [f2,hmem]
      constructor
      ·rintro ⟨h1,h2⟩;refine ⟨h1,?_⟩;rintro (h3 | h3)
       ·exact h2 h3
       ·subst h3;exact hnb h1.1
      ·rintro ⟨h1,h2⟩;exact ⟨h1,fun h=>h2 (.inl h)⟩
     ·dsimp only
      rw [hct,if_neg hnb]
    ·have hib:idx (W t) (i:Int) ∈ base:=a3.1 (GA.1 hmh)
     rw [cond_true]
     refine ag ⟨a1,?_,fun v => ?_,?_,rfl⟩
     ·dsimp only
      rw [Dv]
      exact f1.erase _
     ·dsimp only
      rw [Dv,List.Nodup.mem_erase_iff f1,f2,hmem]
      constructor
      ·rintro ⟨h1,h2,h3⟩;exact ⟨h2,fun h=>h.elim h3 h1⟩
      ·rintro ⟨h1,h2⟩;exact ⟨fun h=>h2 (.inr h),h1,fun h=>h2 (.inl h)⟩
     ·dsimp only
      rw [hct,if_pos hib]
   ·have:i=(W t).length:=by omega
    subst this
    rw [List.take_length] at f2 ⊢
    have hcw:cnt base (W t)≤(W t).length:=Fa;have fin:∀ (hc:cnt base (W t)=0∨cnt base (W t)=(W t).length) (l':List Int),l'=yA (O.take (k + 1)) W base→Upm O.length k (fun k s=>s.1=yA (O.take k) W base∧(keysOf s.2.1).Nodup∧(∀ v,v ∈ keysOf s.2.1↔v ∈ base∧∀ j:Nat,j < k→v ∉ W (idx O (j:Int)))∧s.2.2=(k:Int)∧∀ j:Nat,j < k→cnt base (W (idx O (j:Int)))=0∨cnt base (W (idx O (j:Int)))=(W (idx O (j:Int))).length) (rT O W base) (.inl (l',m2,((k + 1:Nat):Int))):=by
     intro hc l' hl';refine ⟨a0,hl',f1,fun v => ?_,rfl,fun j hj => ?_⟩
     ·dsimp only
      rw [f2]
      constructor
      ·rintro ⟨⟨h1,h2⟩,h3⟩;refine ⟨h1,fun j hj => ?_⟩;rcases Nat.lt_or_ge j k with h4 | h4
       ·exact h2 j h4
       ·have:j=k:=by omega
        subst this
        rw [hg]; exact h3
      ·rintro ⟨h1,h2⟩;exact ⟨⟨h1,fun j hj=>h2 j (by omega)⟩,by have:=h2 k (by omega); rwa [hg] at this⟩
     ·rcases Nat.lt_or_ge j k with h4 | h4
      ·exact e5 j h4
      ·have:j=k:=by omega
       subst this
       rw [hg]; exact hc
    have bad:¬ (cnt base (W t)=0∨cnt base (W t)=(W t).length)→rT O W base ([],false):=fun hc => .inr ⟨rfl,fun hW=>hc (hW.1 t ht)⟩
    rw [hw]
    refine aA (fun h1 => ?_) (fun h1 => ?_)
    ·refine aA (fun h2 => ?_) (fun h2 => ?_)
     ·exact aB (aB (aB (ag (bad (by omega)))))
     ·refine aA (fun h3 => ?_) (fun h3 => ?_)
      ·refine ai (by omega) ?_;refine aB (ag (fin (by omega) _ ?_))
       rw [hss,if_pos (by omega)]
      ·exact absurd h1 h3
    ·rw [cond_false]
     refine aA (fun h3=>absurd h3 h1) (fun h3 => ?_);refine aB (ag (fin (by omega) _ ?_))
     rw [hss,if_neg (by omega)]
  ·have:k=O.length:=by omega
   subst this
   rw [List.take_length]
   have hml:0 < m.length↔∃ v,v ∈ keysOf m:=by
    unfold keysOf;cases m with
    | nil=>simp
    | cons p m=>exact ⟨fun _=>⟨p.1,by simp⟩,fun _=>by simp⟩
   have hall:(∀ t ∈ O,cnt base (W t)=0∨cnt base (W t)=(W t).length):=by
    intro t ht;obtain ⟨j,hj,rfl⟩:=ve ht;exact e5 j hj
   refine aA (fun h1 => ?_) (fun h1 => ?_)
   ·refine aB (aB (ag (.inr ⟨rfl,fun hW => ?_⟩)));obtain ⟨v,hv⟩:=hml.1 (by omega);obtain ⟨a6,a5⟩:=(e3 v).1 hv;obtain ⟨t,ht,a4⟩:=hW.2 v a6;obtain ⟨j,hj,rfl⟩:=ve ht;exact a5 j hj a4
   ·refine aB (aB (ag (.inl ⟨rfl,hall,fun v hv => ?_⟩)))
    apply Classical.byContradiction
    intro hno;refine h1 ?_;have:=hml.2 ⟨v,(e3 v).2 ⟨hv,fun j hj h=>hno ⟨_,gz hj,h⟩⟩⟩
    omega
end
end Go.Proofs.YtfpeabnehpclnaaGreatT
namespace Go.Proofs.YtfpeabnehpclnaaGreatT
open Go Go.Proofs Go.Proofs.YtfpeabnehpclnaaGreatE
set_option linter.unusedVariables false
set_option linter.unusedSimpArgs false
theorem Kj {l:List Int} {v:Int} (hl:l.length < 2 ^ 60):gp l v=some (decide (v ∈ l)):=by
 refine dS.1 ?_;unfold gp;refine bY (k0:=0) l.length (fun k s=>s=(k:Int)∧∀ j:Nat,j < k→idx l (j:Int)≠v) (Nat.zero_le _) ⟨rfl,fun j h=>absurd h (Nat.not_lt_zero _)⟩ ?_;rintro k s hk ⟨rfl,hno⟩;have hw:w64 ((k:Int) + 1)=((k + 1:Nat):Int):=aZ (by omega);unfold qE
 dsimp only
 rw [hw]
 refine aA (fun a1 => ?_) (fun a1 => ?_)
 ·have a0:k < l.length:=by omega
  refine ai (by omega) ?_;refine aA (fun h1 => ?_) (fun h1 => ?_)
  ·refine aB (ag ?_)
   show true=decide (v ∈ l)
   rw [eq_comm,decide_eq_true_iff,← h1]
   exact gz a0
  ·refine ag ⟨a0,rfl,fun j hj => ?_⟩;rcases Nat.lt_or_ge j k with h2 | h2
   ·exact hno j h2
   ·have:j=k:=by omega
    subst this;exact h1
 ·have:k=l.length:=by omega
  subst this;refine aB (ag ?_)
  show false=decide (v ∈ l)
  rw [eq_comm,decide_eq_false_iff_not]
  intro h;obtain ⟨j,hj,e⟩:=ve h;exact hno j hj e
section
variable {O:List Int} {W:Int→List Int} {base:List Int}
def hits (O:List Int) (W:Int→List Int) (base:List Int):List Int:=O.flatMap (fun t=>(W t).filter (fun v=>decide (v ∈ base)))
theorem GH {k:Nat} (hk:k < O.length):(hits (O.take (k + 1)) W base).length=(hits (O.take k) W base).length + cnt base (W (idx O (k:Int))):=by
 unfold hits cnt
 rw [List.take_succ_eq_append_getElem hk,List.flatMap_append,List.length_append,(dE (n:=k) rfl hk:idx O (k:Int)=O[k])]
 simp
theorem Kk (hP:Parts O W):∀ k,k≤O.length→(hits (O.take k) W base).length≤16 * k:=by
 intro k
 induction k with
 | zero=>intro _; simp [hits]
 | succ k ih =>
  intro hk
  rw [GH (by omega)]
  have:=ih (by omega);have h1:=hP.wl _ (gz (show k < O.length by omega));have h2:cnt base (W (idx O (k:Int)))≤_:=Fa
  omega
theorem Fe {v:Int}:v ∈ hits O W base↔∃ t ∈ O,v ∈ W t∧v ∈ base:=by
 unfold hits
 simp only [List.mem_flatMap,List.mem_filter,decide_eq_true_eq]
theorem Kl (hP:Parts O W) (hO:O.Nodup):(hits O W base).Nodup:=by
 unfold hits List.Nodup
 rw [List.pairwise_flatMap]
 refine ⟨fun t ht=>(hP.nd t ht).filter _,List.Pairwise.imp_of_mem (fun {t u} ht hu hne => ?_) hO⟩;intro x hx y hy e;subst e
 rw [List.mem_filter] at hx hy
 exact hne (hP.ap t ht u hu x hx.1 hy.1)
theorem Mh (hP:Parts O W) (hO:O.Nodup) (hn:base.Nodup):(hits O W base).length=base.length↔∀ v ∈ base,∃ t ∈ O,v ∈ W t:=by
 have hN:=Kl (base:=base) hP hO;have hS:∀ v ∈ hits O W base,v ∈ base:=fun v hv=>by obtain ⟨_,_,_,h⟩:=Fe.1 hv; exact h
 constructor
 ·intro e v hv
  apply Classical.byContradiction
  intro hno;have h1:v ∉ hits O W base:=fun h=>by
   obtain ⟨t,ht,h2,_⟩:=Fe.1 h;exact hno ⟨t,ht,h2⟩
  have:=vg (l:=v::hits O W base) (m:=base) (List.nodup_cons.2 ⟨h1,hN⟩) (fun x hx=>by
   rcases List.mem_cons.1 hx with rfl | hx
   ·exact hv
   ·exact hS x hx)
  simp at this
  omega
 ·intro hc;refine Nat.le_antisymm (vg hN hS) (vg hn (fun v hv => ?_));obtain ⟨t,ht,h⟩:=hc v hv;exact Fe.2 ⟨t,ht,h,hv⟩
theorem PL {h:History} {a:Ask} (hP:Parts O W) (hO:O.Nodup) (hW:∀ t ∈ O,aQ h t a.Key=some (W t)) (ho:bf h a=some O) (hb:a.Base.length≤64) (hn:a.Base.Nodup) :
  Tri (bD h a) (rT O W a.Base):=by
 have hol:=hP.ol;unfold bD;refine bB ho ?_;refine bY (k0:=0) O.length (fun k s=>s.1=yA (O.take k) W a.Base∧s.2.1=((hits (O.take k) W a.Base).length:Int)∧s.2.2=(k:Int)∧∀ j:Nat,j < k→cnt a.Base (W (idx O (j:Int)))=0∨cnt a.Base (W (idx O (j:Int)))=(W (idx O (j:Int))).length)
  (Nat.zero_le _) ⟨by simp [yA],by simp [hits],rfl,fun j h=>absurd h (Nat.not_lt_zero _)⟩ ?_
 rintro k ⟨l,n,x⟩ hk ⟨e1,e2,e4,e5⟩
 dsimp only at e1 e2 e4 e5
 subst e1 e2 e4;have hw:w64 ((k:Int) + 1)=((k + 1:Nat):Int):=aZ (by omega);have hsl:=GG (O:=O) (W:=W) (base:=a.Base) (k:=k);have hsm:=Kk (base:=a.Base) hP k hk;unfold sj
 dsimp only
 refine aA (fun a3 => ?_) (fun a3 => ?_)
 ·have a0:k < O.length:=by omega
  refine ai (by omega) ?_;have ht:=gz a0;have hss:=Fb (W:=W) (base:=a.Base) a0;have hhs:=GH (W:=W) (base:=a.Base) a0;refine bB (hW _ ht) ?_;generalize hg:idx O (k:Int)=t at ht hss hhs;have hwl:=hP.wl t ht;refine bY (k0:=0) (W t).length (fun i s=>s.1=(cnt a.Base ((W t).take i):Int)∧s.2=(i:Int)) (Nat.zero_le _) ⟨by simp [cnt],rfl⟩ ?_
  rintro i ⟨c,x⟩ hi ⟨f3,f4⟩
  dsimp only at f3 f4
  subst f3 f4;have hcl:cnt a.Base ((W t).take i)≤i:=Nat.le_trans Fa (by rw [List.length_take]; omega);have a6:w64 ((i:Int) + 1)=((i + 1:Nat):Int):=aZ (by omega);have a5:w64 ((cnt a.Base ((W t).take i):Int) + 1)=((cnt a.Base ((W t).take i) + 1:Nat):Int):=aZ (by omega);unfold si nU nV nT
  dsimp only
  rw [a6,a5,hg]
  refine aA (fun a4 => ?_) (fun a4 => ?_)
  ·have a1:i < (W t).length:=by omega
   refine ai (by omega) ?_;have hct:=Ji (base:=a.Base) a1;refine bB (Kj (by omega)) ?_;refine aA (fun h1 => ?_) (fun h1 => ?_)
   ·refine ag ⟨a1,?_,rfl⟩
    dsimp only
    rw [hct,if_pos h1]
   ·refine ag ⟨a1,?_,rfl⟩
    dsimp only
    rw [hct,if_neg h1]
  ·have:i=(W t).length:=by omega
   subst this
   rw [List.take_length]
   have hcw:cnt a.Base (W t)≤(W t).length:=Fa;have a2:w64 (((hits (O.take k) W a.Base).length:Int) + (cnt a.Base (W t):Int))=(((hits (O.take k) W a.Base).length + cnt a.Base (W t):Nat):Int):=by rw [qH (by omega) (by omega)]; omega
   have bad:¬ (cnt a.Base (W t)=0∨cnt a.Base (W t)=(W t).length)→rT O W a.Base ([],false):=fun hc => .inr ⟨rfl,fun hW=>hc (hW.1 t ht)⟩;have five:(cnt a.Base (W t)=0∨cnt a.Base (W t)=(W t).length)→∀ j:Nat,j < k + 1→cnt a.Base (W (idx O (j:Int)))=0∨cnt a.Base (W (idx O (j:Int)))=(W (idx O (j:Int))).length:=by
    intro hc j hj;rcases Nat.lt_or_ge j k with h4 | h4
    ·exact e5 j h4
    ·have:j=k:=by omega
     subst this
     rw [hg]; exact hc
   rw [hw,a2]
   refine aA (fun h1 => ?_) (fun h1 => ?_)
   ·refine aA (fun h2 => ?_) (fun h2 => ?_)
    ·exact aB (aB (ag (bad (by omega))))
    ·refine aA (fun h3 => ?_) (fun h3=>absurd h1 h3);refine ai (by omega) ?_;refine aB (ag ⟨a0,?_,?_,rfl,five (by omega)⟩)
     ·dsimp only
      rw [hss,if_pos (by omega)]
     ·dsimp only
      rw [hhs]
   ·rw [cond_false]
    refine aA (fun h3=>absurd h3 h1) (fun h3 => ?_);refine aB (ag ⟨a0,?_,?_,rfl,five (by omega)⟩)
    ·dsimp only
     rw [hss,if_neg (by omega)]
    ·dsimp only
     rw [hhs]
     omega
 ·have:k=O.length:=by omega
  subst this
  rw [List.take_length]
  have hall:(∀ t ∈ O,cnt a.Base (W t)=0∨cnt a.Base (W t)=(W t).length):=by
   intro t ht;obtain ⟨j,hj,rfl⟩:=ve ht;exact e5 j hj
  have hfull:=Mh hP hO hn;refine aA (fun h1 => ?_) (fun h1 => ?_)
  ·refine aB (ag (.inr ⟨rfl,fun hW => ?_⟩));have:=hfull.2 hW.2
   omega
  ·exact aB (ag (.inl ⟨rfl,hall,hfull.1 (by omega)⟩))
theorem Ff {h:History} {a:Ask} (hP:Parts O W) (hO:O.Nodup) (hW:∀ t ∈ O,aQ h t a.Key=some (W t)) (ho:bf h a=some O) (hb:a.Base.length≤64) (hn:a.Base.Nodup) :
  ∃ r,di a.Base (Cy O W)=some r∧bD h a=some r∧rT O W a.Base r:=by
 obtain ⟨r,hr,h1⟩:=NZ hP hO hb hn;obtain ⟨s,hs,h2⟩:=PL hP hO hW ho hb hn;obtain rfl:=h1.det h2;exact ⟨r,hr,hs,h1⟩
end
theorem Gb {h:History} {key:Int} {k:Nat}:(fG h key k).Nodup:=by
 unfold fG List.Nodup
 rw [List.pairwise_map]
 refine ((List.nodup_range (n:=k)).filter _).imp (fun {a b} hne e=>hne (by omega))
theorem vV {h:History} {a:Ask} {k:Nat}:(kW h a k).Nodup:=Gb.filter _
end Go.Proofs.YtfpeabnehpclnaaGreatT
namespace Go.Proofs.YtfpeabnehpclnaaGreatT
open Go Go.Proofs Go.Proofs.YtfpeabnehpclnaaGreatE
set_option linter.unusedVariables false
set_option linter.unusedSimpArgs false
def zL (s:Int) (w:List Int):Int:=w.foldl (fun x v=>w64 (x + v)) s
theorem GI {s:Int} {w:List Int} {k:Nat} (hk:k < w.length):zL s (w.take (k + 1))=w64 (zL s (w.take k) + idx w (k:Int)):=by
 unfold zL
 rw [List.take_succ_eq_append_getElem hk,List.foldl_append,(dE (n:=k) rfl hk:idx w (k:Int)=w[k])]
 rfl
def Win (want:Int):List (List Int)→Int→(Nat→Prop)→Nat→Nat→Prop
 | [],s,p,_,j=>s=want∧p j
 | w::ls,s,p,i,j=>Win want ls s p (i + 1) j∨Win want ls (zL s w) (fun j=>p j∨j=i) (i + 1) j
section
variable {O:List Int} {W:Int→List Int} {want:Int}
theorem Dw (hol:O.length≤32) (hwl:∀ t ∈ O,(W t).length≤16):∀ (k i:Nat),i≤O.length→O.length - i < k→∀ (sum tk wi:Int) (p q:Nat→Prop),Wd tk p→Wd wi q →
  Tri (ig k (i:Int) sum tk (Cy O W) want wi) (fun r=>Wd r (fun j=>q j∨Win want ((O.drop i).map W) sum p i j))
 | 0,i,_,hk=>by omega
 | k + 1,i,hi,hk=>by
  intro sum tk wi p q hp hq;have hw:w64 ((i:Int) + 1)=((i + 1:Nat):Int):=aZ (by omega);unfold ig lh
  rw [yz,hw]
  refine aA (fun h1 => ?_) (fun h1 => ?_)
  ·have:i=O.length:=by omega
   subst this
   rw [List.drop_length,List.map_nil]
   refine aA (fun h2 => ?_) (fun h2 => ?_)
   ·exact ag ((hq.or hp).congr fun j=>by show q j∨p j↔q j∨(sum=want∧p j); simp [h2])
   ·exact ag (hq.congr fun j=>by show q j↔q j∨(sum=want∧p j); simp [h2])
  ·have a0:i < O.length:=by omega
   have hd:(O.drop i).map W=W (idx O (i:Int))::(O.drop (i + 1)).map W:=by
    rw [List.drop_eq_getElem_cons a0,List.map_cons,(dE (n:=i) rfl a0:idx O (i:Int)=O[i])]
   have a3:=hwl _ (gz a0);refine fq (Dw hol hwl k (i + 1) (by omega) (by omega) sum tk wi p q hp hq) (fun y hy => ?_);refine ai (by omega) ?_;refine bY (k0:=0) (W (idx O (i:Int))).length (fun m s=>s.1=zL sum ((W (idx O (i:Int))).take m)∧s.2=(m:Int)) (Nat.zero_le _) ⟨by simp [zL],rfl⟩ ?_
   rintro m ⟨s,x⟩ hm ⟨f1,f2⟩
   dsimp only at f1 f2
   subst f1 f2;have a2:w64 ((m:Int) + 1)=((m + 1:Nat):Int):=aZ (by omega);unfold rf
   dsimp only
   rw [AX a0,a2,hw]
   dsimp only
   refine aA (fun h2 => ?_) (fun h2 => ?_)
   ·have a1:m < (W (idx O (i:Int))).length:=by omega
    refine ai (by omega) (ag ⟨a1,?_,rfl⟩)
    dsimp only
    rw [GI a1]
   ·have:m=(W (idx O (i:Int))).length:=by omega
    subst this
    rw [List.take_length]
    refine ai (by unfold far; omega) ?_;refine fq (Dw hol hwl k (i + 1) (by omega) (by omega) _ _ y _ _ (hp.or (Wd.bit (n:=i) rfl (by omega))) hy) (fun z hz => ?_);refine aB (ag (hz.congr fun j => ?_))
    rw [hd]
    show (q j∨Win want _ sum p (i + 1) j)∨_↔q j∨Win want _ sum p (i + 1) j∨_
    exact or_assoc
def picks (O:List Int) (f:Nat→Prop) [DecidablePred f] (k:Nat):List Int:=((List.range k).filter (fun j=>decide (f j))).map (fun j:Nat=>idx O (j:Int))
theorem Fg {f:Nat→Prop} [DecidablePred f] {k:Nat}:picks O f (k + 1)=if f k then picks O f k++[idx O (k:Int)] else picks O f k:=by
 unfold picks
 rw [List.range_succ,List.filter_append,List.map_append]
 by_cases h:f k <;> simp [h]
theorem Dx {f:Nat→Prop} [DecidablePred f] {k:Nat}:(picks O f k).length≤k:=by
 unfold picks
 rw [List.length_map]
 exact Nat.le_trans (List.length_filter_le _ _) (by simp)
open Classical in
theorem Hy (hol:O.length≤32) (hwl:∀ t ∈ O,(W t).length≤16):eT want (Cy O W)=some (picks O (Win want (O.map W) 0 (fun _=>False) 0) O.length):=by
 refine dS.1 ?_;unfold eT bP;have:=Dw (want:=want) hol hwl 64 0 (Nat.zero_le _) (by omega) 0 0 0 _ _ Wd.zero Wd.zero;refine fq this (fun y hy => ?_)
 rw [List.drop_zero] at hy
 replace hy:Wd y (Win want (O.map W) 0 (fun _=>False) 0):=hy.congr fun j=>by simp
 generalize Win want (O.map W) 0 (fun _=>False) 0=f at hy ⊢;refine bY (k0:=0) O.length (fun k s=>s=(picks O f k,(k:Int))) (Nat.zero_le _) (by simp [picks]) ?_;rintro k s hk rfl;have hw:w64 ((k:Int) + 1)=((k + 1:Nat):Int):=aZ (by omega);have hl:=Dx (O:=O) (f:=f) (k:=k);have hs:=Fg (O:=O) (f:=f) (k:=k);unfold sW pG
 dsimp only
 rw [yz,hw]
 refine aA (fun h1 => ?_) (fun h1 => ?_)
 ·have a0:k < O.length:=by omega
  refine ai (by omega) (ai (by unfold far; omega) ?_)
  rw [AX a0]
  rcases hy.look (i:=(k:Int)) (n:=k) rfl (by omega) with ⟨e,hf⟩ | ⟨e,hf⟩
  ·rw [e]
   refine aA (fun _ => ?_) (fun h=>absurd rfl h);refine ai (by omega) (ag ⟨a0,?_⟩)
   dsimp only
   rw [hs,if_pos hf]
  ·rw [e]
   refine aA (fun h=>absurd h (by decide)) (fun _ => ?_);refine ag ⟨a0,?_⟩
   dsimp only
   rw [hs,if_neg hf]
 ·have:k=O.length:=by omega
  subst this;exact aB (ag rfl)
end
end Go.Proofs.YtfpeabnehpclnaaGreatT
namespace Go.Proofs.YtfpeabnehpclnaaGreatT
open Go Go.Proofs Go.Proofs.YtfpeabnehpclnaaGreatE
set_option linter.unusedVariables false
set_option linter.unusedSimpArgs false
theorem wbm (x:Int):w64 x=Int.bmod x 18446744073709551616:=by
 unfold w64 IntKind.wrap
 simp only [IntKind.bits,IntKind.signed,Bool.true_and,Int.bmod_def]
 have h1:(2 ^ 64:Int)=18446744073709551616:=by decide
 have h2:=Int.emod_nonneg x (show (18446744073709551616:Int)≠0 by decide);have h3:=Int.emod_lt_of_pos x (show (0:Int) < 18446744073709551616 by decide)
 simp only [h1]
 by_cases h:x % 18446744073709551616 < 9223372036854775808
 ·rw [if_neg (by simp; omega),if_pos (by simp; omega)]
  rfl
 ·rw [if_pos (by simp; omega),if_neg (by simp; omega)]
  rfl
theorem PM (x y:Int):w64 (w64 x + y)=w64 (x + y):=by rw [wbm,wbm,wbm,Int.bmod_add_bmod]
theorem QT (x y:Int):w64 (x + w64 y)=w64 (x + y):=by rw [Int.add_comm,PM,Int.add_comm]
theorem Dy:∀ (w:List Int) (s:Int),zL (w64 s) w=w64 (s + w.sum)
 | [],s=>by simp [zL]
 | v::w,s=>by
  show zL (w64 (w64 s + v)) w=_
  rw [PM,Dy w,List.sum_cons,Int.add_assoc]
theorem Mi (w:List Int):zL 0 w=w64 w.sum:=by
 have h:=Dy w 0
 rw [Int.zero_add] at h
 exact h
theorem Lj {m i:Nat} (hm:m < 2 ^ 62) (hi:i < 62):dJ .i64 (fu .i64 (m:Int) (i:Int)) 1=if m.testBit i then 1 else 0:=by
 have h1:fu .i64 (m:Int) (i:Int)=((m >>> i:Nat):Int):=by
  unfold fu
  rw [show IntKind.bits .i64=64 from rfl,Int.toNat_natCast,Nat.min_eq_left (by omega),Nat.shiftRight_eq_div_pow]
  have:(2:Int) ^ i=((2 ^ i:Nat):Int):=(Int.natCast_pow 2 i).symm
  rw [this,Int.fdiv_eq_ediv_of_nonneg _ (Int.natCast_nonneg _)]
  exact (Int.natCast_ediv m (2 ^ i)).symm
 have h2:m >>> i < 2 ^ 62:=Nat.lt_of_le_of_lt (Nat.shiftRight_le _ _) hm;have h3:dJ .i64 ((m >>> i:Nat):Int) ((1:Nat):Int)=(((m >>> i) &&& 1:Nat):Int):=by
  unfold dJ
  rw [show IntKind.bits .i64=64 from rfl,BitVec.ofInt_natCast,BitVec.ofInt_natCast,BitVec.toNat_and,BitVec.toNat_ofNat,BitVec.toNat_ofNat,Nat.mod_eq_of_lt (by omega),Nat.mod_eq_of_lt (by decide)]
  have h4:(m >>> i) &&& 1≤1:=Nat.and_le_right;exact qH (by omega) (by omega)
 rw [h1,show (1:Int)=((1:Nat):Int) from rfl,h3,LA]
 cases m.testBit i <;> rfl
theorem PN {n:Nat} (hn:n≤32):En .i64 1 (n:Int)=((2 ^ n:Nat):Int):=by
 unfold En
 rw [show IntKind.bits .i64=64 from rfl,Int.toNat_natCast,Nat.min_eq_left (by omega)]
 have h1:(1:Int) * 2 ^ n=((2 ^ n:Nat):Int):=by rw [Int.one_mul]; exact (Int.natCast_pow 2 n).symm
 rw [h1]
 have h2:2 ^ n≤2 ^ 32:=Nat.pow_le_pow_right (by decide) hn;generalize 2 ^ n=q at h2;exact qH (by omega) (by omega)
section
variable {O:List Int} {W:Int→List Int} {want:Int}
def uN (O:List Int) (W:Int→List Int) (f:Nat→Bool):Nat→Int
 | 0=>0
 | k + 1=>if f k then w64 (uN O W f k + zL 0 (W (idx O (k:Int)))) else uN O W f k
theorem AY {f:Nat→Bool} {k:Nat}:uN O W f (k + 1)=if f k then w64 (uN O W f k + zL 0 (W (idx O (k:Int)))) else uN O W f k:=rfl
theorem Oa {f:Nat→Bool}:∀ k,w64 (uN O W f k)=uN O W f k
 | 0=>rfl
 | k + 1=>by
  unfold uN
  split
  ·have h:=PM (uN O W f k + zL 0 (W (idx O (k:Int)))) 0
   rw [Int.add_zero,Int.add_zero] at h
   exact h
  ·exact Oa k
theorem yU {f g:Nat→Bool}:∀ k,(∀ a,a < k→f a=g a)→uN O W f k=uN O W g k
 | 0,_=>rfl
 | k + 1,h=>by
  unfold uN
  rw [h k (by omega),yU k (fun a ha=>h a (by omega))]
theorem Hz (f:Nat→Bool):∀ (d i j:Nat) (f:Nat→Bool) (p:Nat→Prop),i + d=O.length→(∀ a,p a↔a < i∧f a=true) →
  (Win want ((O.drop i).map W) (uN O W f i) p i j↔∃ g:Nat→Bool,(∀ a,a < i→g a=f a)∧uN O W g O.length=want∧j < O.length∧g j=true)
 | 0,i,j,f,p,e,hp=>by
  have:i=O.length:=by omega
  subst this
  rw [List.drop_length,List.map_nil]
  show (uN O W f O.length=want∧p j)↔_
  rw [hp j]
  constructor
  ·rintro ⟨h1,h2,h3⟩; exact ⟨f,fun a _=>rfl,h1,h2,h3⟩
  ·rintro ⟨g,h1,h2,h3,h4⟩
   rw [yU O.length h1] at h2
   exact ⟨h2,h3,(h1 j h3) ▸ h4⟩
 | d + 1,i,j,f,p,e,hp=>by
  have hi:i < O.length:=by omega
  have hd:(O.drop i).map W=W (idx O (i:Int))::(O.drop (i + 1)).map W:=by
   rw [List.drop_eq_getElem_cons hi,List.map_cons,(dE (n:=i) rfl hi:idx O (i:Int)=O[i])]
  rw [hd]
  show Win want _ (uN O W f i) p (i + 1) j∨Win want _ (zL (uN O W f i) (W (idx O (i:Int)))) (fun j=>p j∨j=i) (i + 1) j↔_
  have hag:∀ b:Bool,uN O W (fun a=>if a=i then b else f a) i=uN O W f i:=fun b=>yU i (fun a ha=>if_neg (by omega));have e0:uN O W (fun a=>if a=i then false else f a) (i + 1)=uN O W f i:=by
   rw [AY,hag]
   simp
  have e1:uN O W (fun a=>if a=i then true else f a) (i + 1)=zL (uN O W f i) (W (idx O (i:Int))):=by
   rw [AY,hag,if_pos (if_pos rfl),← Oa i,Dy,Mi,QT,PM]
  have i0:=Hz f d (i + 1) j (fun a=>if a=i then false else f a) p (by omega) (fun a=>by
   rw [hp a]
   by_cases h:a=i
   ·subst h; simp
   ·simp only [if_neg h]
    constructor
    ·rintro ⟨h1,h2⟩; exact ⟨by omega,h2⟩
    ·rintro ⟨h1,h2⟩; exact ⟨by omega,h2⟩)
  have i1:=Hz f d (i + 1) j (fun a=>if a=i then true else f a) (fun j=>p j∨j=i) (by omega) (fun a=>by
   rw [hp a]
   by_cases h:a=i
   ·subst h; simp
   ·simp only [if_neg h,or_iff_left h]
    constructor
    ·rintro ⟨h1,h2⟩; exact ⟨by omega,h2⟩
    ·rintro ⟨h1,h2⟩; exact ⟨by omega,h2⟩)
  rw [e0] at i0
  rw [e1] at i1
  rw [i0,i1]
  constructor
  ·rintro (⟨g,h1,h2⟩ | ⟨g,h1,h2⟩)
   ·exact ⟨g,fun a ha=>by rw [h1 a (by omega),if_neg (by omega)],h2⟩
   ·exact ⟨g,fun a ha=>by rw [h1 a (by omega),if_neg (by omega)],h2⟩
  ·rintro ⟨g,h1,h2⟩;cases hgi:g i
   ·refine .inl ⟨g,fun a ha => ?_,h2⟩
    by_cases h:a=i
    ·subst h; rw [if_pos rfl,hgi]
    ·rw [if_neg h,h1 a (by omega)]
   ·refine .inr ⟨g,fun a ha => ?_,h2⟩
    by_cases h:a=i
    ·subst h; rw [if_pos rfl,hgi]
    ·rw [if_neg h,h1 a (by omega)]
theorem Ll (g:Nat→Bool):∀ n:Nat,∃ m:Nat,m < 2 ^ n∧∀ a,a < n→m.testBit a=g a
 | 0=>⟨0,by decide,fun a h=>absurd h (Nat.not_lt_zero _)⟩
 | n + 1=>by
  obtain ⟨m,h1,h2⟩:=Ll g n;have hp:2 ^ (n + 1)=2 ^ n + 2 ^ n:=by rw [Nat.pow_succ]; omega
  cases hg:g n
  ·refine ⟨m,by omega,fun a ha => ?_⟩
   by_cases h:a=n
   ·subst h; rw [hg]; exact Nat.testBit_lt_two_pow h1
   ·exact h2 a (by omega)
  ·refine ⟨2 ^ n + m,by omega,fun a ha => ?_⟩
   by_cases h:a=n
   ·subst h
    rw [Nat.testBit_two_pow_add_eq,hg,Nat.testBit_lt_two_pow h1]
    rfl
   ·rw [Nat.testBit_two_pow_add_gt (by omega)]
    exact h2 a (by omega)
def Msk (O:List Int) (W:Int→List Int) (want:Int) (m j:Nat):Prop:=uN O W m.testBit O.length=want∧m.testBit j=true
theorem Ob {j:Nat} (hj:j < O.length):Win want (O.map W) 0 (fun _=>False) 0 j↔∃ m:Nat,1≤m∧m < 2 ^ O.length∧Msk O W want m j:=by
 have h:=Hz (O:=O) (W:=W) (want:=want) (fun _=>false) O.length 0 j (fun _=>false) (fun _=>False) (by omega) (fun a=>by simp)
 rw [List.drop_zero] at h
 refine Iff.trans h ?_
 constructor
 ·rintro ⟨g,_,h2,h3,h4⟩;obtain ⟨m,m1,m2⟩:=Ll g O.length;refine ⟨m,?_,m1,?_,?_⟩
  ·apply Nat.lt_of_not_le
   intro h0;have:m=0:=by omega
   subst this
   rw [← m2 j hj,Nat.zero_testBit] at h4
   cases h4
  ·rw [yU O.length m2]; exact h2
  ·rw [m2 j hj]; exact h4
 ·rintro ⟨m,_,m1,m2,m3⟩;exact ⟨m.testBit,fun a ha=>absurd ha (Nat.not_lt_zero _),m2,hj,m3⟩
end
end Go.Proofs.YtfpeabnehpclnaaGreatT
namespace Go.Proofs.YtfpeabnehpclnaaGreatT
open Go Go.Proofs Go.Proofs.YtfpeabnehpclnaaGreatE
set_option linter.unusedVariables false
set_option linter.unusedSimpArgs false
theorem Oc {h:History} {t key:Int} {w:List Int} (hW:aQ h t key=some w) (hl:w.length≤16):iG h t key=some (zL 0 w):=by
 refine dS.1 ?_;unfold iG;refine bB hW ?_;refine bY (k0:=0) w.length (fun m s=>s.1=zL 0 (w.take m)∧s.2=(m:Int)) (Nat.zero_le _) ⟨by simp [zL],rfl⟩ ?_
 rintro m ⟨s,x⟩ hm ⟨f1,f2⟩
 dsimp only at f1 f2
 subst f1 f2;have a1:w64 ((m:Int) + 1)=((m + 1:Nat):Int):=aZ (by omega);unfold rZ
 dsimp only
 rw [a1]
 refine aA (fun h2 => ?_) (fun h2 => ?_)
 ·have a0:m < w.length:=by omega
  refine ai (by omega) (ag ⟨a0,?_,rfl⟩)
  dsimp only
  rw [GI a0]
 ·have:m=w.length:=by omega
  subst this;exact aB (ag (by rw [List.take_length]; rfl))
section
variable {O:List Int} {W:Int→List Int}
open Classical in
theorem Jj (hol:O.length≤32) (hwl:∀ t ∈ O,(W t).length≤16) {h:History} {a:Ask} (hW:∀ t ∈ O,aQ h t a.Key=some (W t)) (ho:bf h a=some O) (hb:0 < a.Base.length) :
  aJ h a=some (picks O (Win (idx a.Base 0) (O.map W) 0 (fun _=>False) 0) O.length):=by
 refine dS.1 ?_;have a5:2 ^ O.length≤2 ^ 32:=Nat.pow_le_pow_right (by decide) hol;have a2:0 < 2 ^ O.length:=Nat.two_pow_pos _;unfold aJ;refine bB ho ?_;refine ai (by omega) ?_;have hfin:∀ j,j < O.length→(Win (idx a.Base 0) (O.map W) 0 (fun _=>False) 0 j↔∃ m:Nat,1≤m∧m < 2 ^ O.length∧Msk O W (idx a.Base 0) m j):=fun j hj=>Ob hj;generalize Win (idx a.Base 0) (O.map W) 0 (fun _=>False) 0=f at hfin ⊢;have hshl:=PN hol;generalize 2 ^ O.length=N at a5 a2 hfin hshl;refine bY (k0:=1) N (fun m s=>s.1.length=O.length∧s.2=(m:Int)∧∀ j,j < O.length→(idx s.1 (j:Int)=true↔∃ m':Nat,1≤m'∧m' < m∧Msk O W (idx a.Base 0) m' j)) a2 ⟨by simp,rfl,fun j hj => ?_⟩ ?_
 ·dsimp only
  rw [Int.toNat_natCast,dE (n:=j) rfl (by simpa using hj)]
  simp
  intro m' h1 h2
  omega
 rintro m ⟨ok,x⟩ hm ⟨e1,e2,e3⟩
 dsimp only at e1 e2 e3
 subst e2;unfold pE
 dsimp only
 rw [hshl]
 refine ai (by unfold far; omega) ?_;refine aA (fun h1 => ?_) (fun h1 => ?_)
 ·have a4:m < N:=by omega
  have hwm:w64 ((m:Int) + 1)=((m + 1:Nat):Int):=aZ (by omega);refine bY (k0:=0) O.length (fun i s=>s.1=uN O W m.testBit i∧s.2=(i:Int)) (Nat.zero_le _) ⟨rfl,rfl⟩ ?_;rintro i ⟨s,x⟩ hi ⟨f1,f2⟩
  dsimp only at f1 f2
  subst f1 f2;have hwi:w64 ((i:Int) + 1)=((i + 1:Nat):Int):=aZ (by omega);unfold pu lD
  dsimp only
  rw [hwi]
  refine aA (fun h2 => ?_) (fun h2 => ?_)
  ·have a0:i < O.length:=by omega
   refine ai (by unfold far; omega) ?_
   rw [Lj (by omega) (by omega)]
   cases hbit:m.testBit i
   ·refine aA (fun h3=>absurd h3 (by simp)) (fun _ => ?_);refine ag ⟨a0,?_,rfl⟩
    dsimp only
    rw [AY,hbit]
    rfl
   ·refine aA (fun _ => ?_) (fun h3=>absurd (by simp) h3);refine ai (by omega) ?_;refine bB (Oc (hW _ (gz a0)) (hwl _ (gz a0))) (ag ⟨a0,?_,rfl⟩)
    dsimp only
    rw [AY,hbit]
    rfl
  ·have:i=O.length:=by omega
   subst this;have fin:∀ l:List Bool,l.length=O.length→(∀ j,j < O.length→(idx l (j:Int)=true↔idx ok (j:Int)=true∨Msk O W (idx a.Base 0) m j)) →
     Upm N m (fun m s=>s.1.length=O.length∧s.2=(m:Int)∧∀ j,j < O.length→(idx s.1 (j:Int)=true↔∃ m':Nat,1≤m'∧m' < m∧Msk O W (idx a.Base 0) m' j)) (fun b=>b=picks O f O.length) (.inl (l,((m + 1:Nat):Int))):=by
    intro l hl hj;refine ⟨a4,hl,rfl,fun j a3 => ?_⟩
    dsimp only
    rw [hj j a3,e3 j a3]
    constructor
    ·rintro (⟨m',h1,h2,h3⟩ | h3)
     ·exact ⟨m',h1,by omega,h3⟩
     ·refine ⟨m,?_,by omega,h3⟩
      apply Nat.lt_of_not_le
      intro h0;have:m=0:=by omega
      subst this;have:=h3.2
      rw [Nat.zero_testBit] at this
      cases this
    ·rintro ⟨m',h1,h2,h3⟩;rcases Nat.lt_or_ge m' m with h4 | h4
     ·exact .inl ⟨m',h1,h4,h3⟩
     ·have:m'=m:=by omega
      subst this;exact .inr h3
   refine bY (k0:=0) O.length (fun i s=>s.1.length=O.length∧s.2=(i:Int)∧∀ j,j < O.length→(idx s.1 (j:Int)=true↔idx ok (j:Int)=true∨(uN O W m.testBit O.length=idx a.Base 0∧j < i∧m.testBit j=true))) (Nat.zero_le _)
    ⟨e1,rfl,fun j hj=>⟨fun h => .inl h,fun h=>h.elim id (fun h=>absurd h.2.1 (Nat.not_lt_zero _))⟩⟩ ?_
   rintro i ⟨l,x⟩ hi ⟨f1,f2,f3⟩
   dsimp only at f1 f2 f3
   subst f2;have hwi:w64 ((i:Int) + 1)=((i + 1:Nat):Int):=aZ (by omega);unfold pq lG lF
   dsimp only
   rw [hwi,hwm]
   refine aA (fun h3 => ?_) (fun h3 => ?_)
   ·have a0:i < O.length:=by omega
    refine ai (by omega) ?_;refine aA (fun h4 => ?_) (fun h4 => ?_)
    ·refine ai (by omega) ?_
     rw [Int.toNat_natCast,Lj (by omega) (by omega)]
     have step:∀ v:Bool,(v=true↔idx l (i:Int)=true∨m.testBit i=true)→∀ j,j < O.length→(idx (l.set i v) (j:Int)=true↔idx ok (j:Int)=true∨(uN O W m.testBit O.length=idx a.Base 0∧j < i + 1∧m.testBit j=true)):=by
      intro v hv j hj
      rw [vv (by omega)]
      by_cases e:j=i
      ·subst e
       rw [if_pos rfl,hv,f3 j hj]
       constructor
       ·rintro ((h | ⟨_,h,_⟩) | h)
        ·exact .inl h
        ·omega
        ·exact .inr ⟨h4,by omega,h⟩
       ·rintro (h | ⟨_,_,h⟩)
        ·exact .inl (.inl h)
        ·exact .inr h
      ·rw [if_neg e,f3 j hj]
       constructor
       ·rintro (h | ⟨h,h',h''⟩)
        ·exact .inl h
        ·exact .inr ⟨h,by omega,h''⟩
       ·rintro (h | ⟨h,h',h''⟩)
        ·exact .inl h
        ·exact .inr ⟨h,by omega,h''⟩
     cases hli:idx l (i:Int)
     ·rw [cond_false]
      refine ai (by unfold far; omega) (ag ⟨a0,by simp [f1],rfl,step _ ?_⟩)
      rw [hli]
      cases m.testBit i <;> simp
     ·rw [cond_true]
      refine ag ⟨a0,by simp [f1],rfl,step _ ?_⟩
      rw [hli]
      simp
    ·refine aB (aB (ag (fin l f1 fun j hj => ?_)))
     rw [f3 j hj]
     unfold Msk;exact or_congr Iff.rfl ⟨fun h=>absurd h.1 h4,fun h=>absurd h.1 h4⟩
   ·have:i=O.length:=by omega
    subst this
    rw [cond_false]
    refine aB (aB (ag (fin l f1 fun j hj => ?_)))
    rw [f3 j hj]
    unfold Msk;exact or_congr Iff.rfl ⟨fun h=>⟨h.1,h.2.2⟩,fun h=>⟨h.1,hj,h.2⟩⟩
 ·have hmN:m=N:=by omega
  subst hmN;have e4:∀ j,j < O.length→(idx ok (j:Int)=true↔f j):=fun j hj=>(e3 j hj).trans (hfin j hj).symm;refine bY (k0:=0) O.length (fun k s=>s=(picks O f k,(k:Int))) (Nat.zero_le _) (by simp [picks]) ?_;rintro k s hk rfl;have hw:w64 ((k:Int) + 1)=((k + 1:Nat):Int):=aZ (by omega);have hl:=Dx (O:=O) (f:=f) (k:=k);have hs:=Fg (O:=O) (f:=f) (k:=k);unfold pz lH
  dsimp only
  rw [hw]
  refine aA (fun h1 => ?_) (fun h1 => ?_)
  ·have a1:k < O.length:=by omega
   refine ai (by omega) ?_;cases hok:idx ok (k:Int)
   ·rw [cond_false]
    refine ag ⟨a1,?_⟩
    dsimp only
    rw [hs,if_neg (fun hf=>by rw [(e4 k a1).2 hf] at hok; cases hok)]
   ·rw [cond_true]
    refine ai (by omega) (ai (by omega) (ag ⟨a1,?_⟩))
    dsimp only
    rw [hs,if_pos ((e4 k a1).1 hok)]
  ·have:k=O.length:=by omega
   subst this;exact aB (aB (ag rfl))
end
end Go.Proofs.YtfpeabnehpclnaaGreatT
namespace Go.Proofs.YtfpeabnehpclnaaGreatT
open Go Go.Proofs Go.Proofs.YtfpeabnehpclnaaGreatE
set_option linter.unusedVariables false
set_option linter.unusedSimpArgs false
def zq (w:List Int):Int:=idx w ((w.length - 1:Nat):Int)
section
variable {O:List Int} {W:Int→List Int}
def lasts (O:List Int) (W:Int→List Int) (v:Int):List Int:=O.filter (fun t=>decide (zq (W t)=v))
theorem Fh {v:Int} {k:Nat} (hk:k < O.length):lasts (O.take (k + 1)) W v=if zq (W (idx O (k:Int)))=v then lasts (O.take k) W v++[idx O (k:Int)] else lasts (O.take k) W v:=by
 unfold lasts
 rw [List.take_succ_eq_append_getElem hk,List.filter_append,(dE (n:=k) rfl hk:idx O (k:Int)=O[k])]
 by_cases h:zq (W O[k])=v <;> simp [h]
theorem GJ {v:Int} {k:Nat}:(lasts (O.take k) W v).length≤O.length:=Nat.le_trans (List.length_filter_le _ _) (by rw [List.length_take]; omega)
theorem Od (hol:O.length≤32) (hne:∀ t ∈ O,0 < (W t).length) (hwl:∀ t ∈ O,(W t).length≤16) {a:Ask} (hb:0 < a.Base.length) :
  iter (pM a (Cy O W)) ([],0)=some (lasts O W (idx a.Base 0)):=by
 refine dS.1 ?_;refine bY (k0:=0) O.length (fun k s=>s.1=lasts (O.take k) W (idx a.Base 0)∧s.2=(k:Int)) (Nat.zero_le _) ⟨by simp [lasts],rfl⟩ ?_
 rintro k ⟨l,x⟩ hk ⟨e1,e2⟩
 dsimp only at e1 e2
 subst e1 e2;have hw:w64 ((k:Int) + 1)=((k + 1:Nat):Int):=aZ (by omega);have hl:=GJ (O:=O) (W:=W) (v:=idx a.Base 0) (k:=k);unfold pM pJ fZ
 dsimp only
 rw [yz,hw]
 refine aA (fun h1 => ?_) (fun h1 => ?_)
 ·have a0:k < O.length:=by omega
  have h0:=hne _ (gz a0);have a1:=hwl _ (gz a0);have hs:=Fh (W:=W) (v:=idx a.Base 0) a0
  rw [AX a0]
  dsimp only
  have hp:w64 (((W (idx O (k:Int))).length:Int) - 1)=(((W (idx O (k:Int))).length - 1:Nat):Int):=nL (by omega) (by omega)
  rw [hp]
  refine ai (by omega) (ai (by omega) (ai (by omega) ?_));refine aA (fun h2 => ?_) (fun h2 => ?_)
  ·refine ai (by omega) (ag ⟨a0,?_,rfl⟩)
   dsimp only
   rw [hs,if_pos (show zq _=_ from h2)]
  ·refine ag ⟨a0,?_,rfl⟩
   dsimp only
   rw [hs,if_neg (show ¬ zq _=_ from h2)]
 ·have:k=O.length:=by omega
  subst this;exact aB (ag (by rw [List.take_length]; rfl))
theorem PO (hol:O.length≤32) (hne:∀ t ∈ O,0 < (W t).length) (hwl:∀ t ∈ O,(W t).length≤16) {h:History} {a:Ask} (hW:∀ t ∈ O,aQ h t a.Key=some (W t)) (hb:0 < a.Base.length) :
  iter (qc h a O) ([],0)=some (lasts O W (idx a.Base 0)):=by
 refine dS.1 ?_;refine bY (k0:=0) O.length (fun k s=>s.1=lasts (O.take k) W (idx a.Base 0)∧s.2=(k:Int)) (Nat.zero_le _) ⟨by simp [lasts],rfl⟩ ?_
 rintro k ⟨l,x⟩ hk ⟨e1,e2⟩
 dsimp only at e1 e2
 subst e1 e2;have hw:w64 ((k:Int) + 1)=((k + 1:Nat):Int):=aZ (by omega);have hl:=GJ (O:=O) (W:=W) (v:=idx a.Base 0) (k:=k);unfold qc qb iW
 dsimp only
 rw [hw]
 refine aA (fun h1 => ?_) (fun h1 => ?_)
 ·have a0:k < O.length:=by omega
  have h0:=hne _ (gz a0);have a1:=hwl _ (gz a0);have hs:=Fh (W:=W) (v:=idx a.Base 0) a0;refine ai (by omega) (bB (hW _ (gz a0)) ?_);have hp:w64 (((W (idx O (k:Int))).length:Int) - 1)=(((W (idx O (k:Int))).length - 1:Nat):Int):=nL (by omega) (by omega)
  rw [hp]
  refine ai (by omega) (ai (by omega) ?_);refine aA (fun h2 => ?_) (fun h2 => ?_)
  ·refine ai (by omega) (ag ⟨a0,?_,rfl⟩)
   dsimp only
   rw [hs,if_pos (show zq _=_ from h2)]
  ·refine ag ⟨a0,?_,rfl⟩
   dsimp only
   rw [hs,if_neg (show ¬ zq _=_ from h2)]
 ·have:k=O.length:=by omega
  subst this;exact aB (ag (by rw [List.take_length]; rfl))
end
abbrev oth (h:History) (a:Ask):List Int:=kW h a h.Txns.length
abbrev wro (h:History) (a:Ask):Int→List Int:=fun t=>gY h t a.Key
open Classical in
def Ao (h:History) (a:Ask) (ty:Int) (s:List Int):Prop :=
 if ty=4 then s=(if idx a.Base 0=0 then [-1] else [])++picks (oth h a) (Win (idx a.Base 0) ((oth h a).map (wro h a)) 0 (fun _=>False) 0) (oth h a).length
 else if a.Base.length=0 then s=[-1]
 else if ty=1 then s=lasts (oth h a) (wro h a) (idx a.Base 0)
 else if ty=2 then ∃ r,Am (oth h a) (wro h a) a.Base r∧s=if r.2=true then [zq r.1] else []
 else ∃ r,rT (oth h a) (wro h a) a.Base r∧s=r.1
theorem Cz {h:History} (hS:fJ h) (hc:aK h=some 0) {a:Ask} {t p:Nat} (ha:DX h a t p) :
  ∃ s,bE h a=some s∧bL h a=some s∧Ao h a (typ (opAt h (t:Int) (p:Int)).Kind) s:=by
 have a7:=hS.len;obtain ⟨k1,k8⟩:=AU hS ha.tl ha.pl;have hT:fC h a.Key=some (typ (opAt h (t:Int) (p:Int)).Kind):=AV hS hc ha.tl ha.pl ha.e3.symm;have hK:=Gx hS ha.tl ha.pl ha.e1 ha.e2;have hF:cO h a=some (Cy (oth h a) (wro h a)):=Al hS hc;have hO:bf h a=some (oth h a):=Aj hS;have hol:(oth h a).length≤32:=Nat.le_trans vU a7;have hmem:∀ u ∈ oth h a,∃ n:Nat,u=(n:Int)∧n < h.Txns.length∧0 < (wro h a u).length:=fun u hu=>by
  obtain ⟨⟨h0,h1,_,h3⟩,_⟩:=uL.1 hu;exact ⟨u.toNat,by omega,by omega,h3⟩
 have hwl:∀ u ∈ oth h a,(wro h a u).length≤16:=fun u hu=>by
  obtain ⟨n,rfl,hn,_⟩:=hmem u hu;exact Nat.le_trans DW (hS.txn n hn).ops.1
 have hne:∀ u ∈ oth h a,0 < (wro h a u).length:=fun u hu=>by obtain ⟨n,_,_,h3⟩:=hmem u hu; exact h3
 have hW:∀ u ∈ oth h a,aQ h u a.Key=some (wro h a u):=fun u hu=>by
  obtain ⟨n,rfl,hn,_⟩:=hmem u hu;exact wI ⟨by omega,by omega⟩ (hS.txn n hn).ops.1
 have hP:=fun a6=>EZ (a:=a) hS ha a6;have a4:=ha.b64;have a5:=ha.b4;have a3:=ha.b3;have hty:typ (opAt h (t:Int) (p:Int)).Kind=1∨typ (opAt h (t:Int) (p:Int)).Kind=2∨typ (opAt h (t:Int) (p:Int)).Kind=3∨typ (opAt h (t:Int) (p:Int)).Kind=4:=by unfold typ; omega
 generalize typ (opAt h (t:Int) (p:Int)).Kind=ty at hT hK a5 a3 hty hP;have bz:0 < a.Base.length→((a.Base.length:Int) == 0)=false:=fun h=>by rw [beq_eq_false_iff_ne]; omega
 have b0:a.Base.length=0→((a.Base.length:Int) == 0)=true:=fun h=>by rw [beq_iff_eq]; omega
 unfold bE bL iF
 simp only [hT,hK,hF,hO,Option.bind_some]
 by_cases h0:a.Base.length=0∧ty≠4
 ·obtain ⟨h0,h4⟩:=h0;refine ⟨[-1],?_,?_,?_⟩
  ·rw [b0 h0,beq_eq_false_iff_ne.2 h4]; rfl
  ·rw [b0 h0,beq_eq_false_iff_ne.2 h4]; rfl
  ·unfold Ao; rw [if_neg h4,if_pos h0]
 ·rcases hty with rfl | rfl | rfl | rfl
  ·have hb:0 < a.Base.length:=by omega
   rw [bz hb]
   refine ⟨lasts (oth h a) (wro h a) (idx a.Base 0),Od (W:=wro h a) hol hne hwl (a:=a) hb,PO (W:=wro h a) hol hne hwl hW hb,?_⟩;unfold Ao
   rw [if_neg (by decide),if_neg (by omega),if_pos rfl]
  ·have hb:0 < a.Base.length:=by omega
   rw [bz hb]
   obtain ⟨⟨l,b⟩,a1,a2,a0⟩:=Du (hP (.inl rfl)) hW hO a4;have hsrc:Ao h a 2 (if b=true then [zq l] else []):=by
    unfold Ao
    rw [if_neg (by decide),if_neg (by omega),if_neg (by decide),if_pos rfl]
    exact ⟨_,a0,rfl⟩
   refine ⟨_,?_,?_,hsrc⟩
   ·rw [a1]
    refine dS.1 ?_
    show Tri (bif b then _ else _) _
    cases b
    ·exact ag rfl
    ·have hl:0 < l.length∧l.length≤32:=by
      rcases a0 with ⟨_,h1,h2,h3⟩ | ⟨h1,_⟩
      ·refine ⟨?_,Nat.le_trans (vg h2 h1) hol⟩
       apply Nat.lt_of_not_le
       intro hle;have:l=[]:=List.length_eq_zero_iff.1 (by omega);subst this
       rw [h3] at hb
       simp at hb
      ·cases h1
     have hp:w64 ((l.length:Int) - 1)=((l.length - 1:Nat):Int):=nL (by omega) (by omega)
     dsimp only
     rw [hp]
     refine ai (by omega) (ag ?_)
     rw [Dr]
     show l.drop (l.length - 1)=[zq l]
     rw [List.drop_eq_getElem_cons (by omega),List.drop_eq_nil_of_le (by omega)]
     unfold zq
     rw [dE (n:=l.length - 1) rfl (by omega)]
   ·rw [a2]
    refine dS.1 ?_
    show Tri (bif b then _ else _) _
    cases b
    ·exact ag rfl
    ·have hl:0 < l.length∧l.length≤32:=by
      rcases a0 with ⟨_,h1,h2,h3⟩ | ⟨h1,_⟩
      ·refine ⟨?_,Nat.le_trans (vg h2 h1) hol⟩
       apply Nat.lt_of_not_le
       intro hle;have:l=[]:=List.length_eq_zero_iff.1 (by omega);subst this
       rw [h3] at hb
       simp at hb
      ·cases h1
     have hp:w64 ((l.length:Int) - 1)=((l.length - 1:Nat):Int):=nL (by omega) (by omega)
     dsimp only
     rw [hp]
     exact ai (by omega) (ai (by omega) (ag rfl))
  ·have hb:0 < a.Base.length:=by omega
   rw [bz hb]
   obtain ⟨⟨l,b⟩,a1,a2,a0⟩:=Ff (hP (.inr rfl)) vV hW hO a4 (a3 rfl);have hsrc:Ao h a 3 l:=by
    unfold Ao
    rw [if_neg (by decide),if_neg (by omega),if_neg (by decide),if_neg (by decide)]
    exact ⟨_,a0,rfl⟩
   refine ⟨_,?_,?_,hsrc⟩
   ·rw [a1]; rfl
   ·rw [a2]
    refine dS.1 ?_
    show Tri (bif b then _ else _) _
    cases b
    ·refine ag ?_;rcases a0 with ⟨h1,_⟩ | ⟨h1,_⟩
     ·cases h1
     ·cases h1; rfl
    ·exact ag rfl
  ·classical
   have hb:0 < a.Base.length:=by have:=a5 rfl; omega
   have hcc:=Hy (W:=wro h a) (want:=idx a.Base 0) hol hwl;have hcr:=Jj (W:=wro h a) hol hwl hW hO hb;generalize hpk:picks (oth h a) (Win (idx a.Base 0) ((oth h a).map (wro h a)) 0 (fun _=>False) 0) (oth h a).length=pk at hcc hcr;have hpl:pk.length≤32:=by rw [← hpk]; exact Nat.le_trans Dx hol
   have hsrc:Ao h a 4 ((if idx a.Base 0=0 then [-1] else [])++pk):=by
    unfold Ao
    rw [if_pos rfl,← hpk]
   refine ⟨_,?_,?_,hsrc⟩
   ·refine dS.1 ?_;unfold pI fZ
    simp only [hF,hcc,Option.bind_some]
    refine ai (by omega) ?_;refine aA (fun h1 => ?_) (fun h1 => ?_)
    ·refine ai (by omega) (ai (by omega) (ai ?_ (ag ?_)))
     ·simp only [List.length_append,List.length_singleton,List.length_nil]; omega
     ·rw [if_pos h1]; rfl
    ·refine ai (by omega) (ai ?_ (ag ?_))
     ·simp only [List.length_nil]; omega
     ·rw [if_neg h1]
   ·refine dS.1 ?_;unfold qa
    simp only [hcr,Option.bind_some]
    refine ai (by omega) ?_;refine aA (fun h1 => ?_) (fun h1 => ?_)
    ·refine ai (by omega) (ag ?_)
     rw [if_pos h1]
    ·refine ag ?_
     rw [if_neg h1]; rfl
end Go.Proofs.YtfpeabnehpclnaaGreatT
namespace Go.Proofs.YtfpeabnehpclnaaGreatT
open Go Go.Proofs Go.Proofs.YtfpeabnehpclnaaGreatE
set_option linter.unusedVariables false
set_option linter.unusedSimpArgs false
noncomputable def mV (h:History) (a:Ask):List Int:=(bE h a).getD []
theorem GK {h:History} (hS:fJ h) (hc:aK h=some 0) {a:Ask} (ha:a ∈ aV h h.Txns.length):bE h a=some (mV h a)∧bL h a=some (mV h a):=by
 obtain ⟨t,p,hk⟩:=BU hS ha;obtain ⟨s,h1,h2,_⟩:=Cz hS hc hk;unfold mV
 rw [h1,h2]
 exact ⟨rfl,rfl⟩
theorem yB {l:List Ask} {j:Nat} (hj:j < l.length):idx l (j:Int) ∈ l:=by rw [dE (n:=j) rfl hj]; exact List.getElem_mem _
section
variable {h:History}
end
end Go.Proofs.YtfpeabnehpclnaaGreatT
namespace Go.Proofs.YtfpeabnehpclnaaGreatT
open Go Go.Proofs Go.Proofs.YtfpeabnehpclnaaGreatE
set_option linter.unusedVariables false
set_option linter.unusedSimpArgs false
theorem Jk {b a:Ask} (ha:a.Base.length < 2 ^ 60):Tri (qo b a) (fun r=>r=true↔a=b):=by
 unfold qo
 rw [BO (by omega)]
 obtain ⟨a1,a2,a3,a4⟩:=a;obtain ⟨b1,b2,b3,b4⟩:=b
 dsimp only
 refine aA (fun e1 => ?_) (fun e1=>ag ?_)
 ·refine aA (fun e2 => ?_) (fun e2=>ag ?_)
  ·refine aA (fun e3=>ag ?_) (fun e3=>ag ?_)
   ·simp [e1,e2,e3]
   ·simp [e3]
  ·simp [e2]
 ·simp [e1]
theorem Gc {l:List Ask} {a:Ask} (ha:a.Base.length < 2 ^ 60) (hl:l.length < 2 ^ 60):Tri (dQ l a) (fun r=>r=true↔a ∈ l):=by
 have h1:Tri (bT l a) (fun r=>0≤r↔a ∈ l):=by
  unfold bT;refine bY (k0:=0) l.length (fun k s=>s=(k:Int)∧∀ j:Nat,j < k→a≠idx l (j:Int)) (Nat.zero_le _) ⟨rfl,fun j h=>absurd h (Nat.not_lt_zero _)⟩ ?_;rintro k s hk ⟨rfl,hno⟩;have hw:w64 ((k:Int) + 1)=((k + 1:Nat):Int):=aZ (by omega);unfold gH
  dsimp only
  rw [hw]
  refine aA (fun h1 => ?_) (fun h1 => ?_)
  ·have a0:k < l.length:=by omega
   refine ai (by omega) (fq (Jk ha) (fun r hr => ?_));refine aA (fun h2 => ?_) (fun h2 => ?_)
   ·refine aB (ag ⟨fun _ => ?_,fun _=>by omega⟩)
    rw [hr.1 h2]
    exact yB a0
   ·refine ag ⟨a0,rfl,fun j hj => ?_⟩;rcases Nat.lt_or_ge j k with h3 | h3
    ·exact hno j h3
    ·have:j=k:=by omega
     subst this;exact fun e=>h2 (hr.2 e)
  ·have:k=l.length:=by omega
   subst this;refine aB (ag ⟨fun h=>absurd h (by decide),fun h => ?_⟩);obtain ⟨j,hj,e⟩:=List.getElem_of_mem h;exact absurd (e.symm.trans (dE rfl hj).symm) (hno j hj)
 unfold dQ;refine fq h1 (fun r hr=>ag ?_)
 rw [decide_eq_true_iff]
 exact hr
theorem Fj {h:History} (hs:uK h) (hS:fJ h) (hc:aK h=some 0) {a:Ask} (ha:a.Base.length < 2 ^ 60) :
  Tri (qR h a) (fun r=>(r=0∧a ∈ aV h h.Txns.length)∨(r=1∧a ∉ aV h h.Txns.length)):=by
 have a0:=hS.len;obtain ⟨i1,_,_⟩:=sH hS h.Txns.length (Nat.le_refl _);have hA:mK h=some (aV h h.Txns.length,0):=by unfold mK; rw [Jb hs hS hc]; rfl
 unfold qR;refine bB hA ?_;refine aA (fun h1=>absurd rfl h1) (fun _ => ?_);refine fq (Gc ha (by dsimp only; omega)) (fun r hr => ?_);refine aA (fun h1 => ?_) (fun h1 => ?_)
 ·exact ag (.inl ⟨rfl,hr.1 h1⟩)
 ·exact ag (.inr ⟨rfl,fun h2=>h1 (hr.2 h2)⟩)
theorem Jl {h:History} (hS:fJ h) {a:Ask} (ha:a ∈ aV h h.Txns.length):a.Base.length < 2 ^ 60:=by
 obtain ⟨t,p,hk⟩:=BU hS ha;have:=hk.b64
 omega
theorem HV {h:History} (hs:uK h) (hS:fJ h) (hc:aK h=some 0) {a:Ask} (ha:a ∈ aV h h.Txns.length):qp h a=some (mV h a,0):=by
 refine dS.1 ?_;unfold qp;refine fq (Fj hs hS hc (Jl hS ha)) (fun r hr => ?_);rcases hr with ⟨rfl,_⟩ | ⟨_,h1⟩
 ·refine aA (fun h1=>absurd rfl h1) (fun _ => ?_);exact bB (GK hS hc ha).1 (ag rfl)
 ·exact absurd ha h1
end Go.Proofs.YtfpeabnehpclnaaGreatT
namespace Go.Proofs.YtfpeabnehpclnaaGreatT
open Go Go.Proofs Go.Proofs.YtfpeabnehpclnaaGreatE
set_option linter.unusedVariables false
set_option linter.unusedSimpArgs false
end Go.Proofs.YtfpeabnehpclnaaGreatT
namespace Go.Proofs.YtfpeabnehpclnaaGreatT
open Go Go.Proofs Go.Proofs.YtfpeabnehpclnaaGreatE
set_option linter.unusedVariables false
set_option linter.unusedSimpArgs false
theorem Mj {O:List Int} {W:Int→List Int} {base:List Int}:(yA O W base).length≤O.length:=List.length_filter_le _ _
theorem Fp {O:List Int} {W:Int→List Int} {base:List Int} {r:List Int×Bool} (h:Am O W base r):r.1.length≤O.length:=by
 rcases h with ⟨_,h1,h2,_⟩ | ⟨rfl,_⟩
 ·exact vg h2 h1
 ·exact Nat.zero_le _
theorem GL {O:List Int} {W:Int→List Int} {base:List Int} {r:List Int×Bool} (h:rT O W base r):r.1.length≤O.length:=by
 rcases h with ⟨rfl,_⟩ | ⟨rfl,_⟩
 ·exact Mj
 ·exact Nat.zero_le _
theorem Lm {h:History} (hS:fJ h) {a:Ask}:(oth h a).length≤32:=Nat.le_trans vU hS.len
def HY (h:History) (a:Ask) (ty:Int) (r:List Int×Bool):Prop :=
 (ty=2→Am (oth h a) (wro h a) a.Base r)∧(ty=3→rT (oth h a) (wro h a) a.Base r)∧(ty≠2→ty≠3→r=([],false))
theorem Km {h:History} (hS:fJ h) (hc:aK h=some 0) {a:Ask} {t p:Nat} (ha:DX h a t p) :
  ∃ r,iF h a=some r∧r.1.length≤32∧HY h a (typ (opAt h (t:Int) (p:Int)).Kind) r:=by
 have a6:=hS.len;have hT:fC h a.Key=some (typ (opAt h (t:Int) (p:Int)).Kind):=AV hS hc ha.tl ha.pl ha.e3.symm;have hF:cO h a=some (Cy (oth h a) (wro h a)):=Al hS hc;have hO:bf h a=some (oth h a):=Aj hS;have hol:=Lm hS (a:=a);have hW:∀ u ∈ oth h a,aQ h u a.Key=some (wro h a u):=fun u hu=>by
  obtain ⟨⟨h0,h1,_,h3⟩,_⟩:=uL.1 hu;have hn:u.toNat < h.Txns.length:=by omega
  have e:u=(u.toNat:Int):=by omega
  rw [e]
  exact wI ⟨by omega,by omega⟩ (hS.txn u.toNat hn).ops.1
 have hP:=fun a5=>EZ (a:=a) hS ha a5;have a3:=ha.b64;have a2:=ha.b3;generalize typ (opAt h (t:Int) (p:Int)).Kind=ty at hT a2 hP;unfold iF
 simp only [hT,hF,Option.bind_some]
 by_cases h2:ty=2
 ·subst h2;obtain ⟨r,a1,a4,a0⟩:=Du (hP (.inl rfl)) hW hO a3;refine ⟨r,?_,Nat.le_trans (Fp a0) hol,fun _=>a0,fun h=>absurd h (by decide),fun h=>absurd rfl h⟩
  rw [a1]; rfl
 ·by_cases h3:ty=3
  ·subst h3;obtain ⟨r,a1,a4,a0⟩:=Ff (hP (.inr rfl)) vV hW hO a3 (a2 rfl);refine ⟨r,?_,Nat.le_trans (GL a0) hol,fun h=>absurd h (by decide),fun _=>a0,fun _ h=>absurd rfl h⟩
   rw [a1]; rfl
  ·refine ⟨([],false),?_,Nat.zero_le _,fun h=>absurd h h2,fun h=>absurd h h3,fun _ _=>rfl⟩
   rw [beq_eq_false_iff_ne.2 h2,beq_eq_false_iff_ne.2 h3]; rfl
theorem Kn {h:History} (hS:fJ h) (hc:aK h=some 0) {a:Ask} {t p:Nat} (ha:DX h a t p) :
  ∃ r,iF h a=some r∧kQ h a=some r∧r.1.length≤32∧HY h a (typ (opAt h (t:Int) (p:Int)).Kind) r:=by
 have a6:=hS.len;have hT:fC h a.Key=some (typ (opAt h (t:Int) (p:Int)).Kind):=AV hS hc ha.tl ha.pl ha.e3.symm;have hK:=Gx hS ha.tl ha.pl ha.e1 ha.e2;have hF:cO h a=some (Cy (oth h a) (wro h a)):=Al hS hc;have hO:bf h a=some (oth h a):=Aj hS;have hol:=Lm hS (a:=a);have hW:∀ u ∈ oth h a,aQ h u a.Key=some (wro h a u):=fun u hu=>by
  obtain ⟨⟨h0,h1,_,h3⟩,_⟩:=uL.1 hu;have hn:u.toNat < h.Txns.length:=by omega
  have e:u=(u.toNat:Int):=by omega
  rw [e]
  exact wI ⟨by omega,by omega⟩ (hS.txn u.toNat hn).ops.1
 have hP:=fun a5=>EZ (a:=a) hS ha a5;have a4:=ha.b64;have a3:=ha.b3;generalize typ (opAt h (t:Int) (p:Int)).Kind=ty at hT hK a3 hP;unfold iF kQ
 simp only [hT,hK,hF,Option.bind_some]
 by_cases h2:ty=2
 ·subst h2;obtain ⟨r,a1,a2,a0⟩:=Du (hP (.inl rfl)) hW hO a4;refine ⟨r,?_,?_,Nat.le_trans (Fp a0) hol,fun _=>a0,fun h=>absurd h (by decide),fun h=>absurd rfl h⟩
  ·rw [a1]; rfl
  ·rw [a2]; rfl
 ·by_cases h3:ty=3
  ·subst h3;obtain ⟨r,a1,a2,a0⟩:=Ff (hP (.inr rfl)) vV hW hO a4 (a3 rfl);refine ⟨r,?_,?_,Nat.le_trans (GL a0) hol,fun h=>absurd h (by decide),fun _=>a0,fun _ h=>absurd rfl h⟩
   ·rw [a1]; rfl
   ·rw [a2]; rfl
  ·refine ⟨([],false),?_,?_,Nat.zero_le _,fun h=>absurd h h2,fun h=>absurd h h3,fun _ _=>rfl⟩
   ·rw [beq_eq_false_iff_ne.2 h2,beq_eq_false_iff_ne.2 h3]; rfl
   ·rw [beq_eq_false_iff_ne.2 h2,beq_eq_false_iff_ne.2 h3]; rfl
noncomputable def pts (h:History) (a:Ask):List Int×Bool:=(iF h a).getD ([],false)
theorem Jm {h:History} (hS:fJ h) (hc:aK h=some 0) {a:Ask} (ha:a ∈ aV h h.Txns.length):iF h a=some (pts h a)∧kQ h a=some (pts h a)∧(pts h a).1.length≤32:=by
 obtain ⟨t,p,hk⟩:=BU hS ha;obtain ⟨r,h1,h2,h3,_⟩:=Kn hS hc hk;have e:pts h a=r:=by unfold pts; rw [h1]; rfl
 rw [e]
 exact ⟨h1,h2,h3⟩
section
variable {h:History}
end
end Go.Proofs.YtfpeabnehpclnaaGreatT
namespace Go.Proofs.YtfpeabnehpclnaaGreatT
open Go Go.Proofs Go.Proofs.YtfpeabnehpclnaaGreatE
set_option linter.unusedVariables false
set_option linter.unusedSimpArgs false
def pos (l:List Int) (t:Int):Nat:=l.findIdx (fun x=>decide (x=t))
theorem Oe {l:List Int} {k:Nat} {t:Int}:t ∈ l.take k↔∃ j:Nat,j < k∧j < l.length∧idx l (j:Int)=t:=by
 constructor
 ·intro h;obtain ⟨j,hj,e⟩:=List.getElem_of_mem h
  rw [List.length_take] at hj
  refine ⟨j,by omega,by omega,?_⟩
  rw [dE (n:=j) rfl (by omega),← e,List.getElem_take]
 ·rintro ⟨j,h1,h2,e⟩
  rw [dE (n:=j) rfl h2] at e
  rw [← e]
  exact List.mem_iff_getElem.2 ⟨j,by rw [List.length_take]; omega,by rw [List.getElem_take]⟩
structure GM (h:History) (l:List Int):Prop where
 nd:l.Nodup
 rg:∀ t ∈ l,0≤t∧t < (h.Txns.length:Int)∧(idx h.Txns t).Status≠2
 dn:∀ t:Nat,t < h.Txns.length→(idx h.Txns (t:Int)).Status=1→(t:Int) ∈ l
theorem GM.len {h:History} {l:List Int} (ho:GM h l):l.length≤h.Txns.length:=by
 have h1:∀ x ∈ l,x ∈ (List.range h.Txns.length).map (fun j:Nat=>(j:Int)):=fun x hx=>by
  have:=ho.rg x hx;exact List.mem_map.2 ⟨x.toNat,List.mem_range.2 (by omega),by omega⟩
 have:=vg ho.nd h1
 simpa using this
section
variable {h:History} {l:List Int}
abbrev Ap (m:List (Int×Int)):List Int:=m.map (·.1)
theorem BV {x v:Int}:∀ {m:List (Int×Int)},Ap (iQ m x v)=if x ∈ Ap m then Ap m else Ap m++[x]
 | []=>by simp [iQ]
 | p::m=>by
  unfold iQ
  by_cases e:p.1=x
  ·simp [e]
  ·rw [if_neg e]
   show p.1::Ap (iQ m x v)=_
   rw [BV]
   have e':¬ x=p.1:=fun h=>e h.symm
   by_cases hx:x ∈ Ap m
   ·simp [hx]
   ·simp [hx,e']
structure Fq (l:List Int) (k:Nat) (m:List (Int×Int)):Prop where
 nd:(Ap m).Nodup
 mem:∀ x,x ∈ Ap m↔x ∈ l.take k
 at_:∀ j:Nat,j < k→(∀ i:Nat,j < i→i < k→idx l (i:Int)≠idx l (j:Int))→mat m (idx l (j:Int))=(j:Int)
theorem Fq.zero:Fq l 0 []:=⟨List.nodup_nil,fun x=>by simp,fun j hj=>absurd hj (Nat.not_lt_zero _)⟩
theorem Fq.put {k:Nat} {m:List (Int×Int)} (hm:Fq l k m) (hk:k < l.length):Fq l (k + 1) (iQ m (idx l (k:Int)) (k:Int)):=by
 refine ⟨?_,fun x => ?_,fun j hj hno => ?_⟩
 ·rw [BV]
  split
  ·exact hm.nd
  ·rename_i hx
   rw [List.nodup_append]
   exact ⟨hm.nd,by simp,by intro a ha b hb; rw [List.mem_singleton.1 hb]; intro e; exact hx (e ▸ ha)⟩
 ·rw [BV,oN hk,List.mem_append,List.mem_singleton]
  split
  ·rename_i hx
   rw [hm.mem]
   constructor
   ·exact .inl
   ·rintro (h | rfl)
    ·exact h
    ·exact (hm.mem _).1 hx
  ·rw [List.mem_append,List.mem_singleton,hm.mem]
 ·rw [vY]
  split
  ·rename_i e
   rcases Nat.lt_or_ge j k with h1 | h1
   ·exact absurd e.symm (hno k h1 (by omega))
   ·have:j=k:=by omega
    rw [this]
  ·rename_i e
   rcases Nat.lt_or_ge j k with h1 | h1
   ·exact hm.at_ j h1 (fun i h2 h3=>hno i h2 (by omega))
   ·have:j=k:=by omega
    subst this;exact absurd rfl e
theorem Fq.len {m:List (Int×Int)} (hm:Fq l l.length m):m.length=l.length↔l.Nodup:=by
 have hmem:∀ x,x ∈ Ap m↔x ∈ l:=fun x=>by rw [hm.mem,List.take_length]
 have hl:(Ap m).length=m.length:=List.length_map _
 constructor
 ·intro he
  apply Classical.byContradiction
  intro hn;have:∃ i j:Nat,i < j∧j < l.length∧idx l (i:Int)=idx l (j:Int):=by
   apply Classical.byContradiction
   intro hno;refine hn (List.pairwise_iff_getElem.2 fun i j hi hj hij e=>hno ⟨i,j,hij,hj,?_⟩)
   rw [dE (n:=i) rfl hi,dE (n:=j) rfl hj,e]
  obtain ⟨i,j,hij,hj,e⟩:=this;have hsub:∀ x ∈ Ap m,x ∈ l.eraseIdx j:=fun x hx=>by
   have hx:=(hmem x).1 hx;obtain ⟨q,hq,rfl⟩:=ve hx
   rw [List.mem_eraseIdx_iff_getElem]
   by_cases hqj:q=j
   ·subst hqj;exact ⟨i,by omega,by omega,by rw [← dE (n:=i) rfl (by omega:i < l.length)]; exact e⟩
   ·exact ⟨q,by omega,by omega,(dE (n:=q) rfl hq).symm⟩
  have:=vg hm.nd hsub
  rw [List.length_eraseIdx,if_pos hj] at this
  omega
 ·intro hn;have h1:=vg hm.nd (fun x hx=>(hmem x).1 hx);have h2:=vg hn (fun x hx=>(hmem x).2 hx)
  omega
structure Rl (l:List Int) (m:List (Int×Int)):Prop where
 has:∀ x,qJ m x=true↔x ∈ l
 at_:∀ x ∈ l,mat m x=(pos l x:Int)
structure Rm (h:History) (l:List Int) (at_:List Int):Prop where
 len:at_.length=h.Txns.length
 at_:∀ t:Nat,t < h.Txns.length→idx at_ (t:Int)=if (t:Int) ∈ l then (pos l (t:Int):Int) + 1 else 0
end
end Go.Proofs.YtfpeabnehpclnaaGreatT
namespace Go.Proofs.YtfpeabnehpclnaaGreatT
open Go Go.Proofs Go.Proofs.YtfpeabnehpclnaaGreatE
set_option linter.unusedVariables false
set_option linter.unusedSimpArgs false
abbrev srt (l:List Int):List Int:=l.mergeSort fun x y=>decide (x≤y)
def fin (ty:Int) (w:List Int):List Int:=if ty=1 then w.drop (w.length - 1) else if ty=3 then srt w else if ty=4 then [w64 w.sum] else w
def wrs (h:History) (l:List Int) (key:Int):List Int:=l.flatMap (fun o=>gY h o key)
def Qz (h:History) (l:List Int) (key t:Int):List Int:=if 0≤t then wrs h (l.take (pos l t + 1)) key else []
section
variable {h:History} {l:List Int}
end
end Go.Proofs.YtfpeabnehpclnaaGreatT
namespace Go.Proofs.YtfpeabnehpclnaaGreatT
open Go Go.Proofs Go.Proofs.YtfpeabnehpclnaaGreatE
set_option linter.unusedVariables false
set_option linter.unusedSimpArgs false
def QU (h:History) (l:List Int):Prop:=∀ i k:Nat,k < i→i < h.Txns.length→(idx h.Txns (i:Int)).Proc=(idx h.Txns (k:Int)).Proc→(i:Int) ∈ l→(k:Int) ∈ l→pos l (k:Int) < pos l (i:Int)
def Ahead (h:History) (l:List Int) (a:Ask) (p:Int):Prop:=p ∈ l∧pos l p < pos l a.Txn∧0 < (gY h p a.Key).length
def kd (h:History) (a:Ask):Int:=typ (opAt h a.Txn a.Place).Kind
def ver (h:History) (l:List Int) (a:Ask) (p:Int):List Int:=fin (kd h a) (Qz h l a.Key p)
open Classical in
noncomputable def QV (h:History) (l:List Int) (a:Ask) (p:Int):Int:=if p ≠ -1 ∧ ¬ Ahead h l a p then 5 else if ver h l a p≠a.Base then 6 else 0
def First (n:Nat) (v:Nat→Int) (r:Int):Prop:=(r=0∧∀ i,i < n→v i=0)∨(∃ i,i < n∧v i=r∧r≠0∧∀ j,j < i→v j=0)
theorem First.det {n:Nat} {v:Nat→Int} {r s:Int} (h1:First n v r) (h2:First n v s):r=s:=by
 rcases h1 with ⟨rfl,h1⟩ | ⟨i,hi,e1,n1,b1⟩ <;> rcases h2 with ⟨rfl,h2⟩ | ⟨j,hj,e2,n2,b2⟩
 ·rfl
 ·exact absurd (e2.symm.trans (h1 j hj)) n2
 ·exact absurd (e1.symm.trans (h2 i hi)) n1
 ·rcases Nat.lt_trichotomy i j with h | h | h
  ·exact absurd (e1.symm.trans (b2 i h)) n1
  ·subst h; exact e1.symm.trans e2
  ·exact absurd (e2.symm.trans (b1 j h)) n2
theorem First.congr {n:Nat} {v u:Nat→Int} {r:Int} (h:First n v r) (e:∀ i,i < n→v i=u i):First n u r:=by
 rcases h with ⟨h1,h2⟩ | ⟨i,hi,e1,n1,b1⟩
 ·exact .inl ⟨h1,fun i hi=>(e i hi).symm.trans (h2 i hi)⟩
 ·exact .inr ⟨i,hi,(e i hi).symm.trans e1,n1,fun j hj=>(e j (by omega)).symm.trans (b1 j hj)⟩
inductive Why (h:History) (x:Exec):Int→Prop
 | bad:mH h h.Txns.length≠[]→Why h x 1
 | order:mH h h.Txns.length=[] → ¬ GM h x.Order→Why h x 2
 | picks:mH h h.Txns.length=[]→GM h x.Order→x.Picks.length≠(aV h h.Txns.length).length→Why h x 3
 | sess:mH h h.Txns.length=[]→GM h x.Order→x.Picks.length=(aV h h.Txns.length).length → ¬ QU h x.Order→Why h x 4
 | pick {r:Int}:mH h h.Txns.length=[]→GM h x.Order→x.Picks.length=(aV h h.Txns.length).length→QU h x.Order →
   First (aV h h.Txns.length).length (fun i=>QV h x.Order (idx (aV h h.Txns.length) (i:Int)) (idx x.Picks (i:Int))) r→Why h x r
theorem Why.det {h:History} {x:Exec} {r s:Int} (h1:Why h x r) (h2:Why h x s):r=s:=by
 cases h1 <;> cases h2 <;> first | rfl | contradiction | exact First.det ‹_› ‹_›
section
variable {h:History} {l:List Int} {m:List (Int×Int)}
theorem Og {a:Ask} {t p:Nat} (hk:DX h a t p):kd h a=typ (opAt h (t:Int) (p:Int)).Kind:=by
 unfold kd
 rw [hk.e1,hk.e2]
theorem Oh (hS:fJ h) (hc:aK h=some 0) {a:Ask} (ha:a ∈ aV h h.Txns.length):fC h a.Key=some (kd h a):=by
 obtain ⟨t,p,hk⟩:=BU hS ha
 rw [Og hk]
 exact AV hS hc hk.tl hk.pl hk.e3.symm
end
end Go.Proofs.YtfpeabnehpclnaaGreatT
namespace Go.Proofs.YtfpeabnehpclnaaGreatT
open Go Go.Proofs Go.Proofs.YtfpeabnehpclnaaGreatE
set_option linter.unusedVariables false
set_option linter.unusedSimpArgs false
section
variable {h:History} {l at_:List Int}
end
end Go.Proofs.YtfpeabnehpclnaaGreatT
namespace Go.Proofs.YtfpeabnehpclnaaGreatT
open Go Go.Proofs Go.Proofs.YtfpeabnehpclnaaGreatE
set_option linter.unusedVariables false
set_option linter.unusedSimpArgs false
end Go.Proofs.YtfpeabnehpclnaaGreatT
namespace Go.Proofs.YtfpeabnehpclnaaGreatT
open Go Go.Proofs Go.Proofs.YtfpeabnehpclnaaGreatE
set_option linter.unusedVariables false
set_option linter.unusedSimpArgs false
section
variable {h:History}
abbrev don (h:History) (t:Nat):Prop:=(idx h.Txns (t:Int)).Status=1
def ff (h:History) (p:Int):Nat→Option Nat
 | 0=>none
 | d + 1=>if don h (h.Txns.length - (d + 1))∧(idx h.Txns ((h.Txns.length - (d + 1):Nat):Int)).Proc=p then some (h.Txns.length - (d + 1)) else ff h p d
def soE (h:History) (a:Nat):List Edge:=if don h a then (match ff h (idx h.Txns (a:Int)).Proc (h.Txns.length - 1 - a) with | some b=>[⟨a,b,1,-1⟩] | none=>[]) else []
def HZ (h:History) (a b:Nat):List Edge:=if don h a∧don h b∧(idx h.Txns (a:Int)).To < (idx h.Txns (b:Int)).From then [⟨a,b,2,-1⟩] else []
def rtE (h:History) (a k:Nat):List Edge:=(List.range k).flatMap (HZ h a)
def upE {β:Type} (f:Nat→List β) (k:Nat):List β:=(List.range k).flatMap f
theorem oJ {β:Type} {f:Nat→List β} {k:Nat}:upE f (k + 1)=upE f k++f k:=by
 unfold upE
 rw [List.range_succ,List.flatMap_append]
 simp
theorem vW {β:Type} {f:Nat→List β} {m:Nat} (hf:∀ k,(f k).length≤m):∀ k,(upE f k).length≤k * m
 | 0=>by simp [upE]
 | k + 1=>by
  rw [oJ,List.length_append,Nat.add_mul,Nat.one_mul]
  have:=vW hf k;have:=hf k
  omega
theorem PP {a:Nat}:(soE h a).length≤1:=by
 unfold soE
 split
 ·split <;> simp
 ·simp
theorem Oi {a b:Nat}:(HZ h a b).length≤1:=by
 unfold HZ
 split <;> simp
theorem CB {a k:Nat}:rtE h a (k + 1)=rtE h a k++HZ h a k:=oJ
theorem Ia {a k:Nat}:(rtE h a k).length≤k:=by
 have:=vW (f:=HZ h a) (fun k=>Oi) k
 rwa [Nat.mul_one] at this
abbrev soL (h:History) (k:Nat):List Edge:=upE (soE h) k
abbrev rtL (h:History) (k:Nat):List Edge:=upE (fun a=>rtE h a h.Txns.length) k
theorem Ev {k:Nat}:(soL h k).length≤k:=by
 have:=vW (f:=soE h) (fun k=>PP) k
 rwa [Nat.mul_one] at this
theorem Ib (hS:fJ h) {k:Nat} (hk:k≤h.Txns.length):(rtL h k).length≤1024:=by
 have a0:=hS.len;have h1:(rtL h k).length≤k * 32:=vW (fun k=>Nat.le_trans Ia a0) k
 omega
theorem Ew {m:aH} {t:Nat} (ht:t < m.h.Txns.length):jh m (t:Int)=some (decide (don m.h t)):=by
 unfold jh
 rw [kz _ (by omega)]
 by_cases h1:don m.h t
 ·rw [decide_eq_true h1,show ((idx m.h.Txns (t:Int)).Status == 1)=true from beq_iff_eq.2 h1]
 ·rw [decide_eq_false h1,show ((idx m.h.Txns (t:Int)).Status == 1)=false from beq_eq_false_iff_ne.2 h1]
theorem Dz {m:aH} {a b k y:Int} (hl:m.edges.length < 2 ^ 40):fO m a b k y=some ⟨m.h,m.asks,m.edges++[⟨a,b,k,y⟩]⟩:=by
 unfold fO
 rw [kz _ (by omega)]
def nx (h:History) (t:Nat):Int:=if don h t then (match ff h (idx h.Txns (t:Int)).Proc (h.Txns.length - 1 - t) with | some b=>(b:Int) | none => -1) else -1
theorem QA {t:Nat}:soE h t=if nx h t ≥ 0 then [⟨t,nx h t,1,-1⟩] else []:=by
 unfold soE nx
 split
 ·split
  ·rename_i b _
   rw [if_pos (by omega)]
  ·rw [if_neg (by omega)]
 ·rw [if_neg (by omega)]
theorem Gd {m:aH} (a6:m.h.Txns.length≤32) (hl:m.edges.length < 2 ^ 30):aW m=some ⟨m.h,m.asks,m.edges++soL m.h m.h.Txns.length⟩:=by
 refine dS.1 ?_;unfold aW;refine ai (by omega) ?_;have hn:(m.h.Txns.length:Int).toNat=m.h.Txns.length:=by omega
 rw [hn]
 by_cases h0:m.h.Txns.length=0
 ·
  rw [zl]
  unfold kG
  dsimp only
  have hw:w64 ((m.h.Txns.length:Int) - 1) = -1:=by rw [h0]; decide
  rw [hw,decide_eq_false (by decide),cond_false,zl]
  unfold kF
  dsimp only
  rw [List.length_replicate,decide_eq_false (by omega),cond_false]
  refine ⟨_,rfl,?_⟩
  rw [h0]
  simp [soL,upE]
 have hw:w64 ((m.h.Txns.length:Int) - 1)=((m.h.Txns.length:Int) - 1 - (0:Nat)):=by rw [qH (by omega) (by omega)]; omega
 rw [hw]
 refine bY (k0:=0) m.h.Txns.length (fun k s=>s.1.length=m.h.Txns.length∧s.2.2=(m.h.Txns.length:Int) - 1 - (k:Int)∧(∀ t:Nat,m.h.Txns.length - k≤t→t < m.h.Txns.length→idx s.1 (t:Int)=nx m.h t) ∧
  ∀ p:Int,(qJ s.2.1 p=true↔(ff m.h p k).isSome=true)∧∀ b,ff m.h p k=some b→mat s.2.1 p=(b:Int)) (Nat.zero_le _)
  ⟨by simp,rfl,fun t h1 h2=>by omega,fun p=>⟨by simp [Jz,ff],fun b hb=>(nomatch hb)⟩⟩ ?_
 rintro k ⟨l,mp,x⟩ hk ⟨e1,rfl,e3,e4⟩
 dsimp only at e1 e3 e4
 unfold kG
 dsimp only
 refine aA (fun h1 => ?_) (fun h1 => ?_)
 ·have a1:k < m.h.Txns.length:=by omega
  obtain ⟨t,ht,hx⟩:∃ t:Nat,t < m.h.Txns.length∧(m.h.Txns.length:Int) - 1 - (k:Int)=(t:Int):=⟨m.h.Txns.length - 1 - k,by omega,by omega⟩
  have htk:t=m.h.Txns.length - (k + 1):=by omega
  have a2:m.h.Txns.length - 1 - t=k:=by omega
  rw [hx]
  have a5:w64 ((t:Int) - 1)=(m.h.Txns.length:Int) - 1 - ((k + 1:Nat):Int):=by rw [qH (by omega) (by omega)]; omega
  have hset:∀ v:Int,∀ u:Nat,u < m.h.Txns.length→idx (l.set t v) (u:Int)=if u=t then v else idx l (u:Int):=fun v u hu=>by
   rw [dE (n:=u) rfl (by simpa using by omega),List.getElem_set]
   by_cases e:t=u
   ·rw [if_pos e,if_pos e.symm]
   ·rw [if_neg e,if_neg (fun h=>e h.symm),dE (n:=u) rfl (by omega)]
  have hset2:∀ v v':Int,(l.set t v).set t v'=l.set t v':=fun v v'=>by simp
  have hto:(t:Int).toNat=t:=by omega
  refine ai (by omega) (bB (Ew (m:=m) ht) ?_);unfold kD kC
  rw [a5,hto]
  have ffk:∀ p,ff m.h p (k + 1)=if don m.h t∧(idx m.h.Txns (t:Int)).Proc=p then some t else ff m.h p k:=fun p=>by
   have e:ff m.h p (k + 1)=if don m.h (m.h.Txns.length - (k + 1))∧(idx m.h.Txns ((m.h.Txns.length - (k + 1):Nat):Int)).Proc=p then some (m.h.Txns.length - (k + 1)) else ff m.h p k:=rfl
   rw [e,← htk]
  by_cases hd:don m.h t
  ·rw [decide_eq_true hd]
   refine aA (fun h=>absurd h (by simp)) (fun _ => ?_);refine ai (by omega) ?_;have last:∀ v,v=nx m.h t→Upm m.h.Txns.length k (fun (k:Nat) (s:List Int×List (Int×Int)×Int)=>s.1.length=m.h.Txns.length∧s.2.2=(m.h.Txns.length:Int) - 1 - (k:Int)∧(∀ t:Nat,m.h.Txns.length - k≤t→t < m.h.Txns.length→idx s.1 (t:Int)=nx m.h t) ∧
      ∀ p:Int,(qJ s.2.1 p=true↔(ff m.h p k).isSome=true)∧∀ b,ff m.h p k=some b→mat s.2.1 p=(b:Int)) (fun b:aH=>b=⟨m.h,m.asks,m.edges++soL m.h m.h.Txns.length⟩)
     (.inl (l.set t v,iQ mp (idx m.h.Txns (t:Int)).Proc (t:Int),(m.h.Txns.length:Int) - 1 - ((k + 1:Nat):Int))):=fun v hv=>by
    refine ⟨a1,by dsimp only; simp [e1],rfl,fun u a3 a0 => ?_,fun p => ?_⟩
    ·dsimp only
     rw [hset v u a0]
     by_cases e:u=t
     ·rw [if_pos e,hv,e]
     ·rw [if_neg e]; exact e3 u (by omega) a0
    ·dsimp only
     rw [CJ,vY,ffk p]
     by_cases e:(idx m.h.Txns (t:Int)).Proc=p
     ·rw [if_pos ⟨hd,e⟩,if_pos e.symm]
      exact ⟨by simp [e],fun b hb=>by cases hb; rfl⟩
     ·rw [if_neg (fun h=>e h.2),if_neg (fun h=>e h.symm)]
      refine ⟨⟨fun h => ?_,fun h => .inr ((e4 p).1.2 h)⟩,(e4 p).2⟩;rcases h with h | h
      ·exact absurd h.symm e
      ·exact (e4 p).1.1 h
   refine aA (fun h2 => ?_) (fun h2 => ?_)
   ·have h3:=(e4 (idx m.h.Txns (t:Int)).Proc).1.1 h2;obtain ⟨b,hb⟩:=Option.isSome_iff_exists.1 h3;have h4:=(e4 (idx m.h.Txns (t:Int)).Proc).2 b hb;refine ai (by simp [e1]; omega) (ai (by omega) (ag ?_))
    rw [hset2,h4]
    refine last _ ?_;unfold nx
    rw [if_pos hd,a2,hb]
   ·refine ai (by omega) (ag (last _ ?_));have h3:ff m.h (idx m.h.Txns (t:Int)).Proc k=none:=by
     cases h4:ff m.h (idx m.h.Txns (t:Int)).Proc k with
     | none=>rfl
     | some b=>exact absurd ((e4 _).1.2 (by rw [h4]; rfl)) (by simpa using h2)
    unfold nx
    rw [if_pos hd,a2,h3]
  ·rw [decide_eq_false hd]
   rw [Bool.not_false,cond_true]
   refine ag ⟨a1,by dsimp only; simp [e1],rfl,fun u a3 a0 => ?_,fun p => ?_⟩
   ·dsimp only
    rw [hset _ u a0]
    by_cases e:u=t
    ·rw [if_pos e,e]; unfold nx; rw [if_neg hd]
    ·rw [if_neg e]; exact e3 u (by omega) a0
   ·rw [ffk p,if_neg (fun h=>hd h.1)]
    exact e4 p
 ·have:k=m.h.Txns.length:=by omega
  subst this;refine bY (k0:=0) l.length (fun k s=>s=(m.edges++soL m.h k,(k:Int))) (Nat.zero_le _) (by simp [soL,upE]) ?_;rintro k s hk ⟨rfl⟩;have a4:w64 ((k:Int) + 1)=((k + 1:Nat):Int):=aZ (by omega);have hsl:=Ev (h:=m.h) (k:=k);unfold kF kE
  dsimp only
  rw [a4]
  refine aA (fun h2 => ?_) (fun h2 => ?_)
  ·have a1:k < m.h.Txns.length:=by omega
   refine ai (by omega) ?_
   rw [e3 k (by omega) a1]
   have hsu:soL m.h (k + 1)=soL m.h k++soE m.h k:=oJ
   rw [QA] at hsu
   refine aA (fun h3 => ?_) (fun h3 => ?_)
   ·refine bB (Dz (by simp only [List.length_append]; omega)) (ag ⟨by omega,?_⟩)
    dsimp only
    rw [hsu,if_pos h3,List.append_assoc]
   ·refine ag ⟨by omega,?_⟩
    dsimp only
    rw [hsu,if_neg h3,List.append_nil]
  ·have:k=l.length:=by omega
   subst this;refine aB (aB (ag ?_))
   show aH.mk _ _ _=_
   rw [e1]
theorem Ml {m:aH} (hS:fJ m.h) (hl:m.edges.length < 2 ^ 30):bU m=some ⟨m.h,m.asks,m.edges++rtL m.h m.h.Txns.length⟩:=by
 have a4:=hS.len;refine dS.1 ?_;unfold bU;refine bY (k0:=0) m.h.Txns.length (fun k s=>s=(m.edges++rtL m.h k,(k:Int))) (Nat.zero_le _) (by simp [rtL,upE]) ?_;rintro k s hk rfl;have hw:w64 ((k:Int) + 1)=((k + 1:Nat):Int):=aZ (by omega);have hrl:=Ib hS hk;unfold rX
 dsimp only
 refine aA (fun h1 => ?_) (fun h1 => ?_)
 ·have a1:k < m.h.Txns.length:=by omega
  refine ai (by omega) ?_;refine bY (k0:=0) m.h.Txns.length (fun q s=>s=(m.edges++rtL m.h k++rtE m.h k q,(q:Int))) (Nat.zero_le _) (by simp [rtE]) ?_;rintro q s hq rfl;have a3:w64 ((q:Int) + 1)=((q + 1:Nat):Int):=aZ (by omega);have hel:=Ia (h:=m.h) (a:=k) (k:=q);unfold rW kS nQ
  dsimp only
  rw [hw,a3]
  refine aA (fun h2 => ?_) (fun h2 => ?_)
  ·have a0:q < m.h.Txns.length:=by omega
   refine ai (by omega) (bB (Ew (m:=⟨m.h,m.asks,_⟩) a1) ?_);have no:¬ (don m.h k∧don m.h q∧(idx m.h.Txns (k:Int)).To < (idx m.h.Txns (q:Int)).From)→Tri (bif false then (fO (⟨m.h,m.asks,m.edges++rtL m.h k++rtE m.h k q⟩:aH) (k:Int) (q:Int) 2 (-1)).bind fun a2=>some (.inl (a2.edges,((q + 1:Nat):Int))) else some (.inl (m.edges++rtL m.h k++rtE m.h k q,((q + 1:Nat):Int))))
     (Upm m.h.Txns.length q (fun q s=>s=(m.edges++rtL m.h k++rtE m.h k q,(q:Int))) (Upm m.h.Txns.length k (fun k s=>s=(m.edges++rtL m.h k,(k:Int))) (fun b:aH=>b=⟨m.h,m.asks,m.edges++rtL m.h m.h.Txns.length⟩))):=fun hn=>by
    rw [cond_false]
    refine ag ⟨a0,?_⟩
    dsimp only
    rw [CB,HZ,if_neg hn,List.append_nil]
   by_cases d1:don m.h k
   rotate_left
   ·rw [decide_eq_false d1,cond_false]; exact no (fun h=>d1 h.1)
   rw [decide_eq_true d1,cond_true]
   refine bB (Ew (m:=⟨m.h,m.asks,_⟩) a0) ?_
   by_cases d2:don m.h q
   rotate_left
   ·rw [decide_eq_false d2,cond_false]; exact no (fun h=>d2 h.2.1)
   rw [decide_eq_true d2,cond_true]
   by_cases d3:(idx m.h.Txns (k:Int)).To < (idx m.h.Txns (q:Int)).From
   rotate_left
   ·rw [decide_eq_false d3]; exact no (fun h=>d3 h.2.2)
   rw [decide_eq_true d3,cond_true]
   refine bB (Dz (by simp only [List.length_append]; omega)) (ag ⟨a0,?_⟩)
   dsimp only
   rw [CB,HZ,if_pos ⟨d1,d2,d3⟩,List.append_assoc]
  ·have:q=m.h.Txns.length:=by omega
   subst this;refine aB (ag ⟨a1,?_⟩);have e:rtL m.h (k + 1)=rtL m.h k++rtE m.h k m.h.Txns.length:=oJ
   dsimp only
   rw [e,List.append_assoc]
 ·have:k=m.h.Txns.length:=by omega
  subst this;exact aB (ag rfl)
theorem Ko (hS:fJ h):aG h=some (soL h h.Txns.length++rtL h h.Txns.length):=by
 have a6:=hS.len;refine dS.1 ?_;unfold aG;refine bY (k0:=0) h.Txns.length (fun k s=>s=(soL h k,(k:Int))) (Nat.zero_le _) (by simp [soL,upE]) ?_;rintro k s hk rfl;have hw:w64 ((k:Int) + 1)=((k + 1:Nat):Int):=aZ (by omega);have hsl:=Ev (h:=h) (k:=k);have hsu:soL h (k + 1)=soL h k++soE h k:=oJ;unfold qC jU
 dsimp only
 rw [hw]
 refine aA (fun h1 => ?_) (fun h1 => ?_)
 ·have a0:k < h.Txns.length:=by omega
  refine ai (by omega) ?_;refine aA (fun h2 => ?_) (fun h2 => ?_)
  ·refine ag ⟨a0,?_⟩
   dsimp only
   rw [hsu,soE,if_neg h2,List.append_nil]
  ·have hd:don h k:=Classical.byContradiction h2;refine bY (k0:=k + 1) h.Txns.length (fun b s=>s=(b:Int)∧ff h (idx h.Txns (k:Int)).Proc (h.Txns.length - 1 - k)=ff h (idx h.Txns (k:Int)).Proc (h.Txns.length - b)) (by omega) ⟨rfl,by congr 1; omega⟩ ?_
   rintro b s hb ⟨rfl,hf⟩;have a1:w64 ((b:Int) + 1)=((b + 1:Nat):Int):=aZ (by omega);unfold qA mq mo jU
   dsimp only
   rw [hw,a1]
   refine aA (fun h3 => ?_) (fun h3 => ?_)
   ·have a3:b < h.Txns.length:=by omega
    have hfb:ff h (idx h.Txns (k:Int)).Proc (h.Txns.length - b)=if don h b∧(idx h.Txns (b:Int)).Proc=(idx h.Txns (k:Int)).Proc then some b else ff h (idx h.Txns (k:Int)).Proc (h.Txns.length - (b + 1)):=by
     obtain ⟨d,a5⟩:∃ d,h.Txns.length - b=d + 1:=⟨h.Txns.length - b - 1,by omega⟩
     have e:h.Txns.length - (d + 1)=b:=by omega
     rw [a5,show h.Txns.length - (b + 1)=d by omega]
     show (if don h (h.Txns.length - (d + 1))∧(idx h.Txns ((h.Txns.length - (d + 1):Nat):Int)).Proc=_ then some (h.Txns.length - (d + 1)) else _)=_
     rw [e]
    have no:¬ (don h b∧(idx h.Txns (b:Int)).Proc=(idx h.Txns (k:Int)).Proc)→Tri (bif false then must (((soL h k).length + 1 + ((soL h k).length + 1) / 4 + 192) * 32≤281474976710656∧(soL h k).length + 1≤9223372036854775807) (out (some (.inl (soL h k++([(⟨(k:Int),(b:Int),1,(-1)⟩:Edge)]:List Edge),((k + 1:Nat):Int))))) else (some (.inl ((b + 1:Nat):Int))))
      (Upm h.Txns.length b (fun b s=>s=(b:Int)∧ff h (idx h.Txns (k:Int)).Proc (h.Txns.length - 1 - k)=ff h (idx h.Txns (k:Int)).Proc (h.Txns.length - b)) (Upm h.Txns.length k (fun k s=>s=(soL h k,(k:Int))) (fun b:List Edge=>b=soL h h.Txns.length++rtL h h.Txns.length))):=fun hn=>by
     rw [cond_false]
     exact ag ⟨a3,rfl,by rw [hf,hfb,if_neg hn]⟩
    refine ai (by omega) ?_;refine aA (fun h4 => ?_) (fun h4=>no (fun h=>h4 h.1))
    by_cases h5:(idx h.Txns (b:Int)).Proc=(idx h.Txns (k:Int)).Proc
    ·rw [beq_iff_eq.2 h5,cond_true]
     refine ai (by omega) (aB (ag ⟨a0,?_⟩))
     dsimp only
     rw [hsu,soE,if_pos hd,hf,hfb,if_pos ⟨h4,h5⟩]
    ·rw [beq_eq_false_iff_ne.2 h5]
     exact no (fun h=>h5 h.2)
   ·have:b=h.Txns.length:=by omega
    subst this;refine aB (ag ⟨a0,?_⟩)
    dsimp only
    rw [hsu,soE,if_pos hd,hf,Nat.sub_self]
    show _=(soL h k++[],_)
    rw [List.append_nil]
 ·have:k=h.Txns.length:=by omega
  subst this
  suffices a4:Tri (iter (mD h) (soL h h.Txns.length,0)) (fun y:(List Edge×Int) ⊕ List Edge=>y = .inr (soL h h.Txns.length++rtL h h.Txns.length)) from fT a4 (by rintro y rfl; rfl)
  refine bY (k0:=0) h.Txns.length (fun k s=>s=(soL h h.Txns.length++rtL h k,(k:Int))) (Nat.zero_le _) (by simp [rtL,upE]) ?_;rintro k s hk rfl;have hw:w64 ((k:Int) + 1)=((k + 1:Nat):Int):=aZ (by omega);have hrl:=Ib hS hk;unfold mD
  dsimp only
  refine aA (fun h1 => ?_) (fun h1 => ?_)
  ·have a0:k < h.Txns.length:=by omega
   refine bY (k0:=0) h.Txns.length (fun q s=>s=(soL h h.Txns.length++rtL h k++rtE h k q,(q:Int))) (Nat.zero_le _) (by simp [rtE]) ?_;rintro q s hq rfl;have a1:w64 ((q:Int) + 1)=((q + 1:Nat):Int):=aZ (by omega);have hel:=Ia (h:=h) (a:=k) (k:=q);unfold qB jV mr
   dsimp only
   rw [hw,a1]
   refine aA (fun h2 => ?_) (fun h2 => ?_)
   ·have a2:q < h.Txns.length:=by omega
    refine ai (by omega) ?_;have no:¬ (don h k∧don h q∧(idx h.Txns (k:Int)).To < (idx h.Txns (q:Int)).From)→Tri (bif false then must (((soL h h.Txns.length++rtL h k++rtE h k q).length + 1 + ((soL h h.Txns.length++rtL h k++rtE h k q).length + 1) / 4 + 192) * 32≤281474976710656∧(soL h h.Txns.length++rtL h k++rtE h k q).length + 1≤9223372036854775807) (some (.inl (soL h h.Txns.length++rtL h k++rtE h k q++([(⟨(k:Int),(q:Int),2,(-1)⟩:Edge)]:List Edge),((q + 1:Nat):Int)))) else (some (.inl (soL h h.Txns.length++rtL h k++rtE h k q,((q + 1:Nat):Int)))))
      (Upm h.Txns.length q (fun q s=>s=(soL h h.Txns.length++rtL h k++rtE h k q,(q:Int))) (Upm h.Txns.length k (fun k s=>s=(soL h h.Txns.length++rtL h k,(k:Int))) (fun y:(List Edge×Int) ⊕ List Edge=>y = .inr (soL h h.Txns.length++rtL h h.Txns.length)))):=fun hn=>by
     rw [cond_false]
     refine ag ⟨a2,?_⟩
     dsimp only
     rw [CB,HZ,if_neg hn,List.append_nil]
    refine aA (fun h3 => ?_) (fun h3=>no (fun h=>h3 h.1));refine ai (by omega) ?_;refine aA (fun h4 => ?_) (fun h4=>no (fun h=>h4 h.2.1))
    by_cases h5:(idx h.Txns (k:Int)).To < (idx h.Txns (q:Int)).From
    ·rw [decide_eq_true h5,cond_true]
     refine ai (by simp only [List.length_append]; omega) (ag ⟨a2,?_⟩)
     dsimp only
     rw [CB,HZ,if_pos ⟨h3,h4,h5⟩,List.append_assoc]
    ·rw [decide_eq_false h5]
     exact no (fun h=>h5 h.2.2)
   ·have:q=h.Txns.length:=by omega
    subst this;refine aB (ag ⟨a0,?_⟩);have e:rtL h (k + 1)=rtL h k++rtE h k h.Txns.length:=oJ
    dsimp only
    rw [e,List.append_assoc]
  ·have:k=h.Txns.length:=by omega
   subst this;exact aB (aB (ag rfl))
end
end Go.Proofs.YtfpeabnehpclnaaGreatT
namespace Go.Proofs.YtfpeabnehpclnaaGreatT
open Go Go.Proofs Go.Proofs.YtfpeabnehpclnaaGreatE
set_option linter.unusedVariables false
set_option linter.unusedSimpArgs false
section
variable {h:History}
theorem PQ (hS:fJ h) (hc:aK h=some 0) {a:Ask} {t p:Nat} (hk:DX h a t p):Ao h a (typ (opAt h (t:Int) (p:Int)).Kind) (mV h a):=by
 obtain ⟨s,h1,_,h3⟩:=Cz hS hc hk;have e:mV h a=s:=by unfold mV; rw [h1]; rfl
 rw [e]
 exact h3
theorem QB (hS:fJ h) (hc:aK h=some 0) {a:Ask} {t p:Nat} (hk:DX h a t p):(pts h a).1.length≤32∧HY h a (typ (opAt h (t:Int) (p:Int)).Kind) (pts h a):=by
 obtain ⟨r,h1,h2,h3⟩:=Km hS hc hk;have e:pts h a=r:=by unfold pts; rw [h1]; rfl
 rw [e]
 exact ⟨h2,h3⟩
theorem QC (hS:fJ h) (hc:aK h=some 0) {a:Ask} (ha:a ∈ aV h h.Txns.length) {x:Int} (hx:x ∈ mV h a):x = -1∨x ∈ oth h a:=by
 classical
 obtain ⟨t,p,hk⟩:=BU hS ha;have h2:=PQ hS hc hk;generalize mV h a=s at h2 hx;unfold Ao at h2
 split at h2
 ·rw [h2] at hx
  rcases List.mem_append.1 hx with hx | hx
  ·split at hx
   ·exact .inl (by simpa using hx)
   ·simp at hx
  ·right
   unfold picks at hx
   simp only [List.mem_map,List.mem_filter,List.mem_range,decide_eq_true_eq] at hx
   obtain ⟨j,⟨h1,_⟩,rfl⟩:=hx;exact gz h1
 ·split at h2
  ·rw [h2] at hx
   exact .inl (by simpa using hx)
  ·rename_i hb
   split at h2
   ·rw [h2] at hx
    exact .inr (List.mem_filter.1 hx).1
   ·split at h2
    ·obtain ⟨r,hr,rfl⟩:=h2;rcases hr with ⟨q1,q2,q3,q4⟩ | ⟨rfl,_⟩
     ·rw [if_pos q1,List.mem_singleton] at hx
      right
      rw [hx]
      refine q2 _ ?_;have hne:0 < r.1.length:=by
       rcases Nat.eq_zero_or_pos r.1.length with h0 | h0
       ·rw [List.length_eq_zero_iff.1 h0] at q4
        rw [q4] at hb
        exact absurd rfl hb
       ·exact h0
      unfold zq;exact gz (by omega)
     ·simp at hx
    ·obtain ⟨r,hr,rfl⟩:=h2;rcases hr with ⟨rfl,_⟩ | ⟨rfl,_⟩
     ·exact .inr (List.mem_filter.1 hx).1
     ·simp at hx
theorem Fs (hS:fJ h) (hc:aK h=some 0) {a:Ask} (ha:a ∈ aV h h.Txns.length):(∀ x ∈ (pts h a).1,x ∈ oth h a)∧(pts h a).1.Nodup∧((pts h a).2=true→kd h a=2∨kd h a=3)∧(pts h a).1.length≤32:=by
 obtain ⟨t,p,hk⟩:=BU hS ha;obtain ⟨hl,p2,p3,p4⟩:=QB hS hc hk
 rw [Og hk]
 generalize typ (opAt h (t:Int) (p:Int)).Kind=ty at p2 p3 p4;generalize pts h a=r at p2 p3 p4 hl
 by_cases e2:ty=2
 ·rcases p2 e2 with ⟨_,q1,q2,_⟩ | ⟨rfl,_⟩
  ·exact ⟨q1,q2,fun _ => .inl e2,hl⟩
  ·exact ⟨fun x hx=>(nomatch hx),List.nodup_nil,fun _ => .inl e2,hl⟩
 ·by_cases e3:ty=3
  ·rcases p3 e3 with ⟨rfl,_⟩ | ⟨rfl,_⟩
   ·exact ⟨fun x hx=>(List.mem_filter.1 hx).1,vV.filter _,fun _ => .inr e3,hl⟩
   ·exact ⟨fun x hx=>(nomatch hx),List.nodup_nil,fun _ => .inr e3,hl⟩
  ·have:=p4 e2 e3;subst this;exact ⟨fun x hx=>(nomatch hx),List.nodup_nil,fun h=>(nomatch h),hl⟩
open Classical
def made (h:History) (a:Ask):Prop:=(pts h a).2=true∧0 < a.Base.length
noncomputable def dwr (h:History) (a:Ask):List Int:=(fG h a.Key h.Txns.length).filter (fun t=>decide (¬ (t=a.Txn∨(idx h.Txns t).Status≠1)))
theorem AZ {a:Ask}:(dwr h a).length≤h.Txns.length:=Nat.le_trans (List.length_filter_le _ _) oM
def ovr (h:History) (a:Ask) (t:Int):Prop:=mV h a=[-1]∨(made h a∧t ∉ (pts h a).1) ∨
 (¬ made h a∧kd h a=1∧∃ p,mV h a=[p]∧p≠t∧∃ b ∈ aV h h.Txns.length,b.Txn=t∧b.Key=a.Key∧mV h b=[p])
noncomputable def wrE (h:History) (a:Ask):List Edge:=match mV h a with
 | [p]=>if p = -1 then [] else [⟨p,a.Txn,4,a.Key⟩]
 | _=>[]
noncomputable def wwT (h:History) (a:Ask) (p t:Int):List Edge:=if t ∈ (pts h a).1 then [] else [⟨p,t,8,a.Key⟩]
noncomputable def wX (h:History) (a:Ask) (i:Nat):List Edge:=if kd h a=2∧i + 1 < (pts h a).1.length then [⟨idx (pts h a).1 (i:Int),idx (pts h a).1 ((i + 1:Nat):Int),8,a.Key⟩]
 else upE (fun k=>wwT h a (idx (pts h a).1 (i:Int)) (idx (dwr h a) (k:Int))) (dwr h a).length
noncomputable def wwE (h:History) (a:Ask):List Edge:=if made h a then upE (wX h a) (pts h a).1.length else []
noncomputable def rwT (h:History) (a:Ask) (t:Int):List Edge:=if ovr h a t then [⟨a.Txn,t,16,a.Key⟩] else []
noncomputable def rwE (h:History) (a:Ask):List Edge:=upE (fun k=>rwT h a (idx (dwr h a) (k:Int))) (dwr h a).length
noncomputable def Ic (h:History) (a:Ask):List Edge:=wrE h a++wwE h a++rwE h a
theorem PR {a:Ask}:(wrE h a).length≤1:=by
 unfold wrE
 split
 ·split <;> simp
 ·simp
theorem Ie {a:Ask} {p t:Int}:(wwT h a p t).length≤1:=by unfold wwT; split <;> simp
theorem PS {a:Ask} {t:Int}:(rwT h a t).length≤1:=by unfold rwT; split <;> simp
theorem Oj (hS:fJ h) {a:Ask} {i:Nat}:(wX h a i).length≤32:=by
 unfold wX
 split
 ·simp
 ·have:=vW (f:=fun k=>wwT h a (idx (pts h a).1 (i:Int)) (idx (dwr h a) (k:Int))) (m:=1) (fun k=>Ie) (dwr h a).length;have h1:=AZ (h:=h) (a:=a);have h2:=hS.len
  omega
theorem Ig {a:Ask} {k:Nat}:(upE (fun k=>rwT h a (idx (dwr h a) (k:Int))) k).length≤k:=by
 have:=vW (f:=fun k=>rwT h a (idx (dwr h a) (k:Int))) (m:=1) (fun k=>PS) k
 omega
theorem Ih (hS:fJ h) {a:Ask} {k:Nat}:(upE (wX h a) k).length≤k * 32:=vW (fun k=>Oj hS) k
theorem Jn (hS:fJ h) (hc:aK h=some 0) {a:Ask} (ha:a ∈ aV h h.Txns.length):(Ic h a).length≤2000:=by
 obtain ⟨_,_,_,h1⟩:=Fs hS hc ha;have h2:=Ih hS (a:=a) (k:=(pts h a).1.length);have h3:=PR (h:=h) (a:=a);have h4:=Ig (h:=h) (a:=a) (k:=(dwr h a).length);have h5:=AZ (h:=h) (a:=a);have h6:=hS.len;unfold Ic rwE wwE
 simp only [List.length_append]
 split
 ·omega
 ·simp only [List.length_nil]; omega
noncomputable def sD (h:History) (a:Ask):aP:=⟨a,mV h a,(pts h a).1,decide (made h a),kd h a⟩
theorem Lp {x:aP} {p:Int}:lU x p=some (decide (x.sources=[p])):=by
 refine xn.1 ?_;unfold lU;refine aA (fun h1 => ?_) (fun h1=>ag ⟨fun h=>(nomatch h),fun h=>absurd (by rw [h]; rfl) h1⟩);refine ai (by omega) (ag ?_);have hl:x.sources.length=1:=by omega
 obtain ⟨y,hy⟩:=List.length_eq_one_iff.1 hl
 rw [hy]
 show ((y == p)=true)↔_
 simp
variable {m:aH}
theorem Lr {x:aP} {t:Int} (ht:0≤t∧t < (m.h.Txns.length:Int)):kM t x m=some (decide (t=x.Ask.Txn∨(idx m.h.Txns t).Status≠1)):=by
 refine xn.1 ?_;unfold kM;refine aA (fun h1=>ag ⟨fun _ => .inl h1,fun _=>rfl⟩) (fun h1 => ?_);obtain ⟨n,rfl⟩:∃ n:Nat,t=(n:Int):=⟨t.toNat,by omega⟩
 refine bB (Ew (by omega)) (ag ?_)
 simp [h1]
theorem PT {l:List Int} {x:aP} (hl:l.length < 2 ^ 60) (hr:∀ t ∈ l,0≤t∧t < (m.h.Txns.length:Int)):Tri (bQ l x m) (fun r=>(r = -1∧∀ t ∈ l,¬ (t=x.Ask.Txn∨(idx m.h.Txns t).Status≠1)) ∨
  ∃ k:Nat,r=(k:Int)∧k < l.length∧(idx l (k:Int)=x.Ask.Txn∨(idx m.h.Txns (idx l (k:Int))).Status≠1)∧∀ j:Nat,j < k → ¬ (idx l (j:Int)=x.Ask.Txn∨(idx m.h.Txns (idx l (j:Int))).Status≠1)):=by
 unfold bQ;refine bY (k0:=0) l.length (fun k s=>s=(k:Int)∧∀ j:Nat,j < k → ¬ (idx l (j:Int)=x.Ask.Txn∨(idx m.h.Txns (idx l (j:Int))).Status≠1)) (Nat.zero_le _) ⟨rfl,fun j h=>absurd h (Nat.not_lt_zero _)⟩ ?_;rintro k s hk ⟨rfl,hno⟩;have hw:w64 ((k:Int) + 1)=((k + 1:Nat):Int):=aZ (by omega);unfold fV
 dsimp only
 rw [hw]
 refine aA (fun h1 => ?_) (fun h1 => ?_)
 ·have a0:k < l.length:=by omega
  refine ai (by omega) (bB (Lr (hr _ (gz a0))) ?_)
  by_cases h2:idx l (k:Int)=x.Ask.Txn∨(idx m.h.Txns (idx l (k:Int))).Status≠1
  ·rw [decide_eq_true h2,cond_true]
   exact aB (ag (.inr ⟨k,rfl,a0,h2,hno⟩))
  ·rw [decide_eq_false h2,cond_false]
   refine ag ⟨a0,rfl,fun j hj => ?_⟩;rcases Nat.lt_or_ge j k with h3 | h3
   ·exact hno j h3
   ·have:j=k:=by omega
    subst this;exact h2
 ·have:k=l.length:=by omega
  subst this;refine aB (ag (.inl ⟨rfl,fun t ht => ?_⟩));obtain ⟨j,hj,e⟩:=ve ht
  rw [← e]
  exact hno j hj
theorem Mm {l:List Int} {x:aP} (hl:l.length < 2 ^ 60) (hr:∀ t ∈ l,0≤t∧t < (m.h.Txns.length:Int)):bK l x m=some (l.filter fun t=>decide (¬ (t=x.Ask.Txn∨(idx m.h.Txns t).Status≠1))):=by
 refine dS.1 ?_;unfold bK;refine fq (PT hl hr) (fun r a1 => ?_);rcases a1 with ⟨rfl,h1⟩ | ⟨k,rfl,hk,h1,h2⟩
 ·refine aA (fun _=>ag ?_) (fun h=>absurd rfl h);exact (List.filter_eq_self.2 fun t ht=>decide_eq_true (h1 t ht)).symm
 ·refine aA (fun h=>by omega) (fun _ => ?_);refine ai (by omega) ?_;have hw:w64 ((k:Int) + 1)=((k + 1:Nat):Int):=aZ (by omega)
  rw [hw]
  have e0:l.take (k:Int).toNat=(l.take (k + 1)).filter fun t=>decide (¬ (t=x.Ask.Txn∨(idx m.h.Txns t).Status≠1)):=by
   rw [oN hk,List.filter_append]
   have e1:(l.take k).filter (fun t=>decide (¬ (t=x.Ask.Txn∨(idx m.h.Txns t).Status≠1)))=l.take k:=List.filter_eq_self.2 fun t ht=>by
    obtain ⟨j,hj,_,e⟩:=Oe.1 ht
    rw [← e]
    exact decide_eq_true (h2 j hj)
   have e2:[idx l (k:Int)].filter (fun t=>decide (¬ (t=x.Ask.Txn∨(idx m.h.Txns t).Status≠1)))=[]:=by
    rw [List.filter_eq_nil_iff]
    intro t ht
    rw [List.mem_singleton.1 ht,decide_eq_true_eq]
    exact fun h=>h h1
   rw [e1,e2,List.append_nil]
   congr 1
  rw [e0]
  refine bY (k0:=k + 1) l.length (fun q s=>s=((l.take q).filter (fun t=>decide (¬ (t=x.Ask.Txn∨(idx m.h.Txns t).Status≠1))),(q:Int))) (by omega) rfl ?_;rintro q s hq rfl;have a2:w64 ((q:Int) + 1)=((q + 1:Nat):Int):=aZ (by omega);unfold fP
  dsimp only
  rw [a2]
  refine aA (fun h3 => ?_) (fun h3 => ?_)
  ·have a0:q < l.length:=by omega
   refine ai (by omega) (bB (Lr (hr _ (gz a0))) ?_)
   by_cases h4:idx l (q:Int)=x.Ask.Txn∨(idx m.h.Txns (idx l (q:Int))).Status≠1
   ·rw [decide_eq_true h4]
    refine ag ⟨a0,?_⟩
    dsimp only
    rw [oN a0,List.filter_append,List.filter_cons_of_neg (by rw [decide_eq_true_eq]; exact fun h=>h h4)]
    simp
   ·rw [decide_eq_false h4]
    refine ag ⟨a0,?_⟩
    dsimp only
    rw [oN a0,List.filter_append,List.filter_cons_of_pos (by rw [decide_eq_true_eq]; exact h4)]
    simp
  ·have:q=l.length:=by omega
   subst this;refine aB (ag ?_)
   show List.filter _ _=_
   rw [List.take_length]
theorem Mo {l:List aP} {x:aP} {t:Int} (hl:l.length < 2 ^ 60) (hx:0 < x.sources.length):dF l t x=some (decide (∃ b ∈ l,b.Ask.Txn=t∧b.Ask.Key=x.Ask.Key∧b.sources=[idx x.sources 0])):=by
 refine xn.1 ?_;have h1:Tri (bF l t x) (fun r=>0≤r↔∃ b ∈ l,b.Ask.Txn=t∧b.Ask.Key=x.Ask.Key∧b.sources=[idx x.sources 0]):=by
  unfold bF;refine bY (k0:=0) l.length (fun k s=>s=(k:Int)∧∀ j:Nat,j < k → ¬ ((idx l (j:Int)).Ask.Txn=t∧(idx l (j:Int)).Ask.Key=x.Ask.Key∧(idx l (j:Int)).sources=[idx x.sources 0])) (Nat.zero_le _) ⟨rfl,fun j h=>absurd h (Nat.not_lt_zero _)⟩ ?_;rintro k s hk ⟨rfl,hno⟩;have hw:w64 ((k:Int) + 1)=((k + 1:Nat):Int):=aZ (by omega);unfold fI
  dsimp only
  rw [hw]
  refine aA (fun h1 => ?_) (fun h1 => ?_)
  ·have a0:k < l.length:=by omega
   have hm:idx l (k:Int) ∈ l:=by rw [dE (n:=k) rfl a0]; exact List.getElem_mem _
   have o1:lZ (idx l (k:Int)) t x=some (decide ((idx l (k:Int)).Ask.Txn=t∧(idx l (k:Int)).Ask.Key=x.Ask.Key∧(idx l (k:Int)).sources=[idx x.sources 0])):=by
    refine xn.1 ?_;unfold lZ;refine aA (fun q1 => ?_) (fun q1=>ag ⟨fun h=>(nomatch h),fun h=>absurd h.1 q1⟩);refine aA (fun q2 => ?_) (fun q2=>ag ⟨fun h=>(nomatch h),fun h=>absurd h.2.1 q2⟩);refine ai (by omega) (bB Lp (ag ?_))
    simp [q1,q2]
   refine ai (by omega) (bB o1 ?_)
   by_cases h2:(idx l (k:Int)).Ask.Txn=t∧(idx l (k:Int)).Ask.Key=x.Ask.Key∧(idx l (k:Int)).sources=[idx x.sources 0]
   ·rw [decide_eq_true h2,cond_true]
    exact aB (ag ⟨fun _=>⟨_,hm,h2⟩,fun _=>by omega⟩)
   ·rw [decide_eq_false h2,cond_false]
    refine ag ⟨a0,rfl,fun j hj => ?_⟩;rcases Nat.lt_or_ge j k with h3 | h3
    ·exact hno j h3
    ·have:j=k:=by omega
     subst this;exact h2
  ·have:k=l.length:=by omega
   subst this;refine aB (ag ⟨fun h=>absurd h (by decide),?_⟩);rintro ⟨b,hb,h2⟩;obtain ⟨j,hj,e⟩:=List.getElem_of_mem hb
   rw [← e,← dE (n:=j) rfl hj] at h2
   exact absurd h2 (hno j hj)
 unfold dF;refine fq h1 (fun r hr=>ag ?_)
 rw [decide_eq_true_iff]
 exact hr
theorem Mq (hS:fJ h) (hc:aK h=some 0) {l:List Edge} {a:Ask} (ha:a ∈ aV h h.Txns.length) {t:Int}:eP ⟨h,(aV h h.Txns.length).map (sD h),l⟩ (sD h a) t=some (decide (ovr h a t)):=by
 refine xn.1 ?_;obtain ⟨i1,_,_⟩:=sH hS h.Txns.length (Nat.le_refl _);obtain ⟨_,_,_,hpl⟩:=Fs hS hc ha;unfold eP;refine bB Lp ?_
 by_cases h1:mV h a=[-1]
 ·have:(sD h a).sources=[-1]:=h1
  rw [decide_eq_true this,cond_true]
  exact ag ⟨fun _ => .inl h1,fun _=>rfl⟩
 ·have:¬ (sD h a).sources=[-1]:=h1
  rw [decide_eq_false this,cond_false]
  unfold sD
  dsimp only
  by_cases h2:made h a
  ·rw [decide_eq_true h2,cond_true]
   refine bB (Dt (by omega)) (ag ?_);unfold ovr
   simp [h1,h2]
  ·rw [decide_eq_false h2,cond_false]
   have no:¬ (kd h a=1∧∃ p,mV h a=[p]∧p≠t)→Tri (iI ⟨h,(aV h h.Txns.length).map (sD h),l⟩ ⟨a,mV h a,(pts h a).1,false,kd h a⟩ t true) (fun b=>b=true↔ovr h a t):=fun hn=>by
    unfold iI
    rw [cond_true]
    refine ag ⟨fun h=>(nomatch h),?_⟩;rintro (h | h | h)
    ·exact absurd h h1
    ·exact absurd h.1 h2
    ·obtain ⟨_,q1,p,q2,q3,_⟩:=h;exact absurd ⟨q1,p,q2,q3⟩ hn
   refine aA (fun h3=>no (fun h=>h3 h.1)) (fun h3 => ?_);refine aA (fun h4=>no ?_) (fun h4 => ?_)
   ·rintro ⟨_,p,q,_⟩
    rw [q] at h4
    exact h4 rfl
   have h4:(mV h a).length=1:=Classical.byContradiction fun h=>h4 (by omega);have h3:kd h a=1:=Classical.byContradiction h3;obtain ⟨p,hp⟩:=List.length_eq_one_iff.1 h4;refine ai (by omega) ?_;have a1:idx (mV h a) 0=p:=by rw [hp]; rfl
   rw [a1]
   by_cases h5:p=t
   ·rw [beq_iff_eq.2 h5]
    refine no ?_;rintro ⟨_,q,e,hn⟩
    rw [hp] at e
    cases e;exact hn h5
   ·rw [beq_eq_false_iff_ne.2 h5]
    unfold iI
    rw [cond_false]
    have a2:=hS.len;refine bB (Mo (by rw [List.length_map]; omega) (by show 0 < (mV h a).length; omega)) (ag ?_)
    rw [decide_eq_true_iff]
    dsimp only
    rw [a1]
    unfold ovr
    constructor
    ·rintro ⟨b,hb,q1,q2,q3⟩;obtain ⟨c,a0,rfl⟩:=List.mem_map.1 hb;exact .inr (.inr ⟨h2,h3,p,hp,h5,c,a0,q1,q2,q3⟩)
    ·rintro (h | h | h)
     ·exact absurd h h1
     ·exact absurd h.1 h2
     ·obtain ⟨_,_,q,e,_,c,a0,q1,q2,q3⟩:=h
      rw [hp] at e
      cases e;exact ⟨_,List.mem_map.2 ⟨c,a0,rfl⟩,q1,q2,q3⟩
end
end Go.Proofs.YtfpeabnehpclnaaGreatT
namespace Go.Proofs.YtfpeabnehpclnaaGreatT
open Go Go.Proofs Go.Proofs.YtfpeabnehpclnaaGreatE
set_option linter.unusedVariables false
set_option linter.unusedSimpArgs false
open Classical
section
variable {h:History}
noncomputable abbrev wK (h:History):List aP:=(aV h h.Txns.length).map (sD h)
theorem Ls (hS:fJ h) (hc:aK h=some 0) {a:Ask} (ha:a ∈ aV h h.Txns.length) {l0 l:List Edge} (hl:l.length < 2 ^ 30):jW ⟨h,wK h,l0⟩ (sD h a) (dwr h a) l=some ⟨h,wK h,l++rwE h a⟩:=by
 have a1:=hS.len;have hd:=AZ (h:=h) (a:=a);refine dS.1 ?_;unfold jW;refine bY (k0:=0) (dwr h a).length (fun k s=>s=(l++upE (fun k=>rwT h a (idx (dwr h a) (k:Int))) k,(k:Int))) (Nat.zero_le _) (by simp [upE]) ?_;rintro k s hk rfl;have hw:w64 ((k:Int) + 1)=((k + 1:Nat):Int):=aZ (by omega);have hu:=Ig (h:=h) (a:=a) (k:=k);have hsu:upE (fun k=>rwT h a (idx (dwr h a) (k:Int))) (k + 1)=upE (fun k=>rwT h a (idx (dwr h a) (k:Int))) k++rwT h a (idx (dwr h a) (k:Int)):=oJ;unfold tq pO
 dsimp only
 rw [hw]
 refine aA (fun h1 => ?_) (fun h1 => ?_)
 ·have a0:k < (dwr h a).length:=by omega
  refine ai (by omega) (bB (Mq hS hc ha) ?_)
  by_cases h2:ovr h a (idx (dwr h a) (k:Int))
  ·rw [decide_eq_true h2,cond_true]
   refine bB (Dz (by simp only [List.length_append]; omega)) (ag ⟨a0,?_⟩)
   dsimp only
   rw [hsu,rwT,if_pos h2,List.append_assoc]
   rfl
  ·rw [decide_eq_false h2,cond_false]
   refine ag ⟨a0,?_⟩
   dsimp only
   rw [hsu,rwT,if_neg h2,List.append_nil]
 ·have:k=(dwr h a).length:=by omega
  subst this;exact aB (ag rfl)
theorem Lt (hS:fJ h) (hc:aK h=some 0) {a:Ask} (ha:a ∈ aV h h.Txns.length) {l0 l:List Edge} (hl:l.length < 2 ^ 29):iU ⟨h,wK h,l0⟩ (sD h a) l=some ⟨h,wK h,l++wwE h a++rwE h a⟩:=by
 have a5:=hS.len;have hd:=AZ (h:=h) (a:=a);obtain ⟨_,_,_,hpl⟩:=Fs hS hc ha;refine dS.1 ?_;unfold iU;refine bB (Cx hS hc) ?_;have hwl:=oM (h:=h) (key:=a.Key) (k:=h.Txns.length);refine bB (Mm (m:=⟨h,wK h,l⟩) (x:=sD h a) (show (fG h a.Key h.Txns.length).length < 2 ^ 60 by omega) (fun t ht=>by have:=Ai.1 ht; exact ⟨this.1,this.2.1⟩)) ?_
 show Tri (bif (sD h a).made then iter (pV ⟨h,wK h,l0⟩ (sD h a) (dwr h a)) (l,0) else jW ⟨h,wK h,l0⟩ (sD h a) (dwr h a) l) _
 by_cases hm:made h a
 ·rw [show (sD h a).made=true from decide_eq_true hm,cond_true]
  refine bY (k0:=0) (pts h a).1.length (fun k s=>s=(l++upE (wX h a) k,(k:Int))) (Nat.zero_le _) (by simp [upE]) ?_;rintro k s hk rfl;have hw:w64 ((k:Int) + 1)=((k + 1:Nat):Int):=aZ (by omega);have hu:=Ih hS (a:=a) (k:=k);have hsu:upE (wX h a) (k + 1)=upE (wX h a) k++wX h a k:=oJ;unfold pV pU ma
  dsimp only
  rw [hw]
  show Tri (bif decide ((k:Int) < ((pts h a).1.length:Int)) then must (0≤(k:Int)∧(k:Int) < ((pts h a).1.length:Int)) _ else _) _
  refine aA (fun h1 => ?_) (fun h1 => ?_)
  ·have a1:k < (pts h a).1.length:=by omega
   refine ai (by omega) ?_;have rest:¬ (kd h a=2∧k + 1 < (pts h a).1.length)→Tri (iter (pR ⟨h,wK h,l0⟩ (sD h a) (dwr h a) (k:Int)) (l++upE (wX h a) k,0)) (Upm (pts h a).1.length k (fun k s=>s=(l++upE (wX h a) k,(k:Int))) (fun b:aH=>b=⟨h,wK h,l++wwE h a++rwE h a⟩)):=fun hn=>by
    refine bY (k0:=0) (dwr h a).length (fun q s=>s=(l++upE (wX h a) k++upE (fun q=>wwT h a (idx (pts h a).1 (k:Int)) (idx (dwr h a) (q:Int))) q,(q:Int))) (Nat.zero_le _) (by simp [upE]) ?_;rintro q s hq rfl;have a3:w64 ((q:Int) + 1)=((q + 1:Nat):Int):=aZ (by omega);have a4:=vW (f:=fun q=>wwT h a (idx (pts h a).1 (k:Int)) (idx (dwr h a) (q:Int))) (m:=1) (fun q=>Ie) q;have a0:upE (fun q=>wwT h a (idx (pts h a).1 (k:Int)) (idx (dwr h a) (q:Int))) (q + 1)=upE (fun q=>wwT h a (idx (pts h a).1 (k:Int)) (idx (dwr h a) (q:Int))) q++wwT h a (idx (pts h a).1 (k:Int)) (idx (dwr h a) (q:Int)):=oJ;unfold pR pQ ma
    dsimp only
    rw [hw,a3]
    refine aA (fun h2 => ?_) (fun h2 => ?_)
    ·have a2:q < (dwr h a).length:=by omega
     refine ai (by omega) (bB (Dt (l:=(pts h a).1) (by omega)) ?_)
     by_cases h3:idx (dwr h a) (q:Int) ∈ (pts h a).1
     ·rw [decide_eq_true h3,Bool.not_true,cond_false]
      refine ag ⟨a2,?_⟩
      dsimp only
      rw [a0,wwT,if_pos h3,List.append_nil]
     ·rw [decide_eq_false h3,Bool.not_false,cond_true]
      refine bB (Dz (by simp only [List.length_append]; omega)) (ag ⟨a2,?_⟩)
      dsimp only
      rw [a0,wwT,if_neg h3,List.append_assoc]
      rfl
    ·have:q=(dwr h a).length:=by omega
     subst this;refine aB (ag ⟨a1,?_⟩)
     dsimp only
     rw [hsu,wX,if_neg hn,List.append_assoc]
   have kk:(sD h a).kind=kd h a:=rfl
   by_cases h2:kd h a=2
   ·rw [kk,beq_iff_eq.2 h2,cond_true]
    show Tri (bif decide (((k + 1:Nat):Int) < ((pts h a).1.length:Int)) then must (0≤((k + 1:Nat):Int)∧((k + 1:Nat):Int) < ((pts h a).1.length:Int)) _ else _) _
    refine aA (fun h3 => ?_) (fun h3=>rest (fun h=>by omega));refine ai (by omega) (bB (Dz (by simp only [List.length_append]; omega)) (ag ⟨a1,?_⟩))
    dsimp only
    rw [hsu,wX,if_pos ⟨h2,by omega⟩,List.append_assoc]
    rfl
   ·rw [kk,beq_eq_false_iff_ne.2 h2,cond_false,cond_false]
    exact rest (fun h=>h2 h.1)
  ·have:k=(pts h a).1.length:=by omega
   subst this;refine aB ?_
   rw [Ls hS hc ha (by rw [List.length_append]; omega)]
   refine ag ?_
   show aH.mk _ _ _=_
   rw [wwE,if_pos hm]
 ·rw [show (sD h a).made=false from decide_eq_false hm,cond_false,Ls hS hc ha (by omega)]
  refine ag ?_
  rw [wwE,if_neg hm,List.append_nil]
theorem Ol (hS:fJ h) (hc:aK h=some 0) {a:Ask} (ha:a ∈ aV h h.Txns.length) {l:List Edge} (hl:l.length < 2 ^ 28):aF ⟨h,wK h,l⟩ (sD h a)=some ⟨h,wK h,l++Ic h a⟩:=by
 refine dS.1 ?_;unfold aF Ic;have none_:wrE h a=[]→Tri (gI ⟨h,wK h,l⟩ (sD h a) false) (fun b=>b=⟨h,wK h,l++(wrE h a++wwE h a++rwE h a)⟩):=fun e=>by
  unfold gI
  rw [cond_false]
  show Tri (iU ⟨h,wK h,l⟩ (sD h a) l) _
  rw [Lt hS hc ha (by omega),e]
  exact ag (by rw [List.nil_append,List.append_assoc])
 show Tri (bif (((mV h a).length:Int) == 1) then must (0≤(0:Int)∧(0:Int) < ((mV h a).length:Int)) (gI ⟨h,wK h,l⟩ (sD h a) (decide (idx (mV h a) (0:Int) ≥ 0))) else gI ⟨h,wK h,l⟩ (sD h a) false) _
 refine aA (fun h1 => ?_) (fun h1=>none_ ?_)
 ·refine ai (by omega) ?_;have a0:(mV h a).length=1:=by omega
  obtain ⟨p,hp⟩:=List.length_eq_one_iff.1 a0;have e0:idx (mV h a) 0=p:=by rw [hp]; rfl
  have hpo:=QC hS hc ha (x:=p) (by rw [hp]; simp)
  rw [e0]
  by_cases h2:p = -1
  ·rw [decide_eq_false (by omega)]
   refine none_ ?_;unfold wrE
   rw [hp]
   exact if_pos h2
  ·have h3:0≤p:=((uL.1 (hpo.resolve_left h2)).1).1
   rw [decide_eq_true h3]
   have ew:wrE h a=[⟨p,a.Txn,4,a.Key⟩]:=by
    unfold wrE
    rw [hp]
    exact if_neg h2
   unfold gI
   rw [cond_true]
   show Tri (must (0≤(0:Int)∧(0:Int) < ((mV h a).length:Int)) ((fO ⟨h,wK h,l⟩ (idx (mV h a) (0:Int)) a.Txn 4 a.Key).bind _)) _
   refine ai (by omega) (bB (Dz (by show l.length < _; omega)) ?_)
   rw [e0]
   show Tri (iU ⟨h,wK h,l⟩ (sD h a) (l++([(⟨p,a.Txn,4,a.Key⟩:Edge)]:List Edge))) _
   rw [Lt hS hc ha (by rw [List.length_append,List.length_singleton]; omega),ew]
   exact ag (by simp only [List.append_assoc])
 ·unfold wrE
  split
  ·rename_i p hp
   rw [hp] at h1
   exact absurd rfl h1
  ·rfl
noncomputable def xW (h:History):List Edge:=soL h h.Txns.length++rtL h h.Txns.length++(aV h h.Txns.length).flatMap (Ic h)
noncomputable def qg (h:History) (k:Nat):List Edge:=soL h h.Txns.length++rtL h h.Txns.length++((aV h h.Txns.length).take k).flatMap (Ic h)
theorem yV {k:Nat} (hk:k < (aV h h.Txns.length).length):qg h (k + 1)=qg h k++Ic h (idx (aV h h.Txns.length) (k:Int)):=by
 unfold qg
 rw [oN hk,List.flatMap_append]
 simp
theorem xm (hS:fJ h) (hc:aK h=some 0):∀ k:Nat,k≤(aV h h.Txns.length).length→(qg h k).length≤32 + 1024 + 2000 * k
 | 0,_=>by
  have h1:=Ev (h:=h) (k:=h.Txns.length);have h2:=Ib hS (Nat.le_refl _);have h3:=hS.len;unfold qg
  simp only [List.take_zero,List.flatMap_nil,List.append_nil,List.length_append]
  omega
 | k + 1,hk=>by
  rw [yV (by omega),List.length_append]
  have h1:=xm hS hc k (by omega);have h2:=Jn hS hc (yB (show k < (aV h h.Txns.length).length by omega))
  omega
theorem Kq (hs:uK h) (hS:fJ h) (hc:aK h=some 0) {a:Ask} (ha:a ∈ aV h h.Txns.length):sZ h a=some ((pts h a).1,(pts h a).2,0):=by
 refine dS.1 ?_;unfold sZ;refine fq (Fj hs hS hc (Jl hS ha)) (fun r hr => ?_);rcases hr with ⟨rfl,_⟩ | ⟨_,h1⟩
 ·refine aA (fun h1=>absurd rfl h1) (fun _ => ?_);exact bB (Jm hS hc ha).1 (ag rfl)
 ·exact absurd ha h1
theorem Kr (hs:uK h) (hS:fJ h) (hc:aK h=some 0):dm h=some (⟨(h.Txns.length:Int),xW h⟩,0):=by
 have a3:=hS.len;have hA:mK h=some (aV h h.Txns.length,0):=by unfold mK; rw [Jb hs hS hc]; rfl
 obtain ⟨i1,_,_⟩:=sH hS h.Txns.length (Nat.le_refl _);refine dS.1 ?_;unfold dm;refine bB hA ?_;refine aA (fun h1=>absurd rfl h1) (fun _ => ?_);refine bY (k0:=0) (aV h h.Txns.length).length (fun k s=>s=(((aV h h.Txns.length).take k).map (sD h),(k:Int))) (Nat.zero_le _) (by simp) ?_;rintro k s hk rfl;have hw:w64 ((k:Int) + 1)=((k + 1:Nat):Int):=aZ (by omega);unfold xJ xI uY xH
 dsimp only
 rw [hw]
 refine aA (fun h1 => ?_) (fun h1 => ?_)
 ·have a0:k < (aV h h.Txns.length).length:=by omega
  have ha:=yB a0;refine ai (by omega) (bB (Oh hS hc ha) (bB (HV hs hS hc ha) (bB (Kq hs hS hc ha) ?_)));have hlen:(((aV h h.Txns.length).take k).map (sD h)).length=k:=by rw [List.length_map,List.length_take]; omega
  have last:∀ b:Bool,b=decide (made h (idx (aV h h.Txns.length) (k:Int)))→Tri (must (((((aV h h.Txns.length).take k).map (sD h)).length + 1 + ((((aV h h.Txns.length).take k).map (sD h)).length + 1) / 4 + 192) * 112≤281474976710656∧(((aV h h.Txns.length).take k).map (sD h)).length + 1≤9223372036854775807)
    (some (.inl (((aV h h.Txns.length).take k).map (sD h)++([(⟨(idx (aV h h.Txns.length) (k:Int)),mV h (idx (aV h h.Txns.length) (k:Int)),(pts h (idx (aV h h.Txns.length) (k:Int))).1,b,kd h (idx (aV h h.Txns.length) (k:Int))⟩:aP)]:List aP),((k + 1:Nat):Int))))) (Upm (aV h h.Txns.length).length k (fun k s=>s=(((aV h h.Txns.length).take k).map (sD h),(k:Int))) (fun b:jf×Int=>b=(⟨(h.Txns.length:Int),xW h⟩,0))):=by
   rintro b rfl;refine ai (by rw [hlen]; omega) (ag ⟨a0,?_⟩)
   dsimp only
   rw [oN a0,List.map_append]
   rfl
  dsimp only
  by_cases h2:(pts h (idx (aV h h.Txns.length) (k:Int))).2=true
  ·rw [h2,cond_true]
   refine last _ ?_;have e:made h (idx (aV h h.Txns.length) (k:Int))↔(((idx (aV h h.Txns.length) (k:Int)).Base.length:Int) > 0):=⟨fun h=>by have:=h.2; omega,fun h=>⟨h2,by omega⟩⟩
   exact (decide_eq_decide.2 e).symm
  ·rw [Bool.not_eq_true] at h2
   rw [h2,cond_false]
   exact last _ (decide_eq_false (fun h=>by have:=h.1; rw [h2] at this; cases this)).symm
 ·have:k=(aV h h.Txns.length).length:=by omega
  subst this
  rw [List.take_length]
  refine bB (Gd (m:=⟨h,wK h,[]⟩) a3 (by simp)) ?_;have hsl:=Ev (h:=h) (k:=h.Txns.length);refine bB (Ml (m:=⟨h,wK h,[]++soL h h.Txns.length⟩) hS (by rw [List.nil_append]; show (soL h h.Txns.length).length < _; omega)) ?_
  suffices a1:Tri (iter (uZ h (wK h)) ([]++soL h h.Txns.length++rtL h h.Txns.length,0)) (fun y:(List aP×Int) ⊕ (jf×Int)=>y = .inr (⟨(h.Txns.length:Int),xW h⟩,0)) from fT a1 (by rintro y rfl; rfl)
  refine bY (k0:=0) (aV h h.Txns.length).length (fun k s=>s=(qg h k,(k:Int))) (Nat.zero_le _) (by simp [qg]) ?_;rintro k s hk rfl;have a2:w64 ((k:Int) + 1)=((k + 1:Nat):Int):=aZ (by omega);have hel:=xm hS hc k hk;have hal:(wK h).length=(aV h h.Txns.length).length:=List.length_map ..;unfold uZ
  dsimp only
  rw [a2,hal]
  refine aA (fun h2 => ?_) (fun h2 => ?_)
  ·have a0:k < (aV h h.Txns.length).length:=by omega
   have ha:=yB a0;have hi:idx (wK h) (k:Int)=sD h (idx (aV h h.Txns.length) (k:Int)):=by
    rw [dE (n:=k) rfl (by omega),dE (n:=k) rfl a0,List.getElem_map]
   refine ai (by omega) ?_
   rw [hi]
   refine bB (Ol hS hc ha (l:=qg h k) (by omega)) (ag ⟨a0,?_⟩)
   dsimp only
   rw [yV a0]
  ·have:k=(aV h h.Txns.length).length:=by omega
   subst this;refine aB (aB (ag ?_))
   show Sum.inr _=_
   unfold qg xW
   rw [List.take_length]
theorem Mr (hc:aK h=some 1):dm h=some (⟨0,[]⟩,1):=by
 unfold dm mK nE
 rw [hc]
 rfl
end
end Go.Proofs.YtfpeabnehpclnaaGreatT
