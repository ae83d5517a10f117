import Derived.Test.YtfpeabnehpclnaaGreatTPDD
import Derived.Test.YtfpeabnehpclnaaGreatTD
import Derived.Test.YtfpeabnehpclnaaGreatXA
import Derived.Test.YtfpeabnehpclnaaGreatY
import Derived.Test.YtfpeabnehpclnaaGreatTF
namespace Go.Proofs.YtfpeabnehpclnaaGreatT
open Go Go.Proofs Go.Proofs.YtfpeabnehpclnaaGreatE
set_option linter.unusedVariables false
set_option linter.unusedSimpArgs false
open Classical
section
variable {h:History}
theorem KH {l:List Int} {x:Int} (hl:l.length < 2 ^ 60):gZ l x=some (decide (x ∈ l)):=by
 refine zG.1 ?_;unfold gZ;refine bX (k0:=0) l.length (fun k s=>s=(k:Int)∧∀ j:Nat,j < k→idx l (j:Int)≠x) (Nat.zero_le _) ⟨rfl,fun j h=>absurd h (Nat.not_lt_zero _)⟩ ?_;rintro k s hk ⟨rfl,hno⟩;have hw:w64 ((k:Int) + 1)=((k + 1:Nat):Int):=aZ (by omega);unfold vT
 dsimp only
 rw [hw]
 refine aA (fun h1 => ?_) (fun h1 => ?_)
 ·have a1:k < l.length:=by omega
  refine aj (by omega) ?_;refine aA (fun h2 => ?_) (fun h2 => ?_)
  ·refine aD (ag ⟨fun _ => ?_,fun _=>rfl⟩)
   rw [← h2]
   exact iF a1
  ·refine ag ⟨a1,rfl,fun j hj => ?_⟩;rcases Nat.lt_or_ge j k with h3 | h3
   ·exact hno j h3
   ·have:j=k:=by omega
    subst this;exact h2
 ·have:k=l.length:=by omega
  subst this;refine aD (ag ⟨fun h=>(nomatch h),fun h => ?_⟩);obtain ⟨j,hj,e⟩:=yl h;exact absurd e (hno j hj)
noncomputable def lone (h:History) (a:Ask):Int×Bool:=match nz h a with
 | [p]=>(p,true)
 | _=>(0,false)
theorem um {a:Ask} {p:Int} (e:nz h a=[p]):lone h a=(p,true):=by unfold lone; rw [e]
theorem PD {a:Ask} (e:(nz h a).length≠1):lone h a=(0,false):=by
 unfold lone
 split
 ·rename_i p hp
  rw [hp] at e
  exact absurd rfl e
 ·rfl
theorem KI (hS:fw h) (hc:aJ h=some 0) {a:Ask} (ha:a ∈ bn h h.Txns.length):mh h a=some (lone h a):=by
 refine eO.1 ?_;unfold mh;refine bA (Dz hS hc ha).2 ?_;refine aA (fun h1=>ag (PD (by omega)).symm) (fun h1 => ?_);have hl:(nz h a).length=1:=by omega
 obtain ⟨p,hp⟩:=List.length_eq_one_iff.1 hl;refine aj (by omega) (ag ?_)
 rw [um hp,hp]
 rfl
theorem Fw {a:Ask} {p:Int}:((lone h a).2=true∧(lone h a).1=p)↔nz h a=[p]:=by
 constructor
 ·rintro ⟨h1,h2⟩
  by_cases hl:(nz h a).length=1
  ·obtain ⟨q,hq⟩:=List.length_eq_one_iff.1 hl
   rw [um hq] at h2
   rw [hq,← h2]
  ·rw [PD hl] at h1
   cases h1
 ·intro e
  rw [um e]
  exact ⟨rfl,rfl⟩
theorem Nb (hS:fw h) (hc:aJ h=some 0) {t key p:Int}:bP h (bn h h.Txns.length) t key p=some (decide (∃ b ∈ bn h h.Txns.length,b.Txn=t∧b.Key=key∧nz h b=[p])):=by
 have a2:=hS.len;obtain ⟨i1,_,_⟩:=pO hS h.Txns.length (Nat.le_refl _);refine zG.1 ?_;unfold bP;refine bX (k0:=0) (bn h h.Txns.length).length (fun k s=>s=(k:Int)∧∀ j:Nat,j < k → ¬ ((idx (bn h h.Txns.length) (j:Int)).Txn=t∧(idx (bn h h.Txns.length) (j:Int)).Key=key∧nz h (idx (bn h h.Txns.length) (j:Int))=[p])) (Nat.zero_le _) ⟨rfl,fun j h=>absurd h (Nat.not_lt_zero _)⟩ ?_;rintro k s hk ⟨rfl,hno⟩;have hw:w64 ((k:Int) + 1)=((k + 1:Nat):Int):=aZ (by omega);unfold ug oM oL oK
 dsimp only
 rw [hw]
 refine aA (fun h1 => ?_) (fun h1 => ?_)
 ·have a1:k < (bn h h.Txns.length).length:=by omega
  have ha:=sN a1;have nx:¬ ((idx (bn h h.Txns.length) (k:Int)).Txn=t∧(idx (bn h h.Txns.length) (k:Int)).Key=key∧nz h (idx (bn h h.Txns.length) (k:Int))=[p]) →
    Tri (some (.inl ((k + 1:Nat):Int))) (Upm (bn h h.Txns.length).length k (fun k s=>s=(k:Int)∧∀ j:Nat,j < k → ¬ ((idx (bn h h.Txns.length) (j:Int)).Txn=t∧(idx (bn h h.Txns.length) (j:Int)).Key=key∧nz h (idx (bn h h.Txns.length) (j:Int))=[p])) (fun b:Bool=>b=true↔∃ b ∈ bn h h.Txns.length,b.Txn=t∧b.Key=key∧nz h b=[p])):=fun hn =>
   ag ⟨a1,rfl,fun j hj=>by
    rcases Nat.lt_or_ge j k with h3 | h3
    ·exact hno j h3
    ·have:j=k:=by omega
     subst this;exact hn⟩
  refine aj (by omega) ?_;refine aA (fun h2 => ?_) (fun h2=>by rw [cond_false]; exact nx (fun h=>h2 h.1))
  refine aA (fun h3 => ?_) (fun h3=>nx (fun h=>h3 h.2.1));refine aj (by omega) (bA (KI hS hc ha) ?_)
  by_cases h4:nz h (idx (bn h h.Txns.length) (k:Int))=[p]
  ·rw [um h4,cond_true,beq_self_eq_true,cond_true]
   exact aD (ag ⟨fun _=>⟨_,ha,h2,h3,h4⟩,fun _=>rfl⟩)
  ·have h5:=fun h=>h4 (Fw.1 h)
   by_cases h6:(lone h (idx (bn h h.Txns.length) (k:Int))).2=true
   ·rw [h6,cond_true,beq_eq_false_iff_ne.2 (fun h=>h5 ⟨h6,h⟩),cond_false]
    exact nx (fun h=>h4 h.2.2)
   ·rw [Bool.not_eq_true] at h6
    rw [h6,cond_false,cond_false]
    exact nx (fun h=>h4 h.2.2)
 ·have:k=(bn h h.Txns.length).length:=by omega
  subst this;refine aD (ag ⟨fun h=>(nomatch h),?_⟩);rintro ⟨b,hb,h2⟩;obtain ⟨j,hj,e⟩:=List.getElem_of_mem hb
  rw [← e,← dK (n:=j) rfl hj] at h2
  exact absurd h2 (hno j hj)
theorem Je (hS:fw h) {a:Ask}:bS h a.Key a.Txn=some (dwr h a):=by
 have a3:=hS.len;refine eO.1 ?_;unfold bS;refine bX (k0:=0) h.Txns.length (fun k s=>s=((gI h a.Key k).filter (fun t=>decide (¬ (t=a.Txn∨(idx h.Txns t).Status≠1))),(k:Int))) (Nat.zero_le _) rfl ?_;rintro k s hk rfl;have hw:w64 ((k:Int) + 1)=((k + 1:Nat):Int):=aZ (by omega);have hwl:((gI h a.Key k).filter (fun t=>decide (¬ (t=a.Txn∨(idx h.Txns t).Status≠1)))).length≤k:=Nat.le_trans (List.length_filter_le _ _) qL;have hsu:=yT (h:=h) (key:=a.Key) (k:=k);unfold qg jM lY
 dsimp only
 rw [hw]
 refine aA (fun h1 => ?_) (fun h1 => ?_)
 ·have a1:k < h.Txns.length:=by omega
  have no:¬ ((k:Int)≠a.Txn∧don h k∧0 < (jD h (k:Int) a.Key).length)→(gI h a.Key (k + 1)).filter (fun t=>decide (¬ (t=a.Txn∨(idx h.Txns t).Status≠1)))=(gI h a.Key k).filter (fun t=>decide (¬ (t=a.Txn∨(idx h.Txns t).Status≠1))):=fun hn=>by
   rw [hsu]
   split
   ·rename_i a2
    unfold IQ at a2
    rw [decide_eq_true_eq] at a2
    rw [List.filter_append,List.filter_cons_of_neg]
    ·simp
    ·rw [decide_eq_true_eq]
     intro h3;exact hn ⟨fun h=>h3 (.inl h),Classical.byContradiction fun h=>h3 (.inr h),a2.2⟩
   ·rfl
  have nx:¬ ((k:Int)≠a.Txn∧don h k∧0 < (jD h (k:Int) a.Key).length)→Tri (some (.inl ((gI h a.Key k).filter (fun t=>decide (¬ (t=a.Txn∨(idx h.Txns t).Status≠1))),((k + 1:Nat):Int)))) (Upm h.Txns.length k (fun k s=>s=((gI h a.Key k).filter (fun t=>decide (¬ (t=a.Txn∨(idx h.Txns t).Status≠1))),(k:Int))) (fun b:List Int=>b=dwr h a)):=fun hn =>
   ag ⟨a1,by dsimp only; rw [no hn]⟩
  refine aA (fun h2 => ?_) (fun h2=>by rw [cond_false]; exact nx (fun h=>h.1 (Classical.byContradiction h2)))
  refine aj (by omega) ?_;refine aA (fun h3 => ?_) (fun h3=>by rw [cond_false]; exact nx (fun h=>h3 h.2.1))
  refine bA (yS ⟨by omega,by omega⟩ (hS.txn k a1).ops.1) ?_
  by_cases h4:0 < (jD h (k:Int) a.Key).length
  ·rw [decide_eq_true (by omega),cond_true]
   refine aj (by omega) (ag ⟨a1,?_⟩)
   dsimp only
   have hok:IQ h a.Key k=true:=by
    unfold IQ
    rw [decide_eq_true_eq]
    exact ⟨by rw [h3]; decide,h4⟩
   rw [hsu,if_pos hok,List.filter_append,List.filter_cons_of_pos]
   ·rfl
   ·rw [decide_eq_true_eq]
    exact fun h=>h.elim h2 (fun h=>h h3)
  ·rw [decide_eq_false (by omega),cond_false]
   exact nx (fun h=>h4 h.2.2)
 ·have:k=h.Txns.length:=by omega
  subst this;exact aD (ag rfl)
theorem Si (hS:fw h) (hc:aJ h=some 0) {a:Ask} (ha:a ∈ bn h h.Txns.length) {a1:Bool} (hb:(pts h a).2=true→a1=decide (made h a)) (a5:(pts h a).2=false→a1=false) {l:List Edge} (hl:l.length < 2 ^ 30) :
  iter (ql h (bn h h.Txns.length) a (kd h a) (lone h a) (pts h a) a1 (dwr h a)) (l,0)=some (.inr (l++rwE h a)):=by
 have a7:=hS.len;have hd:=DC (h:=h) (a:=a);obtain ⟨_,_,a4,hpl⟩:=Jd hS hc ha;have hbm:a1=decide (made h a):=by
  cases h1:(pts h a).2 with
  | true=>exact hb h1
  | false =>
   rw [a5 h1]
   exact (decide_eq_false (fun h=>by have:=h.1; rw [h1] at this; cases this)).symm
 subst hbm;refine eO.1 ?_;refine bX (k0:=0) (dwr h a).length (fun k s=>s=(l++upE (fun k=>rwT h a (idx (dwr h a) (k:Int))) k,(k:Int))) (Nat.zero_le _) (by simp [upE]) ?_;rintro k s hk rfl;have hw:w64 ((k:Int) + 1)=((k + 1:Nat):Int):=aZ (by omega);have hu:=LC (h:=h) (a:=a) (k:=k);have hsu:upE (fun k=>rwT h a (idx (dwr h a) (k:Int))) (k + 1)=upE (fun k=>rwT h a (idx (dwr h a) (k:Int))) k++rwT h a (idx (dwr h a) (k:Int)):=qG;unfold ql
 dsimp only
 refine aA (fun h1 => ?_) (fun h1 => ?_)
 ·have a2:k < (dwr h a).length:=by omega
  have fini:∀ b:Bool,b=decide (ovr h a (idx (dwr h a) (k:Int)))→Tri (iX a (dwr h a) (l++upE (fun k=>rwT h a (idx (dwr h a) (k:Int))) k) (k:Int) b)
    (Upm (dwr h a).length k (fun k s=>s=(l++upE (fun k=>rwT h a (idx (dwr h a) (k:Int))) k,(k:Int))) (fun y:(List Edge×Int) ⊕ List Edge=>y = .inr (l++rwE h a))):=by
   rintro b rfl;unfold iX oN
   rw [hw]
   by_cases h2:ovr h a (idx (dwr h a) (k:Int))
   ·rw [decide_eq_true h2,cond_true]
    refine aj (by omega) (aj (by simp only [List.length_append]; omega) (ag ⟨a2,?_⟩))
    dsimp only
    rw [hsu,rwT,if_pos h2,List.append_assoc]
   ·rw [decide_eq_false h2,cond_false]
    refine ag ⟨a2,?_⟩
    dsimp only
    rw [hsu,rwT,if_neg h2,List.append_nil]
  have mid:∀ b:Bool,(b=true↔nz h a=[-1]∨(made h a∧idx (dwr h a) (k:Int) ∉ (pts h a).1))→Tri (fE h (bn h h.Txns.length) a (kd h a) (lone h a) (dwr h a) (l++upE (fun k=>rwT h a (idx (dwr h a) (k:Int))) k) (k:Int) b)
    (Upm (dwr h a).length k (fun k s=>s=(l++upE (fun k=>rwT h a (idx (dwr h a) (k:Int))) k,(k:Int))) (fun y:(List Edge×Int) ⊕ List Edge=>y = .inr (l++rwE h a))):=fun b hb=>by
   unfold fE jU;have old:¬ (kd h a=1∧∃ p,nz h a=[p]∧p ≠ -1∧p≠idx (dwr h a) (k:Int))→Tri (bif false then must (0≤(k:Int)∧(k:Int) < ((dwr h a).length:Int)) ((bP h (bn h h.Txns.length) (idx (dwr h a) (k:Int)) a.Key (lone h a).1).bind fun a3=>iX a (dwr h a) (l++upE (fun k=>rwT h a (idx (dwr h a) (k:Int))) k) (k:Int) a3) else (iX a (dwr h a) (l++upE (fun k=>rwT h a (idx (dwr h a) (k:Int))) k) (k:Int) b)) (Upm (dwr h a).length k (fun k s=>s=(l++upE (fun k=>rwT h a (idx (dwr h a) (k:Int))) k,(k:Int))) (fun y:(List Edge×Int) ⊕ List Edge=>y = .inr (l++rwE h a))):=fun hn=>by
    rw [cond_false]
    refine fini b ?_
    rw [Bool.eq_iff_iff,hb,decide_eq_true_eq]
    unfold ovr
    constructor
    ·rintro (h | h)
     ·exact .inl h
     ·exact .inr (.inl h)
    ·rintro (h | h | ⟨_,h3,p,h4,h5,h6⟩)
     ·exact .inl h
     ·exact .inr h
     ·by_cases h7:p = -1
      ·rw [h7] at h4; exact .inl h4
      ·exact absurd ⟨h3,p,h4,h7,h5⟩ hn
   refine aA (fun h2 => ?_) (fun h2=>old (fun h=>h2 h.1))
   by_cases h3:(lone h a).2=true
   rotate_left
   ·rw [Bool.not_eq_true] at h3
    rw [h3,cond_false]
    exact old (fun ⟨_,p,h4,_⟩=>by rw [um h4] at h3; cases h3)
   have hp:=Fw.1 ⟨h3,rfl⟩
   rw [h3,cond_true]
   refine aA (fun h4 => ?_) (fun h4=>old (fun ⟨_,p,h5,h6,_⟩=>by rw [um h5] at h4; exact h4 h6));refine aj (by omega) ?_
   by_cases h5:idx (dwr h a) (k:Int)=(lone h a).1
   ·rw [show (idx (dwr h a) (k:Int) != (lone h a).1)=false by rw [bne_eq_false_iff_eq]; exact h5]
    refine old (fun ⟨_,p,h6,_,h8⟩ => ?_)
    rw [um h6] at h5
    exact h8 h5.symm
   ·rw [show (idx (dwr h a) (k:Int) != (lone h a).1)=true by rw [bne_iff_ne]; exact h5,cond_true]
    refine aj (by omega) (bA (Nb hS hc) ?_);refine fini _ ?_
    rw [decide_eq_decide]
    have nm:¬ made h a:=fun h=>by have:=a4 h.1; omega
    unfold ovr
    constructor
    ·intro h6;exact .inr (.inr ⟨nm,h2,_,hp,fun h=>h5 h.symm,h6⟩)
    ·rintro (h | h | ⟨_,_,p,h6,_,h7⟩)
     ·rw [hp] at h
      exact absurd (List.cons.inj h).1 h4
     ·exact absurd h.1 nm
     ·rw [hp] at h6
      cases h6;exact h7
  have made_:¬ nz h a=[-1]→Tri (bif decide (made h a) then must (0≤(k:Int)∧(k:Int) < ((dwr h a).length:Int)) ((gZ (pts h a).1 (idx (dwr h a) (k:Int))).bind fun a6=>fE h (bn h h.Txns.length) a (kd h a) (lone h a) (dwr h a) (l++upE (fun k=>rwT h a (idx (dwr h a) (k:Int))) k) (k:Int) (!a6)) else (fE h (bn h h.Txns.length) a (kd h a) (lone h a) (dwr h a) (l++upE (fun k=>rwT h a (idx (dwr h a) (k:Int))) k) (k:Int) false))
    (Upm (dwr h a).length k (fun k s=>s=(l++upE (fun k=>rwT h a (idx (dwr h a) (k:Int))) k,(k:Int))) (fun y:(List Edge×Int) ⊕ List Edge=>y = .inr (l++rwE h a))):=fun hn=>by
   by_cases hm:made h a
   ·rw [decide_eq_true hm,cond_true]
    refine aj (by omega) (bA (KH (by omega)) (mid _ ?_))
    simp [hn,hm]
   ·rw [decide_eq_false hm,cond_false]
    exact mid _ ⟨fun h=>(nomatch h),fun h=>h.elim (fun h=>absurd h hn) (fun h=>absurd h.1 hm)⟩
  by_cases h2:(lone h a).2=true
  ·rw [h2,cond_true]
   refine aA (fun h3=>mid true ⟨fun _ => .inl (Fw.1 ⟨h2,h3⟩),fun _=>rfl⟩) (fun h3=>made_ (fun h4=>h3 (by rw [um h4])))
  ·rw [Bool.not_eq_true] at h2
   rw [h2,cond_false]
   exact made_ (fun h4=>by rw [um h4] at h2; cases h2)
 ·have:k=(dwr h a).length:=by omega
  subst this;exact aD (aD (ag rfl))
theorem Sj (hS:fw h) (hc:aJ h=some 0) {a:Ask} (ha:a ∈ bn h h.Txns.length) {l:List Edge} (hl:l.length < 2 ^ 29):kH h (bn h h.Txns.length) a (kd h a) (lone h a) l=some (l++wwE h a++rwE h a):=by
 have a8:=hS.len;have hd:=DC (h:=h) (a:=a);obtain ⟨_,_,a7,hpl⟩:=Jd hS hc ha;refine eO.1 ?_;unfold kH;refine bA (MZ hS hc ha).2.1 ?_;have go:∀ b:Bool,b=decide (made h a)→Tri (mF h (bn h h.Txns.length) a (kd h a) (lone h a) l (pts h a) b) (fun r=>r=l++wwE h a++rwE h a):=by
  rintro b hb;have a3:(pts h a).2=true→b=decide (made h a):=fun _=>hb;have a4:(pts h a).2=false→b=false:=fun e=>by rw [hb]; exact decide_eq_false (fun h=>by have:=h.1; rw [e] at this; cases this)
  unfold mF;refine bA (Je hS) ?_
  by_cases hm:made h a
  ·rw [decide_eq_true hm] at hb
   subst hb;refine bX (k0:=0) (pts h a).1.length (fun k s=>s=(l++upE (zq h a) k,(k:Int))) (Nat.zero_le _) (by simp [upE]) ?_;rintro k s hk rfl;have hw:w64 ((k:Int) + 1)=((k + 1:Nat):Int):=aZ (by omega);have hu:=LD hS (a:=a) (k:=k);have hsu:upE (zq h a) (k + 1)=upE (zq h a) k++zq h a k:=qG;unfold qm
   dsimp only
   refine aA (fun h1 => ?_) (fun h1 => ?_)
   ·have a5:k < (pts h a).1.length:=by omega
    unfold jq
    rw [cond_true,hw]
    have rest:¬ (kd h a=2∧k + 1 < (pts h a).1.length)→Tri (iter (qi a (pts h a) (dwr h a) (k:Int)) (l++upE (zq h a) k,0)) (Upm (pts h a).1.length k (fun k s=>s=(l++upE (zq h a) k,(k:Int))) (fun r:List Edge=>r=l++wwE h a++rwE h a)):=fun hn=>by
     refine bX (k0:=0) (dwr h a).length (fun q s=>s=(l++upE (zq h a) k++upE (fun q=>wwT h a (idx (pts h a).1 (k:Int)) (idx (dwr h a) (q:Int))) q,(q:Int))) (Nat.zero_le _) (by simp [upE]) ?_;rintro q s hq rfl;have a6:w64 ((q:Int) + 1)=((q + 1:Nat):Int):=aZ (by omega);have a9:=yn (f:=fun q=>wwT h a (idx (pts h a).1 (k:Int)) (idx (dwr h a) (q:Int))) (m:=1) (fun q=>LB) q;have a2:upE (fun q=>wwT h a (idx (pts h a).1 (k:Int)) (idx (dwr h a) (q:Int))) (q + 1)=upE (fun q=>wwT h a (idx (pts h a).1 (k:Int)) (idx (dwr h a) (q:Int))) q++wwT h a (idx (pts h a).1 (k:Int)) (idx (dwr h a) (q:Int)):=qG;unfold qi qh mE
     dsimp only
     rw [hw,a6]
     refine aA (fun h2 => ?_) (fun h2 => ?_)
     ·have a1:q < (dwr h a).length:=by omega
      refine aj (by omega) (bA (KH (by omega)) ?_)
      by_cases h3:idx (dwr h a) (q:Int) ∈ (pts h a).1
      ·rw [decide_eq_true h3,Bool.not_true,cond_false]
       refine ag ⟨a1,?_⟩
       dsimp only
       rw [a2,wwT,if_pos h3,List.append_nil]
      ·rw [decide_eq_false h3,Bool.not_false,cond_true]
       refine aj (by omega) (aj (by simp only [List.length_append]; omega) (ag ⟨a1,?_⟩))
       dsimp only
       rw [a2,wwT,if_neg h3,List.append_assoc]
     ·have:q=(dwr h a).length:=by omega
      subst this;refine aD (ag ⟨a5,?_⟩)
      dsimp only
      rw [hsu,zq,if_neg hn,List.append_assoc]
    unfold qj mE
    rw [hw]
    refine aA (fun h2 => ?_) (fun h2=>by rw [cond_false]; exact rest (fun h=>h2 h.1))
    refine aA (fun h3 => ?_) (fun h3=>rest (fun h=>by omega));refine aj (by omega) (aj (by omega) (aj (by simp only [List.length_append]; omega) (ag ⟨a5,?_⟩)))
    dsimp only
    rw [hsu,zq,if_pos ⟨h2,by omega⟩,List.append_assoc]
   ·have:k=(pts h a).1.length:=by omega
    subst this;unfold jq
    rw [cond_false,Si hS hc ha a3 a4 (by rw [List.length_append]; omega)]
    refine ag ?_
    show _=_
    rw [wwE,if_pos hm]
  ·rw [decide_eq_false hm] at hb
   subst hb
   rw [BO]
   unfold qm
   dsimp only
   have e:jq h (bn h h.Txns.length) a (kd h a) (lone h a) (pts h a) false (dwr h a) l 0 false=some (.inr (l++rwE h a)):=by
    unfold jq
    rw [cond_false,Si hS hc ha a3 a4 (by omega)]
   rw [e,Bool.cond_self]
   refine ⟨_,rfl,?_⟩
   rw [wwE,if_neg hm,List.append_nil]
 by_cases h2:(pts h a).2=true
 ·rw [h2,cond_true]
  refine go _ ?_;have e:made h a↔((a.Base.length:Int) > 0):=⟨fun h=>by have:=h.2; omega,fun h=>⟨h2,by omega⟩⟩
  exact (decide_eq_decide.2 e).symm
 ·rw [Bool.not_eq_true] at h2
  rw [h2,cond_false]
  exact go _ (decide_eq_false (fun h=>by have:=h.1; rw [h2] at this; cases this)).symm
theorem Ui (hS:fw h) (hc:aJ h=some 0) {a:Ask} (ha:a ∈ bn h h.Txns.length):ax h (bn h h.Txns.length) a=some (LA h a):=by
 obtain ⟨t,p,hk⟩:=EA hS ha;have hkd:=Sa hk;have e1:=hk.e1;have e2:=hk.e2;have tl:=hk.tl;have pl:=hk.pl;obtain ⟨k1,k8⟩:=Du hS hk.tl hk.pl;refine eO.1 ?_;unfold ax LA;have hop:(idx (idx h.Txns a.Txn).Ops a.Place).Kind=(opAt h (t:Int) (p:Int)).Kind:=by rw [e1,e2]; rfl
 refine aj (by omega) (aj (by rw [e1]; omega) ?_)
 rw [hop]
 refine bA (Dr k1 k8) ?_
 rw [← hkd]
 refine bA (KI hS hc ha) ?_;unfold oO;have none_:wrE h a=[]→Tri (kH h (bn h h.Txns.length) a (kd h a) (lone h a) []) (fun b=>b=wrE h a++wwE h a++rwE h a):=fun e=>by
  rw [Sj hS hc ha (by simp),e]
  exact ag rfl
 by_cases h1:(lone h a).2=true
 ·rw [h1,cond_true]
  have hp:=Fw.1 ⟨h1,rfl⟩;refine aA (fun h2 => ?_) (fun h2 => ?_)
  ·refine aj (by omega) ?_
   rw [Sj hS hc ha (by simp)]
   have ew:wrE h a=[⟨(lone h a).1,a.Txn,4,a.Key⟩]:=by
    unfold wrE
    rw [hp]
    exact if_neg h2
   rw [ew]
   exact ag rfl
  ·refine none_ ?_;unfold wrE
   rw [hp]
   exact if_pos (Classical.byContradiction h2)
 ·rw [Bool.not_eq_true] at h1
  rw [h1,cond_false,cond_false]
  refine none_ ?_;unfold wrE
  split
  ·rename_i q hq
   rw [um hq] at h1
   cases h1
  ·rfl
theorem UY (hs:qy h) (hS:fw h) (hc:aJ h=some 0):eX h=some ⟨(h.Txns.length:Int),CZ h⟩:=by
 have a2:=hS.len;obtain ⟨i1,_,_⟩:=pO hS h.Txns.length (Nat.le_refl _);refine eO.1 ?_;unfold eX;refine bA (Oj hS) ?_;unfold vW;refine bA (CQ hs hS) ?_;refine bX (k0:=0) (bn h h.Txns.length).length (fun k s=>s=(uC h k,(k:Int))) (Nat.zero_le _) (by simp [uC]) ?_;rintro k s hk rfl;have hw:w64 ((k:Int) + 1)=((k + 1:Nat):Int):=aZ (by omega);have hel:=Da hS hc k hk;unfold vV vU
 dsimp only
 rw [hw]
 refine aA (fun h1 => ?_) (fun h1 => ?_)
 ·have a1:k < (bn h h.Txns.length).length:=by omega
  have ha:=sN a1;have hal:=Na hS hc ha;refine aj (by omega) (bA (Ui hS hc ha) ?_);refine aj (by omega) (ag ⟨a1,?_⟩)
  dsimp only
  rw [BF a1]
 ·have:k=(bn h h.Txns.length).length:=by omega
  subst this;refine aD (ag ?_)
  show dP.mk _ _=_
  unfold uC CZ
  rw [List.take_length]
end
end Go.Proofs.YtfpeabnehpclnaaGreatT
namespace Go.Proofs.YtfpeabnehpclnaaGreatT
open Go Go.Proofs Go.Proofs.YtfpeabnehpclnaaGreatE
set_option linter.unusedVariables false
set_option linter.unusedSimpArgs false
set_option maxRecDepth 4096
def wz (N:Int) (e:Edge):Prop:=0≤e.From∧e.From < N∧0≤e.To∧e.To < N∧1≤e.Kind∧e.Kind≤16∧dm .i64 e.Kind (w64 (e.Kind - 1))=0
structure Good (g:dP):Prop where
 n0:0≤g.N
 n1:g.N≤64
 m:g.Edges.length≤262144
 e:∀ k:Nat,k < g.Edges.length→wz g.N (idx g.Edges k)
theorem ones (k:Int) (h1:1≤k) (h2:k≤16):Tri (pz (IntKind.wrap .u64 k)) (fun c=>(c != 1)=(dm .i64 k (w64 (k - 1)) != 0)):=by
 have h:k=1∨k=2∨k=3∨k=4∨k=5∨k=6∨k=7∨k=8∨k=9∨k=10∨k=11∨k=12∨k=13∨k=14∨k=15∨k=16:=by omega
 have key:∀ n:Fin 17,1≤n.1→(pz (IntKind.wrap .u64 (n.1:Int))).map (fun c=>(c != 1))=some (dm .i64 (n.1:Int) (w64 ((n.1:Int) - 1)) != 0):=by decide +kernel
 obtain ⟨n,rfl⟩:∃ n:Nat,k=n:=⟨k.toNat,by omega⟩
 have:=key ⟨n,by omega⟩ (by simp; omega)
 simp only at this
 cases hb:pz (IntKind.wrap .u64 (n:Int)) with
 | none=>rw [hb] at this; cases this
 | some c=>rw [hb] at this; exact ⟨c,rfl,Option.some.inj this⟩
theorem PE (x:Int) (g:dP):qK x g=some (decide (0≤x) && decide (x < g.N)):=by
 unfold qK
 by_cases h:x ≥ 0
 ·have h':0≤x:=h
  simp [h']
 ·have h':¬ 0≤x:=h
  simp [h']
def Told (g:dP) (r:Int):Prop:=(r=0∧Good g)∨(r=60 ∧ ¬ Good g)
theorem Fx {g:dP} {k:Nat} (b:Bool) (hk:k < g.Edges.length) (hm:g.Edges.length≤262144) (hb:b=true → ¬ wz g.N (idx g.Edges k)) (hb':b=false→wz g.N (idx g.Edges k))
  (hJ:∀ i:Nat,i < k→wz g.N (idx g.Edges i)):Tri (kU (k:Int) b) (Up g.Edges.length k (fun k=>∀ i:Nat,i < k→wz g.N (idx g.Edges i)) (Told g)):=by
 unfold kU;cases b with
 | true=>exact ⟨_,rfl,Or.inr ⟨rfl,fun hg=>hb rfl (hg.e k hk)⟩⟩
 | false =>
  refine ⟨_,rfl,aZ (by omega),hk,fun i hi => ?_⟩
  by_cases e:i=k
  ·subst e; exact hb' rfl
  ·exact hJ i (by omega)
theorem Gu (g:dP):Tri (dJ g) (Told g):=by
 have hj:∀ b:Bool,0≤g.N→g.N≤64→b=decide ((g.Edges.length:Int) > 262144)→Tri (pE g b) (Told g):=by
  intro b h0 h1 hb;unfold pE;refine eP (fun h => ?_) (fun h => ?_)
  ·subst hb;have:(g.Edges.length:Int) > 262144:=of_decide_eq_true h;exact ⟨_,rfl,Or.inr ⟨rfl,fun hg=>by have:=hg.m; omega⟩⟩
  ·subst hb;have hm:¬ (g.Edges.length:Int) > 262144:=of_decide_eq_false h;refine EB g.Edges.length (fun k=>∀ i:Nat,i < k→wz g.N (idx g.Edges i)) (fun i hi=>by omega) (fun k hk hJ => ?_)
   show Tri (bif decide ((k:Int) < (g.Edges.length:Int)) then _ else _) _
   refine eP (fun h => ?_) (fun h => ?_)
   ·have h:(k:Int) < g.Edges.length:=of_decide_eq_true h;have hk':k < g.Edges.length:=by omega
    refine aj ⟨by omega,h⟩ ?_
    rw [PE,PE]
    refine eP (fun h => ?_) (fun h => ?_)
    ·refine Fx true hk' (by omega) (fun _ ho => ?_) (fun h=>by cases h) hJ
     simp [ho.1,ho.2.1] at h
    ·simp only [Bool.not_eq_false',Bool.and_eq_true,decide_eq_true_eq] at h
     refine eP (fun h' => ?_) (fun h' => ?_)
     ·refine Fx true hk' (by omega) (fun _ ho => ?_) (fun h=>by cases h) hJ
      simp [ho.2.2.1,ho.2.2.2.1] at h'
     ·simp only [Bool.not_eq_false',Bool.and_eq_true,decide_eq_true_eq] at h'
      refine eP (fun h1 => ?_) (fun h1 => ?_)
      ·refine Fx true hk' (by omega) (fun _ ho => ?_) (fun h=>by cases h) hJ;have:=of_decide_eq_true h1;have:=ho.2.2.2.2.1
       omega
      ·refine eP (fun h2 => ?_) (fun h2 => ?_)
       ·refine Fx true hk' (by omega) (fun _ ho => ?_) (fun h=>by cases h) hJ;have:=of_decide_eq_true h2;have:=ho.2.2.2.2.2.1
        omega
       ·have h1:=of_decide_eq_false h1;have h2:=of_decide_eq_false h2;refine ed (ones _ (by omega) (by omega)) (fun c hc => ?_)
        rw [hc]
        refine Fx _ hk' (by omega) (fun hx ho => ?_) (fun hx => ?_) hJ
        ·have:=ho.2.2.2.2.2.2
         rw [this] at hx
         cases hx
        ·refine ⟨h.1,h.2,h'.1,h'.2,by omega,by omega,?_⟩
         simpa using hx
   ·have h:¬ (k:Int) < g.Edges.length:=of_decide_eq_false h;exact aD ⟨_,rfl,Or.inl ⟨rfl,h0,h1,by omega,fun i hi=>hJ i (by omega)⟩⟩
 unfold dJ;refine eP (fun h => ?_) (fun h => ?_)
 ·exact ⟨_,rfl,Or.inr ⟨rfl,fun hg=>by have:=of_decide_eq_true h; have:=hg.n0; omega⟩⟩
 ·have h:=of_decide_eq_false h;refine eP (fun h' => ?_) (fun h' => ?_)
  ·exact ⟨_,rfl,Or.inr ⟨rfl,fun hg=>by have:=of_decide_eq_true h'; have:=hg.n1; omega⟩⟩
  ·have h':=of_decide_eq_false h';exact hj _ (by omega) (by omega) rfl
theorem Nc {g:dP} {k:Nat} (b:Bool) (hk:k < g.Edges.length) (hm:g.Edges.length≤262144) (hb:b=true → ¬ wz g.N (idx g.Edges k)) (hb':b=false→wz g.N (idx g.Edges k))
  (hJ:∀ i:Nat,i < k→wz g.N (idx g.Edges i)):Tri (eY (k:Int) b) (Up g.Edges.length k (fun k=>∀ i:Nat,i < k→wz g.N (idx g.Edges i)) (Told g)):=by
 unfold eY;cases b with
 | true=>exact ⟨_,rfl,Or.inr ⟨rfl,fun hg=>hb rfl (hg.e k hk)⟩⟩
 | false =>
  refine ⟨_,rfl,aZ (by omega),hk,fun i hi => ?_⟩
  by_cases e:i=k
  ·subst e; exact hb' rfl
  ·exact hJ i (by omega)
theorem Fy (g:dP):Tri (bB g) (Told g):=by
 have hj:∀ b:Bool,0≤g.N→g.N≤64→b=decide ((g.Edges.length:Int) > 262144)→Tri (jw g b) (Told g):=by
  intro b h0 h1 hb;unfold jw;refine eP (fun h => ?_) (fun h => ?_)
  ·subst hb;have:(g.Edges.length:Int) > 262144:=of_decide_eq_true h;exact ⟨_,rfl,Or.inr ⟨rfl,fun hg=>by have:=hg.m; omega⟩⟩
  ·subst hb;have hm:¬ (g.Edges.length:Int) > 262144:=of_decide_eq_false h;refine EB g.Edges.length (fun k=>∀ i:Nat,i < k→wz g.N (idx g.Edges i)) (fun i hi=>by omega) (fun k hk hJ => ?_)
   show Tri (bif decide ((k:Int) < (g.Edges.length:Int)) then _ else _) _
   refine eP (fun h => ?_) (fun h => ?_)
   ·have h:(k:Int) < g.Edges.length:=of_decide_eq_true h;have hk':k < g.Edges.length:=by omega
    refine aj ⟨by omega,h⟩ ?_
    have bad:(wz g.N (idx g.Edges (k:Int))→False)→Tri (eY (k:Int) true) (Up g.Edges.length k (fun k=>∀ i:Nat,i < k→wz g.N (idx g.Edges i)) (Told g)) :=
     fun hn=>Nc true hk' (by omega) (fun _=>hn) (fun h=>by cases h) hJ
    refine eP (fun h1=>bad fun ho => ?_) (fun h1 => ?_)
    ·have:=of_decide_eq_true h1; have:=ho.1; omega
    refine eP (fun h2=>bad fun ho => ?_) (fun h2 => ?_)
    ·have:=of_decide_eq_true h2; have:=ho.2.1; omega
    refine eP (fun h3=>bad fun ho => ?_) (fun h3 => ?_)
    ·have:=of_decide_eq_true h3; have:=ho.2.2.1; omega
    refine eP (fun h4=>bad fun ho => ?_) (fun h4 => ?_)
    ·have:=of_decide_eq_true h4; have:=ho.2.2.2.1; omega
    refine eP (fun h5=>bad fun ho => ?_) (fun h5 => ?_)
    ·have:=of_decide_eq_true h5; have:=ho.2.2.2.2.1; omega
    refine eP (fun h6=>bad fun ho => ?_) (fun h6 => ?_)
    ·have:=of_decide_eq_true h6; have:=ho.2.2.2.2.2.1; omega
    have h1:=of_decide_eq_false h1;have h2:=of_decide_eq_false h2;have h3:=of_decide_eq_false h3;have h4:=of_decide_eq_false h4;have h5:=of_decide_eq_false h5;have h6:=of_decide_eq_false h6;refine Nc _ hk' (by omega) (fun hx ho => ?_) (fun hx => ?_) hJ
    ·have:=ho.2.2.2.2.2.2
     rw [this] at hx
     cases hx
    ·refine ⟨by omega,by omega,by omega,by omega,by omega,by omega,?_⟩
     simpa using hx
   ·have h:¬ (k:Int) < g.Edges.length:=of_decide_eq_false h;exact aD ⟨_,rfl,Or.inl ⟨rfl,h0,h1,by omega,fun i hi=>hJ i (by omega)⟩⟩
 unfold bB;refine eP (fun h => ?_) (fun h => ?_)
 ·exact ⟨_,rfl,Or.inr ⟨rfl,fun hg=>by have:=of_decide_eq_true h; have:=hg.n0; omega⟩⟩
 ·have h:=of_decide_eq_false h;refine eP (fun h' => ?_) (fun h' => ?_)
  ·exact ⟨_,rfl,Or.inr ⟨rfl,fun hg=>by have:=of_decide_eq_true h'; have:=hg.n1; omega⟩⟩
  ·have h':=of_decide_eq_false h';exact hj _ (by omega) (by omega) rfl
theorem Jf (g:dP):(Good g∧dJ g=some 0)∨(¬ Good g∧dJ g=some 60):=by
 obtain ⟨r,h,h' | h'⟩:=Gu g
 ·exact Or.inl ⟨h'.2,h'.1 ▸ h⟩
 ·exact Or.inr ⟨h'.2,h'.1 ▸ h⟩
theorem LF (g:dP):(Good g∧bB g=some 0)∨(¬ Good g∧bB g=some 60):=by
 obtain ⟨r,h,h' | h'⟩:=Fy g
 ·exact Or.inl ⟨h'.2,h'.1 ▸ h⟩
 ·exact Or.inr ⟨h'.2,h'.1 ▸ h⟩
def Rows (ws:List Int) (n:Nat) (p:Nat→Nat→Prop):Prop:=ws.length=n∧∀ i:Nat,i < n→Wd (idx ws (i:Int)) (p i)
end Go.Proofs.YtfpeabnehpclnaaGreatT
namespace Go.Proofs.YtfpeabnehpclnaaGreatT
open Go Go.Proofs Go.Proofs.YtfpeabnehpclnaaGreatE
set_option linter.unusedVariables false
set_option linter.unusedSimpArgs false
def lx:List Int→List Int→Prop
 | a::p,b::q=>a < b∨(a=b∧lx p q)
 | _,_=>False
def lxe (p q:List Int):Prop:=p=q∨lx p q
section
variable {S:Type} (ext:S→Int→Option S)
def run (x:S):List Int→Option S
 | []=>some x
 | j::p=>(ext x j).bind fun y=>run y p
variable {ext}
variable (ext)
structure Lv (x0:S) (m:Nat) (seen:S→Prop) (lv:List (S×List Int)):Prop where
 ok:∀ e ∈ lv,run ext x0 e.2=some e.1∧e.2.length=m
 sorted:lv.Pairwise (fun a b=>lx a.2 b.2)
 seen:∀ y,seen y↔∃ p,p.length≤m∧run ext x0 p=some y
 full:∀ p y,p.length=m→run ext x0 p=some y→(∃ q,q.length < m∧run ext x0 q=some y)∨∃ e ∈ lv,e.1=y∧lxe e.2 p
variable {ext}
structure Vv (S:Type) where
 x:S
 p:List Int
 j:Int
 t:S
structure Wq (seen:S→Prop) (done:List (Vv S)) (nx:List (S×List Int×S)):Prop where
 from_:∀ z ∈ nx,¬ seen z.1∧∃ c ∈ done,z=(c.t,c.q,c.x)
 has:∀ c ∈ done,seen c.t∨∃ z ∈ nx,z.1=c.t∧lxe z.2.1 c.q
 sorted:nx.Pairwise (fun a b=>lx a.2.1 b.2.1)
 nd:nx.Pairwise (fun a b=>a.1≠b.1)
structure Did (ext:S→Int→Option S) (lv:List (S×List Int)) (a:Nat) (j:Int) (done:List (Vv S)):Prop where
 is:∀ c ∈ done,∃ b:Nat,lv[b]? = some (c.x,c.p)∧ext c.x c.j=some c.t∧(b < a∨(b=a∧c.j < j))
 all:∀ (b:Nat) x p i t,lv[b]? = some (x,p)→ext x i=some t→(b < a∨(b=a∧i < j))→∃ c ∈ done,c.x=x∧c.p=p∧c.j=i∧c.t=t
def Clo (ext:S→Int→Option S) (closes:S→Prop) (x:S) (p:List Int):Prop:=∃ y,run ext x p=some y∧closes y
structure VO (ext:S→Int→Option S) (closes:S→Prop) (x:S) (p:List Int):Prop where
 clo:Clo ext closes x p
 min:∀ q,Clo ext closes x q→p.length≤q.length∧(q.length=p.length→lxe p q)
end
end Go.Proofs.YtfpeabnehpclnaaGreatT
namespace Go.Proofs.YtfpeabnehpclnaaGreatT
open Go Go.Proofs Go.Proofs.YtfpeabnehpclnaaGreatE
set_option linter.unusedVariables false
set_option linter.unusedSimpArgs false
structure VV (net:fG) (n:Nat) (t l:Int→Int→Bool):Prop where
 N:net.g.N=n
 le:n≤64
 len:net.links.length=n
 row:∀ i:Int,0≤i→i < n→(idx net.links i).length=n
 tg:∀ i j:Int,0≤i→i < n→0≤j→j < n→((idx (idx net.links i) j).tight == 0) = !t i j
 ls:∀ i j:Int,0≤i→i < n→0≤j→j < n→((idx (idx net.links i) j).loose == 0) = !l i j
 tpos:∀ i j:Int,0≤i→i < n→0≤j→j < n→0≤(idx (idx net.links i) j).tight
def stp (t l:Int→Int→Bool) (s n:Int) (x:av) (j:Int):Option av :=
 if s≤j∧j < n∧(t x.node j=true∨(l x.node j=true∧x.last_=false)) then some ⟨j,!t x.node j,x.first_⟩ else none
inductive Tr (m:List (av×av)):av→List Int→Prop where
 | root {x:av} (h:x.node < 0):Tr m x []
 | back {x:av} {q:List Int} (h0:0≤x.node) (h:jX m x=true) (ht:Tr m (mat m x) q):Tr m x (q++[x.node])
def root:av:=⟨-1,false,false⟩
def ext (t l:Int→Int→Bool) (s n:Int) (x:av) (j:Int):Option av :=
 if x.node < 0 then (stp t l s n ⟨s,false,false⟩ j).map (fun y=>⟨y.node,y.last_,y.last_⟩) else stp t l s n x j
def clo (t l:Int→Int→Bool) (s:Int) (x:av):Prop :=
 if x.node < 0 then t s s=true else t x.node s=true∨(l x.node s=true∧x.last_=false∧x.first_=false)
structure Knows (m:List (av×av)) (seen:av→Prop):Prop where
 has:∀ y:av,0≤y.node→(jX m y=true↔seen y)
structure At (t l:Int→Int→Bool) (s:Int) (n k:Nat) (m:List (av×av)) (lv:List (av×List Int)) (seen:av→Prop):Prop where
 lev:Lv (ext t l s n) root k seen lv
 no:∀ p,p.length < k → ¬ Clo (ext t l s n) (clo t l s) root p
 knows:Knows m seen
 tr:∀ e ∈ lv,Tr m e.1 e.2
 node:∀ e ∈ lv,0≤e.1.node∧e.1.node < n
variable {t l:Int→Int→Bool} {s:Int} {n:Nat}
def code (x:av):Nat:=x.node.toNat * 4 + (if x.last_ then 2 else 0) + (if x.first_ then 1 else 0)
end Go.Proofs.YtfpeabnehpclnaaGreatT
namespace Go.Proofs.YtfpeabnehpclnaaGreatT
open Go Go.Proofs Go.Proofs.YtfpeabnehpclnaaGreatE
set_option linter.unusedVariables false
set_option linter.unusedSimpArgs false
variable {t l:Int→Int→Bool} {s:Int} {n k:Nat}
section
variable {seen:av→Prop} {lv:List (av×List Int)} {a:Nat} {j:Int} {m:List (av×av)} {nl:List av} {x y:av} {p:List Int}
end
end Go.Proofs.YtfpeabnehpclnaaGreatT
namespace Go.Proofs.YtfpeabnehpclnaaGreatT
open Go Go.Proofs Go.Proofs.YtfpeabnehpclnaaGreatE
set_option linter.unusedVariables false
set_option linter.unusedSimpArgs false
set_option linter.unusedSectionVars false
variable {t l:Int→Int→Bool} {s:Int} {n k:Nat}
structure Vw (a:pg) (n:Nat) (t l:Int→Int→Bool):Prop where
 N:a.n=n
 le:n≤64
 dlen:a.d.length=n
 rlen:a.r.length=n
 drow:∀ i:Int,0≤i→i < n→(idx a.d i).length=n
 rrow:∀ i:Int,0≤i→i < n→(idx a.r i).length=n
 d:∀ i j:Int,0≤i→i < n→0≤j→j < n→idx (idx a.d i) j=t i j
 r:∀ i j:Int,0≤i→i < n→0≤j→j < n→idx (idx a.r i) j=l i j
def gt (w:List (Int×Int)) (i:Int) (b:Bool):Int:=if b then (idx w i).2 else (idx w i).1
theorem Sk {α:Type} [Inhabited α] {xs:List α} {i j:Int} {v:α} (h0:0≤i) (h1:i < xs.length) (hj:0≤j):idx (xs.set i.toNat v) j=if j=i then v else idx xs j:=by
 have:=PI (xs:=xs) (v:=v) (j:=j.toNat) h0 h1
 rw [Int.toNat_of_nonneg hj] at this
 exact this
def sm (w:List (Int×Int)):Nat:=(w.map fun q=>q.1.toNat + q.2.toNat).sum
def home (s:Int) (x:av):Prop:=x.node=s ∧ ¬ (x.last_=true∧x.first_=true)
abbrev Vx (t l:Int→Int→Bool) (s:Int) (n:Nat) (x:av) (p:List Int):Prop:=Clo (ext t l s n) (clo t l s) x p
def Rem (t l:Int→Int→Bool) (s:Int) (n:Nat) (x:av) (v:Int):Prop:=(v=0∧home s x)∨∃ p,Vx t l s n x p∧(p.length:Int) + 1=v
structure WI (t l:Int→Int→Bool) (s:Int) (n:Nat) (f:Bool) (w:List (Int×Int)):Prop where
 len:w.length=n
 lo:∀ (i:Int) b,0≤i→i < n→0≤gt w i b∧gt w i b≤1048576
 rem:∀ (i:Int) b,s≤i→i < n→gt w i b < 1048576→Rem t l s n ⟨i,b,f⟩ (gt w i b)
 zero:∀ b,¬ (b=true∧f=true)→gt w s b=0
def Vy (t l:Int→Int→Bool) (s:Int) (n:Nat) (f:Bool) (w:List (Int×Int)) (i:Int) (b:Bool) (j:Int):Prop:=∀ y,stp t l s n ⟨i,b,f⟩ j=some y→gt w i b≤gt w j y.last_ + 1
structure Ws (t l:Int→Int→Bool) (s:Int) (n:Nat) (f:Bool) (w:List (Int×Int)):Prop extends WI t l s n f w where
 fix:∀ (i:Int) b (j:Int),s≤i→i < n→s≤j→j < n→Vy t l s n f w i b j
section
variable {f:Bool}
variable {a:pg}
structure Wt (t l:Int→Int→Bool) (s:Int) (n:Nat) (f:Bool) (w0:List (Int×Int)) (did:Int→Bool→Int→Prop) (w:List (Int×Int)) (turned:Bool):Prop where
 wi:WI t l s n f w
 no:turned=false→w=w0∧∀ (i:Int) b (j:Int),s≤i→i < n→s≤j→j < n→did i b j→Vy t l s n f w0 i b j
 yes:turned=true→sm w < sm w0
end
end Go.Proofs.YtfpeabnehpclnaaGreatT
namespace Go.Proofs.YtfpeabnehpclnaaGreatT
open Go Go.Proofs Go.Proofs.YtfpeabnehpclnaaGreatE
set_option linter.unusedVariables false
set_option linter.unusedSimpArgs false
set_option linter.unusedSectionVars false
variable {t l:Int→Int→Bool} {s:Int} {n k:Nat} {f:Bool}
variable {a:pg}
end Go.Proofs.YtfpeabnehpclnaaGreatT
namespace Go.Proofs.YtfpeabnehpclnaaGreatT
open Go Go.Proofs Go.Proofs.YtfpeabnehpclnaaGreatE
set_option linter.unusedVariables false
set_option linter.unusedSimpArgs false
set_option linter.unusedSectionVars false
variable {t l:Int→Int→Bool} {s:Int} {n k:Nat} {f:Bool}
variable {a:pg}
structure VP (t l:Int→Int→Bool) (s:Int) (n:Nat) (f:Bool) (w:List (Int×Int)) (B:Int) (next:Int) (q:List Int) (last:Bool) (left_:Int):Prop where
 nx:s≤next∧next < n
 run:run (ext t l s n) root (q++[next])=some ⟨next,last,f⟩
 gt:gt w next last=left_
 len:(q.length:Int) + 1 + left_=B
 lex:∀ p,Vx t l s n root p→(p.length:Int) + 1=B→lxe (q++[next]) ((p++[s]).take (q.length + 1))
end Go.Proofs.YtfpeabnehpclnaaGreatT
namespace Go.Proofs.YtfpeabnehpclnaaGreatT
open Go Go.Proofs Go.Proofs.YtfpeabnehpclnaaGreatE
set_option linter.unusedVariables false
set_option linter.unusedSimpArgs false
set_option linter.unusedSectionVars false
structure VW (t l:Int→Int→Bool) (n:Nat) (k:Nat) (c:Nat→Int):Prop where
 pos:0 < k
 per:∀ i,c (i + k)=c i
 node:∀ i,0≤c i∧c i < n
 edge:∀ i,t (c i) (c (i + 1))=true∨(l (c i) (c (i + 1))=true∧t (c (i + 1)) (c (i + 2))=true)
variable {t l:Int→Int→Bool} {n k:Nat} {c:Nat→Int}
def at3 (c:List Int) (i:Nat):Int:=idx c ((i % c.length:Nat):Int)
variable {s:Int}
end Go.Proofs.YtfpeabnehpclnaaGreatT
namespace Go.Proofs.YtfpeabnehpclnaaGreatT
open Go Go.Proofs Go.Proofs.YtfpeabnehpclnaaGreatE
set_option linter.unusedVariables false
set_option linter.unusedSimpArgs false
set_option linter.unusedSectionVars false
def Sl (g:dP) (mask i j:Int) (k:Nat):Prop:=(idx g.Edges (k:Int)).From=i∧(idx g.Edges (k:Int)).To=j∧dm .i64 (idx g.Edges (k:Int)).Kind mask≠0
instance (g:dP) (mask i j:Int) (k:Nat):Decidable (Sl g mask i j k):=by unfold Sl; infer_instance
def fe (g:dP) (mask:Int):Nat→Int→Int→Int
 | 0,_,_=>0
 | x + 1,i,j=>if fe g mask x i j=0∧Sl g mask i j x then (x:Int) + 1 else fe g mask x i j
structure VX (g:dP) (d r:Int) (x:Nat) (tab:List (List bJ)):Prop where
 len:tab.length=g.N.toNat
 row:∀ i:Int,0≤i→i < g.N→(idx tab i).length=g.N.toNat
 at_:∀ i j:Int,0≤i→i < g.N→0≤j→j < g.N→idx (idx tab i) j=⟨fe g d x i j,fe g r x i j⟩
variable {t l:Int→Int→Bool} {n k:Nat}
end Go.Proofs.YtfpeabnehpclnaaGreatT
namespace Go.Proofs.YtfpeabnehpclnaaGreatT
open Go Go.Proofs Go.Proofs.YtfpeabnehpclnaaGreatE
set_option linter.unusedVariables false
set_option linter.unusedSimpArgs false
set_option linter.unusedSectionVars false
theorem Jg {x m:Nat} (hx:x < m) (hm:m < 2 ^ 62):(w64 ((x:Int) + 1)).tmod (m:Int)=(((x + 1) % m:Nat):Int):=by
 rw [cZ (by omega) (by omega)]
 rfl
variable {g:dP} {d r:Int} {n:Nat}
end Go.Proofs.YtfpeabnehpclnaaGreatT
namespace Go.Proofs.YtfpeabnehpclnaaGreatT
open Go Go.Proofs Go.Proofs.YtfpeabnehpclnaaGreatE
set_option linter.unusedVariables false
set_option linter.unusedSimpArgs false
set_option linter.unusedSectionVars false
variable {t l:Int→Int→Bool} {n k:Nat}
def ex1 (t:Int→Int→Bool) (n:Int) (i j:Int):Option Int:=if 0≤j∧j < n∧t i j=true then some j else none
inductive TrN (m:List (Int×Int)):Int→List Int→Prop where
 | root {x:Int} (h:jX m x=true) (h0:mat m x < 0):TrN m x []
 | back {x:Int} {q:List Int} (h:jX m x=true) (h0:0≤mat m x) (ht:TrN m (mat m x) q):TrN m x (q++[mat m x])
structure Keys (n:Nat) (m:List (Int×Int)):Prop where
 nd:(m.map (·.1)).Nodup
 node:∀ x ∈ m.map (·.1),0≤x∧x < (n:Int)
def Uj (s:Int) (p:List Int):List Int:=(s::p).dropLast
structure AtB (t:Int→Int→Bool) (s e:Int) (n k:Nat) (m:List (Int×Int)) (lv:List (Int×List Int)) (seen:Int→Prop):Prop where
 lev:Lv (ex1 t n) s k seen lv
 no:∀ p,p.length < k → ¬ Clo (ex1 t n) (· = e) s p
 has:∀ y,jX m y=true↔seen y
 tr:∀ z ∈ lv,TrN m z.1 (Uj s z.2)
 keys:Keys n m
end Go.Proofs.YtfpeabnehpclnaaGreatT
namespace Go.Proofs.YtfpeabnehpclnaaGreatT
open Go Go.Proofs Go.Proofs.YtfpeabnehpclnaaGreatE
set_option linter.unusedVariables false
set_option linter.unusedSimpArgs false
set_option linter.unusedSectionVars false
variable {t l:Int→Int→Bool} {n k:Nat} {e:Int}
abbrev VQ (t:Int→Int→Bool) (e:Int) (n:Nat) (i:Int) (p:List Int):Prop:=Clo (ex1 t n) (· = e) i p
structure WB (t:Int→Int→Bool) (e:Int) (n:Nat) (w:List Int):Prop where
 len:w.length=n
 lo:∀ i:Int,0≤i→i < n→0≤idx w i∧idx w i≤1048576
 rem:∀ i:Int,0≤i→i < n→idx w i < 1048576→∃ p,VQ t e n i p∧(p.length:Int)=idx w i
 zero:idx w e=0
def Vz (t:Int→Int→Bool) (w:List Int) (i j:Int):Prop:=t i j=true→idx w i≤idx w j + 1
structure VY (t:Int→Int→Bool) (e:Int) (n:Nat) (w:List Int):Prop extends WB t e n w where
 fix:∀ i j:Int,0≤i→i < n→0≤j→j < n→Vz t w i j
def smB (w:List Int):Nat:=(w.map Int.toNat).sum
structure VZ (t:Int→Int→Bool) (e:Int) (n:Nat) (w0:List Int) (did:Int→Int→Prop) (w:List Int) (turned:Bool):Prop where
 wi:WB t e n w
 no:turned=false→w=w0∧∀ i j:Int,0≤i→i < n→0≤j→j < n→did i j→Vz t w0 i j
 yes:turned=true→smB w < smB w0
variable {a:pg}
end Go.Proofs.YtfpeabnehpclnaaGreatT
namespace Go.Proofs.YtfpeabnehpclnaaGreatT
open Go Go.Proofs Go.Proofs.YtfpeabnehpclnaaGreatE
set_option linter.unusedVariables false
set_option linter.unusedSimpArgs false
set_option linter.unusedSectionVars false
variable {t l:Int→Int→Bool} {n:Nat}
structure We (t l:Int→Int→Bool) (n:Nat) (c:List Int):Prop where
 ne:c≠[]
 node:∀ i,0≤at3 c i∧at3 c i < n
 one:l (at3 c 0) (at3 c 1)=true
 rest:∀ i,0 < i→i < c.length→t (at3 c i) (at3 c (i + 1))=true
variable {g:dP} {d r:Int}
end Go.Proofs.YtfpeabnehpclnaaGreatT
namespace Go.Proofs.YtfpeabnehpclnaaGreatT
open Go Go.Proofs Go.Proofs.YtfpeabnehpclnaaGreatE
set_option linter.unusedVariables false
set_option linter.unusedSimpArgs false
set_option linter.unusedSectionVars false
set_option maxHeartbeats 4000000
def nxt (c:List Edge) (i:Nat):Edge:=idx c (((i + 1) % c.length:Nat):Int)
def inM (e:Edge) (m:Int):Prop:=dm .i64 e.Kind m≠0
def Gv (d r rule:Int) (i:Nat) (e e':Edge):Prop:=(rule=1∧inM e d)∨(rule=2∧((i=0∧inM e r)∨(0 < i∧inM e d)))∨(rule=3∧(inM e d∨(inM e r∧inM e' d)))
structure Hy (g:dP) (c:List Edge) (d r rule:Int) (i:Nat):Prop where
 here:∃ k:Nat,k < g.Edges.length∧idx g.Edges (k:Int)=idx c (i:Int)
 next:(idx c (i:Int)).To=(nxt c i).From
 rule:Gv d r rule i (idx c (i:Int)) (nxt c i)
structure yV (g:dP) (c:List Edge) (d r rule:Int):Prop where
 good:Good g
 ne:c≠[]
 ok:∀ i,i < c.length→Hy g c d r rule i
 nd:∀ i j:Nat,i < c.length→j < c.length→(idx c (i:Int)).From=(idx c (j:Int)).From→i=j
theorem Ij {c:List Edge} {x:Nat} (hx:x < c.length) (hm:c.length < 2 ^ 62):idx c ((w64 ((x:Int) + 1)).tmod (c.length:Int))=nxt c x:=by
 rw [Jg hx hm]
 rfl
theorem Jh {κ ν:Type} [DecidableEq κ]:∀ {m:List (κ×ν)} {x:κ} {v:ν},jX m x=true→(iE m x v).length=m.length
 | [],x,v,h=>by simp [jX] at h
 | p::m,x,v,h=>by
  unfold iE
  split
  ·simp
  ·rename_i e
   have:jX m x=true:=by unfold jX at h ⊢; simpa [e] using h
   simp [Jh this]
theorem Ji {κ ν:Type} [DecidableEq κ]:∀ {m:List (κ×ν)} {x:κ} {v:ν},jX m x=false→(iE m x v).length=m.length + 1
 | [],x,v,h=>rfl
 | p::m,x,v,h=>by
  unfold iE
  split
  ·rename_i e
   unfold jX at h
   simp [e] at h
  ·rename_i e
   have:jX m x=false:=by unfold jX at h ⊢; simpa [e] using h
   simp [Ji this]
theorem Jj (g:dP) (c:List Edge) (d r rule:Int) (hc:c.length < 2 ^ 62):Tri (di g c d r rule) (fun b=>b=true↔yV g c d r rule):=by
 unfold di;rcases Jf g with ⟨hg,e⟩ | ⟨hg,e⟩
 ·rw [e]
  refine dB ?_
  simp only [bne_self_eq_false,cond_false]
  have hm:=hg.m;unfold xY;refine eP (fun h => ?_) (fun h => ?_)
  ·have:(c.length:Int)=0:=by simpa using h
   exact ag ⟨fun h=>(nomatch h),fun h=>absurd (List.eq_nil_of_length_eq_zero (by omega)) h.ne⟩
  ·have hne:c≠[]:=by intro e; rw [e] at h; simp at h
   have hpos:0 < c.length:=List.length_pos_iff.2 hne;refine yo g.Edges.length (fun k m=>∀ e:Edge,jX m e=true↔∃ i:Nat,i < k∧idx g.Edges (i:Int)=e) (fun e=>by simp [jX]) ?_;rintro k m hk hK;unfold Bj
   dsimp only
   refine eP (fun e => ?_) (fun e => ?_)
   ·have e:k < g.Edges.length:=by simpa using e
    refine aj (by omega) (ag ?_)
    rw [cZ (by omega) (by omega)]
    refine ⟨by omega,e,fun e2 => ?_⟩
    rw [Ba,hK]
    constructor
    ·rintro (h1 | ⟨i,h1,h2⟩)
     ·exact ⟨k,by omega,h1.symm⟩
     ·exact ⟨i,by omega,h2⟩
    ·rintro ⟨i,h1,h2⟩
     by_cases e3:i=k
     ·subst e3; exact .inl h2.symm
     ·exact .inr ⟨i,by omega,h2⟩
   ·have e:¬ k < g.Edges.length:=by simpa using e
    obtain rfl:k=g.Edges.length:=by omega
    refine yo c.length (fun x m=>(∀ i,i < x→Hy g c d r rule i)∧(∀ y,jX m y=true↔∃ i:Nat,i < x∧(idx c (i:Int)).From=y)∧m.length≤x∧(m.length=x↔∀ i j:Nat,i < x→j < x→(idx c (i:Int)).From=(idx c (j:Int)).From→i=j)) ⟨fun i h=>absurd h (Nat.not_lt_zero _),fun y=>by simp [jX],Nat.le_refl _,by simp⟩ ?_
    rintro x nm hx ⟨hok,hkeys,hle,hnd⟩;unfold Bi
    dsimp only
    refine eP (fun e => ?_) (fun e => ?_)
    ·have e:x < c.length:=by simpa using e
     have bad:¬ Hy g c d r rule x→Tri (out (out (some false)):Option (((List (Int×Unit))×Int) ⊕ (((List (Edge×Unit))×Int) ⊕ Bool))) (Up2 c.length x (fun x m=>(∀ i,i < x→Hy g c d r rule i)∧(∀ y,jX m y=true↔∃ i:Nat,i < x∧(idx c (i:Int)).From=y)∧m.length≤x∧(m.length=x↔∀ i j:Nat,i < x→j < x→(idx c (i:Int)).From=(idx c (j:Int)).From→i=j))
       (Up2 g.Edges.length g.Edges.length (fun k m=>∀ e:Edge,jX m e=true↔∃ i:Nat,i < k∧idx g.Edges (i:Int)=e) (fun b=>b=true↔yV g c d r rule))):=fun h=>aD (aD (ag ⟨fun h=>(nomatch h),fun hf=>absurd (hf.ok x e) h⟩))
     have good:Hy g c d r rule x→Tri (tC c nm (x:Int)) (Up2 c.length x (fun x m=>(∀ i,i < x→Hy g c d r rule i)∧(∀ y,jX m y=true↔∃ i:Nat,i < x∧(idx c (i:Int)).From=y)∧m.length≤x∧(m.length=x↔∀ i j:Nat,i < x→j < x→(idx c (i:Int)).From=(idx c (j:Int)).From→i=j))
       (Up2 g.Edges.length g.Edges.length (fun k m=>∀ e:Edge,jX m e=true↔∃ i:Nat,i < k∧idx g.Edges (i:Int)=e) (fun b=>b=true↔yV g c d r rule))):=by
      intro a1;unfold tC
      rw [cZ (by omega) (by omega)]
      refine ag ⟨by omega,e,fun i hi => ?_,fun y => ?_,?_,?_⟩
      ·rcases Nat.lt_or_ge i x with h | h
       ·exact hok i h
       ·rw [show i=x by omega]; exact a1
      ·rw [Ba,hkeys]
       constructor
       ·rintro (h1 | ⟨i,h1,h2⟩)
        ·exact ⟨x,by omega,h1.symm⟩
        ·exact ⟨i,by omega,h2⟩
       ·rintro ⟨i,h1,h2⟩
        by_cases e3:i=x
        ·subst e3; exact .inl h2.symm
        ·exact .inr ⟨i,by omega,h2⟩
      ·cases hh:jX nm (idx c (x:Int)).From with
       | true=>rw [Jh hh]; omega
       | false=>rw [Ji hh]; omega
      ·cases hh:jX nm (idx c (x:Int)).From with
       | true =>
        rw [Jh hh]
        obtain ⟨i,h1,h2⟩:=(hkeys _).1 hh
        constructor
        ·intro h; omega
        ·intro h;have:=h i x (by omega) (by omega) h2
         omega
       | false =>
        rw [Ji hh]
        have hno:∀ i:Nat,i < x→(idx c (i:Int)).From≠(idx c (x:Int)).From:=fun i h1 h2=>by
         rw [(hkeys _).2 ⟨i,h1,h2⟩] at hh; cases hh
        constructor
        ·intro h i j h1 h2 h3;have h4:=hnd.1 (by omega);rcases Nat.lt_or_ge i x with h5 | h5
         ·rcases Nat.lt_or_ge j x with h6 | h6
          ·exact h4 i j h5 h6 h3
          ·obtain rfl:j=x:=by omega
           exact absurd h3 (hno i h5)
         ·obtain rfl:i=x:=by omega
          rcases Nat.lt_or_ge j i with h6 | h6
          ·exact absurd h3.symm (hno j h6)
          ·omega
        ·intro h
         rw [hnd.2 fun i j h1 h2 h3=>h i j (by omega) (by omega) h3]
     refine aj (by omega) (aj (by omega) (aj (by rw [Jg e hc]; have:=Nat.mod_lt (x + 1) hpos; omega) ?_))
     rw [Ij e hc]
     have hhere:=hK (idx c (x:Int));unfold xX qa vN
     rw [Ij e hc]
     have okI:∀ {P:Prop},(¬ P→False)→P:=fun h=>Classical.byContradiction h
     simp only [cond_true]
     repeat' (first | with_reducible refine aA (fun hq => ?_) (fun hq => ?_) | with_reducible refine bad ?_ | with_reducible refine good ?_)
     all_goals first
      | (intro hO; obtain ⟨h1,h2,h3⟩:=hO; unfold Gv inM at h3; grind)
      | (refine ⟨?_,?_,?_⟩ <;> (try unfold Gv inM) <;> grind)
    ·have e:¬ x < c.length:=by simpa using e
     obtain rfl:x=c.length:=by omega
     refine aD (aD (ag ?_))
     show ((nm.length:Int) == (c.length:Int))=true↔yV g c d r rule
     rw [beq_iff_eq,Int.ofNat_inj,hnd]
     exact ⟨fun h=>⟨hg,hne,hok,h⟩,fun h=>h.nd⟩
 ·rw [e]
  refine dB ?_;exact ag ⟨fun h=>(nomatch h),fun h=>absurd h.good hg⟩
theorem Uk (a b:Edge):((a.From == b.From) && ((a.To == b.To) && ((a.Kind == b.Kind) && ((a.Key == b.Key) && true))))=decide (a=b):=by
 obtain ⟨a1,a2,a3,a4⟩:=a;obtain ⟨b1,b2,b3,b4⟩:=b
 rw [Bool.eq_iff_iff]
 simp
theorem Kb (g:dP) (c:List Edge) (d r rule:Int) (hc:c.length < 2 ^ 62):Tri (aB g c d r rule) (fun b=>b=true↔yV g c d r rule):=by
 unfold aB;rcases LF g with ⟨hg,e⟩ | ⟨hg,e⟩
 ·rw [e]
  refine dB ?_
  simp only [bne_self_eq_false,cond_false]
  have hm:=hg.m;have h0:=hg.n0;have h1:=hg.n1;have no:¬ yV g c d r rule→Tri (iZ g c d r rule true) (fun b=>b=true↔yV g c d r rule):=fun h=>ag ⟨fun h=>(nomatch h),fun hf=>absurd hf h⟩;have rl:yV g c d r rule→rule=1∨rule=2∨rule=3:=by
   intro h;have:=(h.ok 0 (List.length_pos_iff.2 h.ne)).rule;unfold Gv at this;rcases this with h | h | h
   ·exact .inl h.1
   ·exact .inr (.inl h.1)
   ·exact .inr (.inr h.1)
  refine eP (fun h=>no fun hf=>hf.ne (List.eq_nil_of_length_eq_zero (Int.natCast_eq_zero.1 (by simpa using h)))) (fun h => ?_);have hne:c≠[]:=by intro e; rw [e] at h; simp at h
  have hpos:0 < c.length:=List.length_pos_iff.2 hne;refine eP (fun h=>no fun hf=>(fun (q1:rule < 1) q2=>by omega) (by simpa using h) (rl hf)) (fun a2 => ?_);have a2:¬ rule < 1:=by simpa using a2
  cases a1:decide (rule > 3) with
  | true=>exact no fun hf=>(fun (q1:rule > 3) q2=>by omega) (by simpa using a1) (rl hf)
  | false =>
   have a1:¬ rule > 3:=by simpa using a1
   unfold iZ
   rw [cond_false]
   refine aj (by omega) ?_;refine yo c.length (fun x l=>(∀ i,i < x→Hy g c d r rule i)∧l.length=g.N.toNat∧(∀ y:Int,0≤y→y < g.N→(idx l y=true↔∃ i:Nat,i < x∧(idx c (i:Int)).From=y))∧∀ i j:Nat,i < x→j < x→(idx c (i:Int)).From=(idx c (j:Int)).From→i=j) ⟨fun i h=>absurd h (Nat.not_lt_zero _),by simp,fun y h2 h3 => ?_,fun i j h=>absurd h (Nat.not_lt_zero _)⟩ ?_
   ·rw [show y=(y.toNat:Int) by omega,Ux]
    exact ⟨fun h=>(nomatch h),fun ⟨i,hi,_⟩=>absurd hi (Nat.not_lt_zero _)⟩
   rintro x l hx ⟨hok,hll,hkeys,hnd⟩;unfold ui
   dsimp only
   refine eP (fun e => ?_) (fun e => ?_)
   ·have e:x < c.length:=by simpa using e
    refine yo g.Edges.length (fun k b=>b=true↔∃ i:Nat,i < k∧idx g.Edges (i:Int)=idx c (x:Int)) (by simp) ?_;rintro k b hk hb;have bad:∀ a4:Bool,(¬ Hy g c d r rule x∨∃ i,i < x∧(idx c (i:Int)).From=(idx c (x:Int)).From)→Tri (out (out (some false)):Option ((Bool×Int) ⊕ (((List Bool)×Int) ⊕ Bool))) (Up2 g.Edges.length k (fun k b=>b=true↔∃ i:Nat,i < k∧idx g.Edges (i:Int)=idx c (x:Int))
      (Up2 c.length x (fun x l=>(∀ i,i < x→Hy g c d r rule i)∧l.length=g.N.toNat∧(∀ y:Int,0≤y→y < g.N→(idx l y=true↔∃ i:Nat,i < x∧(idx c (i:Int)).From=y))∧∀ i j:Nat,i < x→j < x→(idx c (i:Int)).From=(idx c (j:Int)).From→i=j) (fun b=>b=true↔yV g c d r rule))):=by
     intro _ h;refine aD (aD (ag ⟨fun h=>(nomatch h),fun hf => ?_⟩));rcases h with h | ⟨i,h2,h3⟩
     ·exact absurd (hf.ok x e) h
     ·have:=hf.nd i x (by omega) e h3
      omega
    have fin:(b=true∨k=g.Edges.length)→Tri (jV g c d r rule l (x:Int) b (k:Int) false) (Up2 g.Edges.length k (fun k b=>b=true↔∃ i:Nat,i < k∧idx g.Edges (i:Int)=idx c (x:Int))
      (Up2 c.length x (fun x l=>(∀ i,i < x→Hy g c d r rule i)∧l.length=g.N.toNat∧(∀ y:Int,0≤y→y < g.N→(idx l y=true↔∃ i:Nat,i < x∧(idx c (i:Int)).From=y))∧∀ i j:Nat,i < x→j < x→(idx c (i:Int)).From=(idx c (j:Int)).From→i=j) (fun b=>b=true↔yV g c d r rule))):=by
     intro hfin;have hhere:b=true↔∃ i:Nat,i < g.Edges.length∧idx g.Edges (i:Int)=idx c (x:Int):=by
      rw [hb]
      constructor
      ·rintro ⟨i,h2,h3⟩; exact ⟨i,by omega,h3⟩
      ·rintro ⟨i,h2,h3⟩;rcases hfin with h4 | h4
       ·exact hb.1 h4
       ·exact ⟨i,by omega,h3⟩
     unfold jV
     rw [cond_false]
     refine aj (by omega) (aj (by rw [Jg e hc]; have:=Nat.mod_lt (x + 1) hpos; omega) ?_)
     rw [Ij e hc]
     cases b with
     | false =>
      rw [Bool.not_false,cond_true]
      exact bad true (.inl fun h=>by obtain ⟨k,h2,h3⟩:=h.here; have:=hhere.2 ⟨k,h2,h3⟩; cases this)
     | true =>
      rw [Bool.not_true,cond_false]
      obtain ⟨ke,hke,hee⟩:=hhere.1 rfl;have hedge:=hg.e ke hke
      rw [hee] at hedge
      unfold wz at hedge;clear hhere;have hbd:0≤(x:Int)∧(x:Int) < (c.length:Int):=by omega
      have hbf:0≤(idx c (x:Int)).From∧(idx c (x:Int)).From < (l.length:Int):=by omega
      refine aj hbd (aj hbf ?_);have good:Hy g c d r rule x→(¬ ∃ i:Nat,i < x∧(idx c (i:Int)).From=(idx c (x:Int)).From)→Tri (gy c l (x:Int) false) (Up2 g.Edges.length k (fun k b=>b=true↔∃ i:Nat,i < k∧idx g.Edges (i:Int)=idx c (x:Int))
        (Up2 c.length x (fun x l=>(∀ i,i < x→Hy g c d r rule i)∧l.length=g.N.toNat∧(∀ y:Int,0≤y→y < g.N→(idx l y=true↔∃ i:Nat,i < x∧(idx c (i:Int)).From=y))∧∀ i j:Nat,i < x→j < x→(idx c (i:Int)).From=(idx c (j:Int)).From→i=j) (fun b=>b=true↔yV g c d r rule))):=by
       intro a3 hno;unfold gy
       rw [cond_false,cZ (by omega) (by omega)]
       refine aD (ag ⟨by omega,e,fun i hi => ?_,by rw [List.length_set]; exact hll,fun y h2 h3 => ?_,fun i j h2 h3 h4 => ?_⟩)
       ·rcases Nat.lt_or_ge i x with h | h
        ·exact hok i h
        ·rw [show i=x by omega]; exact a3
       ·rw [Sk hedge.1 (by omega) h2]
        split
        ·rename_i h4
         exact ⟨fun _=>⟨x,by omega,h4.symm⟩,fun _=>rfl⟩
        ·rename_i h4
         rw [hkeys y h2 h3]
         constructor
         ·rintro ⟨i,h5,h6⟩; exact ⟨i,by omega,h6⟩
         ·rintro ⟨i,h5,h6⟩;refine ⟨i,?_,h6⟩;have:i≠x:=fun h=>by subst h; exact h4 h6.symm
          omega
       ·rcases Nat.lt_or_ge i x with h5 | h5
        ·rcases Nat.lt_or_ge j x with h6 | h6
         ·exact hnd i j h5 h6 h4
         ·obtain rfl:j=x:=by omega
          exact absurd ⟨i,h5,h4⟩ hno
        ·obtain rfl:i=x:=by omega
         rcases Nat.lt_or_ge j i with h6 | h6
         ·exact absurd ⟨j,h6,h4.symm⟩ hno
         ·omega
      unfold lL oP lK iY
      rw [Ij e hc]
      simp only [cond_true,cond_false]
      have hkx:=hkeys (idx c (x:Int)).From hedge.1 hedge.2.1;have unf:∀ b:Bool,gy c l (x:Int) b=bif b then out (out (some false)) else gy c l (x:Int) false:=by
       intro b;cases b <;> rfl
      repeat' (first | with_reducible refine aA (fun hq => ?_) (fun hq => ?_) | with_reducible refine bad true ?_ | with_reducible refine good ?_ ?_ | with_reducible refine aj hbd ?_ | with_reducible refine aj hbf ?_ | (rw [unf]; with_reducible refine aA (fun hq => ?_) (fun hq => ?_)) )
      all_goals first
       | (left; intro hO; obtain ⟨h1,h2,h3⟩:=hO; unfold Gv inM at h3; grind)
       | (right; exact hkx.1 (by assumption))
       | (refine ⟨?_,?_,?_⟩ <;> (try unfold Gv inM) <;> grind)
       | (intro hO; exact absurd (hkx.2 hO) (by assumption))
       | grind
    unfold uh
    dsimp only
    refine eP (fun ek => ?_) (fun ek => ?_)
    ·have ek:k < g.Edges.length:=by simpa using ek
     cases hbb:b with
     | true=>rw [hbb] at fin; exact fin (.inl rfl)
     | false =>
      unfold jV
      simp only [Bool.not_false,cond_true]
      refine aj (by omega) (aj (by omega) (ag ?_))
      rw [cZ (by omega) (by omega),Uk]
      refine ⟨by omega,ek,?_⟩
      show decide (idx g.Edges (k:Int)=idx c (x:Int))=true↔∃ i:Nat,i < k + 1∧idx g.Edges (i:Int)=idx c (x:Int)
      rw [decide_eq_true_iff]
      rw [hbb] at hb
      constructor
      ·intro h; exact ⟨k,by omega,h⟩
      ·rintro ⟨i,h2,h3⟩
       by_cases h4:i=k
       ·subst h4; exact h3
       ·have:=hb.2 ⟨i,by omega,h3⟩; cases this
    ·have ek:¬ k < g.Edges.length:=by simpa using ek
     exact fin (.inr (by omega))
   ·have e:¬ x < c.length:=by simpa using e
    obtain rfl:x=c.length:=by omega
    exact aD (ag ⟨fun _=>⟨hg,hne,hok,hnd⟩,fun _=>rfl⟩)
 ·rw [e]
  refine dB ?_;exact ag ⟨fun h=>(nomatch h),fun h=>absurd h.good hg⟩
end Go.Proofs.YtfpeabnehpclnaaGreatT
namespace Go.Proofs.YtfpeabnehpclnaaGreatT
open Go Go.Proofs Go.Proofs.YtfpeabnehpclnaaGreatE
set_option linter.unusedVariables false
set_option linter.unusedSimpArgs false
section
variable {h:History}
def cOf (k:Int):Int×Int×Int×Int:=if k=3 then (1,13,0,1) else if k=4 then (4,5,16,2) else if k=5 then (6,13,16,3) else if k=6 then (7,29,0,1) else (8,31,0,1)
noncomputable abbrev gr (h:History):dP:=⟨(h.Txns.length:Int),CZ h⟩
noncomputable abbrev KJ (h:History):List Ask:=empties h (bn h h.Txns.length)
structure Nf (h:History) (b:dA):Prop where
 lo:3≤b.Kind
 hi:b.Kind≤7
 lv:b.Level=(cOf b.Kind).1
 sp:b.Spot=⟨0,0⟩
 fit:yV (gr h) b.Cycle (cOf b.Kind).2.1 (cOf b.Kind).2.2.1 (cOf b.Kind).2.2.2
def Jk (h:History) (b:dA):Prop :=
 (b.Kind=1∧b.Level=1∧b.Cycle=[]∧b.Spot ∈ og h h.Txns.length) ∨
 (b.Kind=2∧b.Level=1∧b.Cycle=[]∧∃ a ∈ KJ h,a.Txn=b.Spot.Txn∧a.Place=b.Spot.Place)∨Nf h b
theorem Oo (hs:qy h) (hS:fw h) (hv:aJ h=some 0):tu h=some (KJ h,0):=by
 have a1:=hS.len;obtain ⟨i1,_,_⟩:=pO hS h.Txns.length (Nat.le_refl _);have hA:mq h=some (bn h h.Txns.length,0):=by unfold mq; rw [Fp hs hS hv]; rfl
 unfold tu
 rw [hA]
 show (bM _ h).bind _=_
 rw [MV hS hv (fun a ha=>ha) (by omega)]
 rfl
theorem KL (hS:fw h):(KJ h).length≤512:=by
 have a1:=hS.len;obtain ⟨i1,_,_⟩:=pO hS h.Txns.length (Nat.le_refl _);exact Nat.le_trans (List.length_filter_le _ _) (by omega)
theorem Sm (hs:qy h) (hS:fw h) (hv:aJ h=some 0):yx h=some (og h h.Txns.length,0):=by unfold yx; rw [Fp hs hS hv]; rfl
theorem KM (hS:fw h):(og h h.Txns.length).length≤512:=by
 have a1:=hS.len;obtain ⟨_,i1,_⟩:=pO hS h.Txns.length (Nat.le_refl _)
 omega
theorem Ik {a b:Spot}:(a.Txn=b.Txn∧a.Place=b.Place)↔a=b:=by
 obtain ⟨a1,a2⟩:=a;obtain ⟨b1,b2⟩:=b
 simp
theorem Ng {l:List Spot} {j:Nat} (hj:j < l.length):idx l (j:Int) ∈ l:=by rw [dK (n:=j) rfl hj]; exact List.getElem_mem _
theorem Nh {l:List Spot} {v:Spot} (hl:l.length < 2 ^ 60):Tri (kT l v) (fun r=>r=true↔v ∈ l):=by
 have h1:Tri (iy l v) (fun r=>0≤r↔v ∈ l):=by
  unfold iy;refine bX (k0:=0) l.length (fun k s=>s=(k:Int)∧∀ j:Nat,j < k→v≠idx l (j:Int)) (Nat.zero_le _) ⟨rfl,fun j h=>absurd h (Nat.not_lt_zero _)⟩ ?_;rintro k s hk ⟨rfl,hno⟩;have hw:w64 ((k:Int) + 1)=((k + 1:Nat):Int):=aZ (by omega);unfold si
  dsimp only
  rw [hw]
  refine aA (fun h1 => ?_) (fun h1 => ?_)
  ·have a1:k < l.length:=by omega
   refine aj (by omega) ?_;refine aA (fun h2 => ?_) (fun h2 => ?_)
   ·refine aD (ag ⟨fun _ => ?_,fun _=>by omega⟩)
    rw [Ik.1 ⟨h2.1,h2.2.1⟩]
    exact Ng a1
   ·refine ag ⟨a1,rfl,fun j hj => ?_⟩;rcases Nat.lt_or_ge j k with h3 | h3
    ·exact hno j h3
    ·have:j=k:=by omega
     subst this;exact fun e=>h2 (by rw [e]; exact ⟨rfl,rfl,trivial⟩)
  ·have:k=l.length:=by omega
   subst this;refine aD (ag ⟨fun h=>absurd h (by decide),fun h => ?_⟩);obtain ⟨j,hj,e⟩:=List.getElem_of_mem h;exact absurd (e.symm.trans (dK rfl hj).symm) (hno j hj)
 unfold kT;refine ed h1 (fun r hr=>ag ?_)
 rw [decide_eq_true_iff]
 exact hr
theorem Oq {l:List Ask} {b:dA} (hl:l.length < 2 ^ 60):Tri (fu l b) (fun r=>r=true↔∃ a ∈ l,a.Txn=b.Spot.Txn∧a.Place=b.Spot.Place):=by
 have h1:Tri (dw l b) (fun r=>0≤r↔∃ a ∈ l,a.Txn=b.Spot.Txn∧a.Place=b.Spot.Place):=by
  unfold dw;refine bX (k0:=0) l.length (fun k s=>s=(k:Int)∧∀ j:Nat,j < k → ¬ ((idx l (j:Int)).Txn=b.Spot.Txn∧(idx l (j:Int)).Place=b.Spot.Place)) (Nat.zero_le _) ⟨rfl,fun j h=>absurd h (Nat.not_lt_zero _)⟩ ?_;rintro k s hk ⟨rfl,hno⟩;have hw:w64 ((k:Int) + 1)=((k + 1:Nat):Int):=aZ (by omega);unfold iW xW
  dsimp only
  rw [hw]
  refine aA (fun h1 => ?_) (fun h1 => ?_)
  ·have a1:k < l.length:=by omega
   refine aj (by omega) (dB ?_);refine aA (fun h2 => ?_) (fun h2 => ?_)
   ·exact aD (ag ⟨fun _=>⟨_,sN a1,h2.1,h2.2.1⟩,fun _=>by omega⟩)
   ·refine ag ⟨a1,rfl,fun j hj => ?_⟩;rcases Nat.lt_or_ge j k with h3 | h3
    ·exact hno j h3
    ·have:j=k:=by omega
     subst this;exact fun e=>h2 ⟨e.1,e.2,trivial⟩
  ·have:k=l.length:=by omega
   subst this;refine aD (ag ⟨fun h=>absurd h (by decide),?_⟩);rintro ⟨a,ha,q⟩;obtain ⟨j,hj,e⟩:=List.getElem_of_mem ha;exact absurd (by rw [dK (n:=j) rfl hj,e]; exact q) (hno j hj)
 unfold fu;refine ed h1 (fun r hr=>ag ?_)
 rw [decide_eq_true_iff]
 exact hr
theorem VA {b:dA} {s:gm} (hk:s.kind≠b.Kind):kM h b (.inl ()) s=some (true,.inl ()):=by
 unfold kM
 dsimp only
 rw [show (s.kind == b.Kind)=false by rw [beq_eq_false_iff_ne]; exact hk]
 rfl
theorem Jl (hs:qy h) (hS:fw h) (hc:aJ h=some 0) {b:dA} (hb:b.Cycle.length < 2 ^ 62) {s:gm} (hk:s.kind=b.Kind) :
  ∃ r,kM h b (.inl ()) s=some (false,.inr r)∧(r=true↔b.Level=s.level∧b.Spot=⟨0,0⟩∧yV (gr h) b.Cycle s.d s.r s.rule):=by
 suffices hT:Tri (kM h b (.inl ()) s) (fun z=>∃ r,z=(false,.inr r)∧(r=true↔b.Level=s.level∧b.Spot=⟨0,0⟩∧yV (gr h) b.Cycle s.d s.r s.rule)) by
  obtain ⟨z,e,r,rfl,hr⟩:=hT;exact ⟨r,e,hr⟩
 unfold kM
 dsimp only
 refine aA (fun _ => ?_) (fun h=>absurd hk h);refine bA (Om hs hS hc) ?_;refine aA (fun _ => ?_) (fun h=>absurd rfl h);refine aA (fun q1 => ?_) (fun q1=>ag ⟨_,rfl,fun h=>(nomatch h),fun h=>absurd h.1 q1⟩);have e0:(b.Spot.Txn=0∧b.Spot.Place=0∧True)↔b.Spot=⟨0,0⟩:=by rw [and_true]; exact Ik (b:=⟨0,0⟩)
 refine aA (fun q2 => ?_) (fun q2=>ag ⟨_,rfl,fun h=>(nomatch h),fun h=>absurd (e0.2 h.2.1) q2⟩);refine ed (Jj _ _ _ _ _ hb) (fun r hr=>ag ⟨r,rfl,hr.trans ⟨fun h=>⟨q1,e0.1 q2,h⟩,fun h=>h.2.2⟩⟩)
theorem Nf.of {b:dA} {l d r u:Int} {v:Bool} (h3:3≤b.Kind) (h7:b.Kind≤7) (hc:cOf b.Kind=(l,d,r,u)) (hr:v=true↔b.Level=l∧b.Spot=⟨0,0⟩∧yV (gr h) b.Cycle d r u):v=true↔Jk h b:=by
 refine hr.trans ⟨fun ⟨q1,q2,q3⟩ => .inr (.inr ⟨h3,h7,by rw [hc]; exact q1,q2,by rw [hc]; exact q3⟩),?_⟩;rintro (q | q | q)
 ·have:=q.1; omega
 ·have:=q.1; omega
 ·have h1:=q.lv;have h2:=q.fit
  rw [hc] at h1 h2
  exact ⟨h1,q.sp,h2⟩
theorem Qp (hs:qy h) (hS:fw h) (hc:aJ h=some 0) {b:dA} (hb:b.Cycle.length < 2 ^ 62):Tri (fV h b) (fun r=>r=true↔Jk h b):=by
 unfold fV;refine bA hc ?_;refine aA (fun h=>absurd rfl h) (fun _ => ?_);have h1:=KM hS;have h2:=KL hS;refine aA (fun k1 => ?_) (fun k1 => ?_)
 ·have no:¬ (b.Level=1∧b.Cycle=[]) → ¬ Jk h b:=by
   rintro hn (q | q | q)
   ·exact hn ⟨q.2.1,q.2.2.1⟩
   ·have:=q.1; omega
   ·have:=q.lo; omega
  refine bA (Sm hs hS hc) ?_;refine aA (fun l1 => ?_) (fun l1=>ag ⟨fun h=>(nomatch h),fun h=>absurd h (no fun q=>l1 q.1)⟩);refine aA (fun c0 => ?_) (fun c0=>ag ⟨fun h=>(nomatch h),fun h=>absurd h (no fun q=>c0 (by rw [q.2]; rfl))⟩);refine ed (Nh (by dsimp only; omega)) (fun r hr=>ag (hr.trans ?_));refine ⟨fun m => .inl ⟨k1,l1,List.eq_nil_of_length_eq_zero (by omega),m⟩,?_⟩;rintro (q | q | q)
  ·exact q.2.2.2
  ·have:=q.1; omega
  ·have:=q.lo; omega
 refine aA (fun k2 => ?_) (fun k2 => ?_)
 ·have no:¬ (b.Level=1∧b.Cycle=[]) → ¬ Jk h b:=by
   rintro hn (q | q | q)
   ·have:=q.1; omega
   ·exact hn ⟨q.2.1,q.2.2.1⟩
   ·have:=q.lo; omega
  refine bA (Oo hs hS hc) ?_;refine aA (fun l1 => ?_) (fun l1=>ag ⟨fun h=>(nomatch h),fun h=>absurd h (no fun q=>l1 q.1)⟩);refine aA (fun c0 => ?_) (fun c0=>ag ⟨fun h=>(nomatch h),fun h=>absurd h (no fun q=>c0 (by rw [q.2]; rfl))⟩);refine ed (Oq (by dsimp only; omega)) (fun r hr=>ag (hr.trans ?_));refine ⟨fun m => .inr (.inl ⟨k2,l1,List.eq_nil_of_length_eq_zero (by omega),m⟩),?_⟩;rintro (q | q | q)
  ·have:=q.1; omega
  ·exact q.2.2.2
  ·have:=q.lo; omega
 have fin:∀ v:Bool,(v=true↔Jk h b)→Tri (Eh (.inr v)) (fun r=>r=true↔Jk h b):=fun v hv=>ag hv;have no {s:gm} (hk:s.kind≠b.Kind):=VA (h:=h) hk
 by_cases k3:b.Kind=3
 ·obtain ⟨r,e,hr⟩:=Jl hs hS hc hb (s:=⟨3,1,13,0,1,81⟩) k3.symm;refine bA (a := .inr r) ?_ (fin r (Nf.of (by omega) (by omega) (by rw [k3]; rfl) hr));unfold kV
  simp only [e,Option.bind_some,Bool.not_false,cond_true]
 by_cases k4:b.Kind=4
 ·obtain ⟨r,e,hr⟩:=Jl hs hS hc hb (s:=⟨4,4,5,16,2,54⟩) k4.symm;refine bA (a := .inr r) ?_ (fin r (Nf.of (by omega) (by omega) (by rw [k4]; rfl) hr));unfold kV
  simp only [no (s:=⟨3,1,13,0,1,81⟩) (by dsimp only; omega),e,Option.bind_some,Bool.not_false,cond_true,Bool.not_true,cond_false]
 by_cases k5:b.Kind=5
 ·obtain ⟨r,e,hr⟩:=Jl hs hS hc hb (s:=⟨5,6,13,16,3,55⟩) k5.symm;refine bA (a := .inr r) ?_ (fin r (Nf.of (by omega) (by omega) (by rw [k5]; rfl) hr));unfold kV
  simp only [no (s:=⟨3,1,13,0,1,81⟩) (by dsimp only; omega),no (s:=⟨4,4,5,16,2,54⟩) (by dsimp only; omega),e,Option.bind_some,Bool.not_false,cond_true,Bool.not_true,cond_false]
 by_cases k6:b.Kind=6
 ·obtain ⟨r,e,hr⟩:=Jl hs hS hc hb (s:=⟨6,7,29,0,1,81⟩) k6.symm;refine bA (a := .inr r) ?_ (fin r (Nf.of (by omega) (by omega) (by rw [k6]; rfl) hr));unfold kV
  simp only [no (s:=⟨3,1,13,0,1,81⟩) (by dsimp only; omega),no (s:=⟨4,4,5,16,2,54⟩) (by dsimp only; omega),no (s:=⟨5,6,13,16,3,55⟩) (by dsimp only; omega),e,Option.bind_some,Bool.not_false,cond_true,Bool.not_true,cond_false]
 by_cases k7:b.Kind=7
 ·obtain ⟨r,e,hr⟩:=Jl hs hS hc hb (s:=⟨7,8,31,0,1,81⟩) k7.symm;refine bA (a := .inr r) ?_ (fin r (Nf.of (by omega) (by omega) (by rw [k7]; rfl) hr));unfold kV
  simp only [no (s:=⟨3,1,13,0,1,81⟩) (by dsimp only; omega),no (s:=⟨4,4,5,16,2,54⟩) (by dsimp only; omega),no (s:=⟨5,6,13,16,3,55⟩) (by dsimp only; omega),no (s:=⟨6,7,29,0,1,81⟩) (by dsimp only; omega),e,Option.bind_some,Bool.not_false,cond_true,Bool.not_true,cond_false]
 have e:kV (kM h b) (.inl ())=some (.inl ()):=by
  unfold kV
  simp only [no (s:=⟨3,1,13,0,1,81⟩) (by dsimp only; omega),no (s:=⟨4,4,5,16,2,54⟩) (by dsimp only; omega),no (s:=⟨5,6,13,16,3,55⟩) (by dsimp only; omega),no (s:=⟨6,7,29,0,1,81⟩) (by dsimp only; omega),no (s:=⟨7,8,31,0,1,81⟩) (by dsimp only; omega),Option.bind_some,Bool.not_true,cond_false]
 refine bA e ?_
 show Tri (some false) _
 refine ag ⟨fun h=>(nomatch h),?_⟩;rintro (q | q | q)
 ·exact absurd q.1 k1
 ·exact absurd q.1 k2
 ·have:=q.lo; have:=q.hi; omega
theorem Sn (hc:aJ h=some 1) (b:dA):fV h b=some false:=by
 unfold fV
 rw [hc]
 rfl
end
end Go.Proofs.YtfpeabnehpclnaaGreatT
namespace Go.Proofs.YtfpeabnehpclnaaGreatT
open Go Go.Proofs Go.Proofs.YtfpeabnehpclnaaGreatE
set_option linter.unusedVariables false
set_option linter.unusedSimpArgs false
section
variable {h:History}
def lvl (k:Int):Int:=if k=1∨k=2∨k=3 then 1 else if k=4 then 4 else if k=5 then 6 else if k=6 then 7 else if k=7 then 8 else 0
theorem Ni (k:Int):fA k=some (lvl k):=by
 refine eO.1 ?_;unfold fA lc lvl
 repeat' (first | refine aA (fun _ => ?_) (fun _ => ?_) | refine ag ?_)
 all_goals grind
theorem Ot (hs:qy h) (hS:fw h) (hv:aJ h=some 0) (hv':aF h=some 0):dX h=some (KJ h,0):=by
 have a1:=hS.len;obtain ⟨i1,_,_⟩:=pO hS h.Txns.length (Nat.le_refl _);unfold dX
 rw [hv']
 show (gz h).bind _=_
 rw [CQ hs hS]
 exact Qj hS hv (fun a ha=>ha) (by omega)
theorem Sq {b:dA} {E:List Ask} (hE:E.length≤512) (h2:b.Kind=1∨b.Kind=2) :
  Tri (iter (lX b (E,0)) 0) (fun r=>∃ v:Bool,r = .inr v∧(v=true↔b.Kind=2∧∃ a ∈ E,a.Txn=b.Spot.Txn∧a.Place=b.Spot.Place)):=by
 refine bX (k0:=0) E.length (fun k s=>s=(k:Int)∧∀ j:Nat,j < k → ¬ ((idx E (j:Int)).Txn=b.Spot.Txn∧(idx E (j:Int)).Place=b.Spot.Place)) (Nat.zero_le _) ⟨rfl,fun j h=>absurd h (Nat.not_lt_zero _)⟩ ?_;rintro k s hk ⟨rfl,hno⟩;have hw:w64 ((k:Int) + 1)=((k + 1:Nat):Int):=aZ (by omega);unfold lX
 dsimp only
 have stop:∀ c:Bool,c=false→(¬ (b.Kind=2∧∃ a ∈ E,a.Txn=b.Spot.Txn∧a.Place=b.Spot.Place))→Tri (iQ b (E,0) (k:Int) c) (Upm E.length k (fun k s=>s=(k:Int)∧∀ j:Nat,j < k → ¬ ((idx E (j:Int)).Txn=b.Spot.Txn∧(idx E (j:Int)).Place=b.Spot.Place)) (fun r:Int ⊕ Bool=>∃ v:Bool,r = .inr v∧(v=true↔b.Kind=2∧∃ a ∈ E,a.Txn=b.Spot.Txn∧a.Place=b.Spot.Place))):=by
  rintro c rfl hn;unfold iQ
  rw [cond_false]
  exact aD (aD (ag ⟨false,rfl,fun h=>(nomatch h),fun h=>absurd h hn⟩))
 refine aA (fun h1 => ?_) (fun h1 => ?_)
 ·have a1:k < E.length:=by omega
  rcases h2 with h2 | h2
  ·exact stop _ (by rw [h2]; rfl) (fun q=>by omega)
  ·rw [show (b.Kind == 2)=true by rw [beq_iff_eq]; exact h2]
   unfold iQ lW
   rw [cond_true,hw]
   refine aj (by dsimp only; omega) ?_
   dsimp only
   refine aA (fun q1 => ?_) (fun q1 => ?_)
   ·refine aA (fun q2 => ?_) (fun q2 => ?_)
    ·exact aD (aD (ag ⟨true,rfl,fun _=>⟨h2,_,sN a1,q1,q2⟩,fun _=>rfl⟩))
    ·refine ag ⟨a1,rfl,fun j hj => ?_⟩;rcases Nat.lt_or_ge j k with h3 | h3
     ·exact hno j h3
     ·have:j=k:=by omega
      subst this;exact fun e=>q2 e.2
   ·rw [cond_false]
    refine ag ⟨a1,rfl,fun j hj => ?_⟩;rcases Nat.lt_or_ge j k with h3 | h3
    ·exact hno j h3
    ·have:j=k:=by omega
     subst this;exact fun e=>q1 e.1
 ·have hn:¬ (b.Kind=2∧∃ a ∈ E,a.Txn=b.Spot.Txn∧a.Place=b.Spot.Place):=by
   rintro ⟨_,a,ha,q⟩;obtain ⟨j,hj,e⟩:=List.getElem_of_mem ha;exact hno j (by omega) (by rw [dK (n:=j) rfl hj,e]; exact q)
  exact stop _ rfl hn
theorem LG (hs:qy h) (hS:fw h) (hv:aJ h=some 0) (hv':aF h=some 0) {b:dA} (h2:b.Kind=1∨b.Kind=2) :
  Tri (aW h b) (fun v=>v=true↔(b.Kind=1∧b.Spot ∈ og h h.Txns.length)∨(b.Kind=2∧∃ a ∈ KJ h,a.Txn=b.Spot.Txn∧a.Place=b.Spot.Place)):=by
 have l1:=KM hS;have l2:=KL hS;have hE:=Ot hs hS hv hv';unfold aW;refine bA (CQ hs hS) ?_;generalize og h h.Txns.length=S at l1 ⊢;generalize KJ h=E at l2 hE ⊢;refine bX (k0:=0) S.length (fun k s=>s=(k:Int)∧∀ j:Nat,j < k→b.Spot≠idx S (j:Int)) (Nat.zero_le _) ⟨rfl,fun j h=>absurd h (Nat.not_lt_zero _)⟩ ?_;rintro k s hk ⟨rfl,hno⟩;have hw:w64 ((k:Int) + 1)=((k + 1:Nat):Int):=aZ (by omega);have go:∀ c:Bool,c=false → ¬ (b.Kind=1∧b.Spot ∈ S)→Tri (iR h b (bn h h.Txns.length,S) (k:Int) c) (Upm S.length k (fun k s=>s=(k:Int)∧∀ j:Nat,j < k→b.Spot≠idx S (j:Int)) (fun v:Bool=>v=true↔(b.Kind=1∧b.Spot ∈ S)∨(b.Kind=2∧∃ a ∈ E,a.Txn=b.Spot.Txn∧a.Place=b.Spot.Place))):=by
  rintro c rfl hn;unfold iR
  rw [cond_false]
  refine bA hE ?_;obtain ⟨r,e,v,rfl,hv⟩:=Sq l2 h2
  rw [e]
  exact ag (hv.trans ⟨.inr,fun q=>q.resolve_left hn⟩)
 unfold qf
 dsimp only
 refine aA (fun h1 => ?_) (fun h1 => ?_)
 ·have a1:k < S.length:=by omega
  rcases h2 with h2 | h2
  ·rw [show (b.Kind == 1)=true by rw [beq_iff_eq]; exact h2]
   unfold iR
   rw [cond_true,hw]
   refine aj (by dsimp only; omega) ?_
   dsimp only
   refine aA (fun q => ?_) (fun q => ?_)
   ·refine aD (ag ⟨fun _ => .inl ⟨h2,?_⟩,fun _=>rfl⟩)
    rw [← Ik.1 ⟨q.1,q.2.1⟩]
    exact Ng a1
   ·refine ag ⟨a1,rfl,fun j hj => ?_⟩;rcases Nat.lt_or_ge j k with h3 | h3
    ·exact hno j h3
    ·have:j=k:=by omega
     subst this;exact fun e=>q (by rw [← e]; exact ⟨rfl,rfl,trivial⟩)
  ·exact go _ (by rw [h2]; rfl) (fun q=>by omega)
 ·refine go _ rfl ?_;rintro ⟨_,hm⟩;obtain ⟨j,hj,e⟩:=List.getElem_of_mem hm;exact hno j (by omega) (by rw [dK (n:=j) rfl hj,e])
theorem Sr (hs:qy h) (hS:fw h) (hc:aJ h=some 0) (hc':aF h=some 0) {b:dA} (hb:b.Cycle.length < 2 ^ 62):Tri (eH h b) (fun r=>r=true↔Jk h b):=by
 have no:¬ Jk h b→Tri (ja h b true) (fun r=>r=true↔Jk h b):=fun hn=>by
  unfold ja
  rw [cond_true]
  exact ag ⟨fun h=>(nomatch h),fun h=>absurd h hn⟩
 have lo:Jk h b→b.Level=lvl b.Kind∧lvl b.Kind≠0:=by
  rintro (q | q | q)
  ·rw [q.2.1,q.1]; decide
  ·rw [q.2.1,q.1]; decide
  ·have h1:=q.lv;have h2:=q.lo;have h3:=q.hi;have h4:b.Kind=3∨b.Kind=4∨b.Kind=5∨b.Kind=6∨b.Kind=7:=by omega
   rcases h4 with e | e | e | e | e <;> rw [e] at h1 ⊢ <;> rw [h1] <;> decide
 unfold eH;refine bA hc' ?_;refine aA (fun h=>absurd rfl h) (fun _ => ?_);refine bA (Ni _) ?_;refine aA (fun h1=>no fun q=>(lo q).2 h1) (fun h1 => ?_);refine bA (Ni _) ?_
 by_cases hl:b.Level=lvl b.Kind
 rotate_left
 ·rw [show (b.Level != lvl b.Kind)=true by rw [bne_iff_ne]; exact hl]
  exact no fun q=>hl (lo q).1
 rw [show (b.Level != lvl b.Kind)=false by rw [bne_eq_false_iff_eq]; exact hl]
 unfold ja
 rw [cond_false]
 have hk:b.Kind=1∨b.Kind=2∨b.Kind=3∨b.Kind=4∨b.Kind=5∨b.Kind=6∨b.Kind=7:=by
  unfold lvl at h1
  grind
 refine aA (fun k2 => ?_) (fun k2 => ?_)
 ·have a1:b.Kind=1∨b.Kind=2:=by omega
  have a2:b.Level=1:=by rw [hl]; rcases a1 with e | e <;> rw [e] <;> decide
  refine aA (fun c0 => ?_) (fun c0=>ag ⟨fun h=>(nomatch h),?_⟩)
  ·refine ed (LG hs hS hc hc' a1) (fun r hr=>ag (hr.trans ?_));have hn:b.Cycle=[]:=List.eq_nil_of_length_eq_zero (by omega)
   constructor
   ·rintro (q | q)
    ·exact .inl ⟨q.1,a2,hn,q.2⟩
    ·exact .inr (.inl ⟨q.1,a2,hn,q.2⟩)
   ·rintro (q | q | q)
    ·exact .inl ⟨q.1,q.2.2.2⟩
    ·exact .inr ⟨q.1,q.2.2.2⟩
    ·have:=q.lo; omega
  ·rintro (q | q | q)
   ·exact absurd (by rw [q.2.2.1]; rfl) c0
   ·exact absurd (by rw [q.2.2.1]; rfl) c0
   ·have:=q.lo; omega
 have e0:(b.Spot.Txn=0∧b.Spot.Place=0∧True)↔b.Spot=⟨0,0⟩:=by rw [and_true]; exact Ik (b:=⟨0,0⟩)
 refine aA (fun s0=>ag ⟨fun h=>(nomatch h),?_⟩) (fun s0 => ?_)
 ·rintro (q | q | q)
  ·have:=q.1; omega
  ·have:=q.1; omega
  ·exact absurd (e0.2 q.sp) s0
 have s0:b.Spot=⟨0,0⟩:=e0.1 (Classical.not_not.1 s0);refine bA (UY hs hS hc) ?_;have fin:∀ {l d r u:Int},cOf b.Kind=(l,d,r,u)→lvl b.Kind=l→Tri ((aB ⟨(h.Txns.length:Int),CZ h⟩ b.Cycle d r u).bind fun y=>some y) (fun r=>r=true↔Jk h b):=by
  intro l d r u e1 e2;refine ed (Kb _ _ _ _ _ hb) (fun v hv=>ag ?_);exact Nf.of (by omega) (by omega) e1 (hv.trans ⟨fun q=>⟨hl.trans e2,s0,q⟩,fun q=>q.2.2⟩)
 refine aA (fun k=>fin (by rw [k]; rfl) (by rw [k]; rfl)) (fun k3 => ?_);refine aA (fun k=>fin (by rw [k]; rfl) (by rw [k]; rfl)) (fun k4 => ?_);refine aA (fun k=>fin (by rw [k]; rfl) (by rw [k]; rfl)) (fun k5 => ?_);refine aA (fun k=>fin (by rw [k]; rfl) (by rw [k]; rfl)) (fun k6 => ?_);have k:b.Kind=7:=by omega
 exact fin (by rw [k]; rfl) (by rw [k]; rfl)
theorem Kc (h:History) (b:dA) {K:ByteArray→Prop} {p q r s:Prop} (g:HG K h) (gb:p∧(q∧(r∧(s∧b.Cycle.length * 32≤140737488351232)))):ng h b=some true:=by
 have hs:=g.small;have g2:=gb.2.2.2.2;obtain ⟨v,hv,hv',a1,hiff⟩:=Oa hs;refine eO.1 ?_;unfold ng
 rw [Bl]
 refine dB ?_
 rw [Bool.not_true,cond_false]
 rcases a1 with rfl | rfl
 ·have hS:=hiff.1 rfl;obtain ⟨x,e1,h1⟩:=Qp hs hS hv (b:=b) (by omega);obtain ⟨y,e2,h2⟩:=Sr hs hS hv hv' (b:=b) (by omega);have:x=y:=by rw [Bool.eq_iff_iff,h1,h2]
  subst this;exact bA e1 (bA e2 (ag (by simp)))
 ·refine bA (Sn hv b) ?_;have e:eH h b=some false:=by unfold eH; rw [hv']; rfl
  exact bA e (ag rfl)
end
end Go.Proofs.YtfpeabnehpclnaaGreatT
