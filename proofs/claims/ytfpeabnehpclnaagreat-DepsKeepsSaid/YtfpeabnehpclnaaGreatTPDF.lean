import Derived.Test.YtfpeabnehpclnaaGreatTPDD
namespace Go.Proofs.YtfpeabnehpclnaaGreatT
open Go Go.Proofs Go.Proofs.YtfpeabnehpclnaaGreatE
set_option linter.unusedVariables false
set_option linter.unusedSimpArgs false
open Classical
section
variable {h:History}
theorem GN {l:List Int} {x:Int} (hl:l.length < 2 ^ 60):fQ l x=some (decide (x ∈ l)):=by
 refine xn.1 ?_;unfold fQ;refine bY (k0:=0) l.length (fun k s=>s=(k:Int)∧∀ j:Nat,j < k→idx l (j:Int)≠x) (Nat.zero_le _) ⟨rfl,fun j h=>absurd h (Nat.not_lt_zero _)⟩ ?_;rintro k s hk ⟨rfl,hno⟩;have hw:w64 ((k:Int) + 1)=((k + 1:Nat):Int):=aZ (by omega);unfold tJ
 dsimp only
 rw [hw]
 refine aA (fun h1 => ?_) (fun h1 => ?_)
 ·have a0:k < l.length:=by omega
  refine ai (by omega) ?_;refine aA (fun h2 => ?_) (fun h2 => ?_)
  ·refine aB (ag ⟨fun _ => ?_,fun _=>rfl⟩)
   rw [← h2]
   exact gz a0
  ·refine ag ⟨a0,rfl,fun j hj => ?_⟩;rcases Nat.lt_or_ge j k with h3 | h3
   ·exact hno j h3
   ·have:j=k:=by omega
    subst this;exact h2
 ·have:k=l.length:=by omega
  subst this;refine aB (ag ⟨fun h=>(nomatch h),fun h => ?_⟩);obtain ⟨j,hj,e⟩:=ve h;exact absurd e (hno j hj)
noncomputable def lone (h:History) (a:Ask):Int×Bool:=match mV h a with
 | [p]=>(p,true)
 | _=>(0,false)
theorem rJ {a:Ask} {p:Int} (e:mV h a=[p]):lone h a=(p,true):=by unfold lone; rw [e]
theorem Lu {a:Ask} (e:(mV h a).length≠1):lone h a=(0,false):=by
 unfold lone
 split
 ·rename_i p hp
  rw [hp] at e
  exact absurd rfl e
 ·rfl
theorem GQ (hS:fJ h) (hc:aK h=some 0) {a:Ask} (ha:a ∈ aV h h.Txns.length):kP h a=some (lone h a):=by
 refine dS.1 ?_;unfold kP;refine bB (GK hS hc ha).2 ?_;refine aA (fun h1=>ag (Lu (by omega)).symm) (fun h1 => ?_);have hl:(mV h a).length=1:=by omega
 obtain ⟨p,hp⟩:=List.length_eq_one_iff.1 hl;refine ai (by omega) (ag ?_)
 rw [rJ hp,hp]
 rfl
theorem CE {a:Ask} {p:Int}:((lone h a).2=true∧(lone h a).1=p)↔mV h a=[p]:=by
 constructor
 ·rintro ⟨h1,h2⟩
  by_cases hl:(mV h a).length=1
  ·obtain ⟨q,hq⟩:=List.length_eq_one_iff.1 hl
   rw [rJ hq] at h2
   rw [hq,← h2]
  ·rw [Lu hl] at h1
   cases h1
 ·intro e
  rw [rJ e]
  exact ⟨rfl,rfl⟩
theorem Jo (hS:fJ h) (hc:aK h=some 0) {t key p:Int}:bJ h (aV h h.Txns.length) t key p=some (decide (∃ b ∈ aV h h.Txns.length,b.Txn=t∧b.Key=key∧mV h b=[p])):=by
 have a1:=hS.len;obtain ⟨i1,_,_⟩:=sH hS h.Txns.length (Nat.le_refl _);refine xn.1 ?_;unfold bJ;refine bY (k0:=0) (aV h h.Txns.length).length (fun k s=>s=(k:Int)∧∀ j:Nat,j < k → ¬ ((idx (aV h h.Txns.length) (j:Int)).Txn=t∧(idx (aV h h.Txns.length) (j:Int)).Key=key∧mV h (idx (aV h h.Txns.length) (j:Int))=[p])) (Nat.zero_le _) ⟨rfl,fun j h=>absurd h (Nat.not_lt_zero _)⟩ ?_;rintro k s hk ⟨rfl,hno⟩;have hw:w64 ((k:Int) + 1)=((k + 1:Nat):Int):=aZ (by omega);unfold rA ny nu nk
 dsimp only
 rw [hw]
 refine aA (fun h1 => ?_) (fun h1 => ?_)
 ·have a0:k < (aV h h.Txns.length).length:=by omega
  have ha:=yB a0;have nx:¬ ((idx (aV h h.Txns.length) (k:Int)).Txn=t∧(idx (aV h h.Txns.length) (k:Int)).Key=key∧mV h (idx (aV h h.Txns.length) (k:Int))=[p]) →
    Tri (some (.inl ((k + 1:Nat):Int))) (Upm (aV h h.Txns.length).length k (fun k s=>s=(k:Int)∧∀ j:Nat,j < k → ¬ ((idx (aV h h.Txns.length) (j:Int)).Txn=t∧(idx (aV h h.Txns.length) (j:Int)).Key=key∧mV h (idx (aV h h.Txns.length) (j:Int))=[p])) (fun b:Bool=>b=true↔∃ b ∈ aV h h.Txns.length,b.Txn=t∧b.Key=key∧mV h b=[p])):=fun hn =>
   ag ⟨a0,rfl,fun j hj=>by
    rcases Nat.lt_or_ge j k with h3 | h3
    ·exact hno j h3
    ·have:j=k:=by omega
     subst this;exact hn⟩
  refine ai (by omega) ?_;refine aA (fun h2 => ?_) (fun h2=>by rw [cond_false]; exact nx (fun h=>h2 h.1))
  refine aA (fun h3 => ?_) (fun h3=>nx (fun h=>h3 h.2.1));refine ai (by omega) (bB (GQ hS hc ha) ?_)
  by_cases h4:mV h (idx (aV h h.Txns.length) (k:Int))=[p]
  ·rw [rJ h4,cond_true,beq_self_eq_true,cond_true]
   exact aB (ag ⟨fun _=>⟨_,ha,h2,h3,h4⟩,fun _=>rfl⟩)
  ·have h5:=fun h=>h4 (CE.1 h)
   by_cases h6:(lone h (idx (aV h h.Txns.length) (k:Int))).2=true
   ·rw [h6,cond_true,beq_eq_false_iff_ne.2 (fun h=>h5 ⟨h6,h⟩),cond_false]
    exact nx (fun h=>h4 h.2.2)
   ·rw [Bool.not_eq_true] at h6
    rw [h6,cond_false,cond_false]
    exact nx (fun h=>h4 h.2.2)
 ·have:k=(aV h h.Txns.length).length:=by omega
  subst this;refine aB (ag ⟨fun h=>(nomatch h),?_⟩);rintro ⟨b,hb,h2⟩;obtain ⟨j,hj,e⟩:=List.getElem_of_mem hb
  rw [← e,← dE (n:=j) rfl hj] at h2
  exact absurd h2 (hno j hj)
theorem Fu (hS:fJ h) {a:Ask}:bM h a.Key a.Txn=some (dwr h a):=by
 have a2:=hS.len;refine dS.1 ?_;unfold bM;refine bY (k0:=0) h.Txns.length (fun k s=>s=((fG h a.Key k).filter (fun t=>decide (¬ (t=a.Txn∨(idx h.Txns t).Status≠1))),(k:Int))) (Nat.zero_le _) rfl ?_;rintro k s hk rfl;have hw:w64 ((k:Int) + 1)=((k + 1:Nat):Int):=aZ (by omega);have hwl:((fG h a.Key k).filter (fun t=>decide (¬ (t=a.Txn∨(idx h.Txns t).Status≠1)))).length≤k:=Nat.le_trans (List.length_filter_le _ _) oM;have hsu:=wJ (h:=h) (key:=a.Key) (k:=k);unfold nW iX kH
 dsimp only
 rw [hw]
 refine aA (fun h1 => ?_) (fun h1 => ?_)
 ·have a0:k < h.Txns.length:=by omega
  have no:¬ ((k:Int)≠a.Txn∧don h k∧0 < (gY h (k:Int) a.Key).length)→(fG h a.Key (k + 1)).filter (fun t=>decide (¬ (t=a.Txn∨(idx h.Txns t).Status≠1)))=(fG h a.Key k).filter (fun t=>decide (¬ (t=a.Txn∨(idx h.Txns t).Status≠1))):=fun hn=>by
   rw [hsu]
   split
   ·rename_i a1
    unfold EX at a1
    rw [decide_eq_true_eq] at a1
    rw [List.filter_append,List.filter_cons_of_neg]
    ·simp
    ·rw [decide_eq_true_eq]
     intro h3;exact hn ⟨fun h=>h3 (.inl h),Classical.byContradiction fun h=>h3 (.inr h),a1.2⟩
   ·rfl
  have nx:¬ ((k:Int)≠a.Txn∧don h k∧0 < (gY h (k:Int) a.Key).length)→Tri (some (.inl ((fG h a.Key k).filter (fun t=>decide (¬ (t=a.Txn∨(idx h.Txns t).Status≠1))),((k + 1:Nat):Int)))) (Upm h.Txns.length k (fun k s=>s=((fG h a.Key k).filter (fun t=>decide (¬ (t=a.Txn∨(idx h.Txns t).Status≠1))),(k:Int))) (fun b:List Int=>b=dwr h a)):=fun hn =>
   ag ⟨a0,by dsimp only; rw [no hn]⟩
  refine aA (fun h2 => ?_) (fun h2=>by rw [cond_false]; exact nx (fun h=>h.1 (Classical.byContradiction h2)))
  refine ai (by omega) ?_;refine aA (fun h3 => ?_) (fun h3=>by rw [cond_false]; exact nx (fun h=>h3 h.2.1))
  refine bB (wI ⟨by omega,by omega⟩ (hS.txn k a0).ops.1) ?_
  by_cases h4:0 < (gY h (k:Int) a.Key).length
  ·rw [decide_eq_true (by omega),cond_true]
   refine ai (by omega) (ag ⟨a0,?_⟩)
   dsimp only
   have hok:EX h a.Key k=true:=by
    unfold EX
    rw [decide_eq_true_eq]
    exact ⟨by rw [h3]; decide,h4⟩
   rw [hsu,if_pos hok,List.filter_append,List.filter_cons_of_pos]
   ·rfl
   ·rw [decide_eq_true_eq]
    exact fun h=>h.elim h2 (fun h=>h h3)
  ·rw [decide_eq_false (by omega),cond_false]
   exact nx (fun h=>h4 h.2.2)
 ·have:k=h.Txns.length:=by omega
  subst this;exact aB (ag rfl)
theorem Om (hS:fJ h) (hc:aK h=some 0) {a:Ask} (ha:a ∈ aV h h.Txns.length) {a0:Bool} (hb:(pts h a).2=true→a0=decide (made h a)) (a2:(pts h a).2=false→a0=false) {l:List Edge} (hl:l.length < 2 ^ 30) :
  iter (og h (aV h h.Txns.length) a (kd h a) (lone h a) (pts h a) a0 (dwr h a)) (l,0)=some (.inr (l++rwE h a)):=by
 have a6:=hS.len;have hd:=AZ (h:=h) (a:=a);obtain ⟨_,_,a4,hpl⟩:=Fs hS hc ha;have hbm:a0=decide (made h a):=by
  cases h1:(pts h a).2 with
  | true=>exact hb h1
  | false =>
   rw [a2 h1]
   exact (decide_eq_false (fun h=>by have:=h.1; rw [h1] at this; cases this)).symm
 subst hbm;refine dS.1 ?_;refine bY (k0:=0) (dwr h a).length (fun k s=>s=(l++upE (fun k=>rwT h a (idx (dwr h a) (k:Int))) k,(k:Int))) (Nat.zero_le _) (by simp [upE]) ?_;rintro k s hk rfl;have hw:w64 ((k:Int) + 1)=((k + 1:Nat):Int):=aZ (by omega);have hu:=Ig (h:=h) (a:=a) (k:=k);have hsu:upE (fun k=>rwT h a (idx (dwr h a) (k:Int))) (k + 1)=upE (fun k=>rwT h a (idx (dwr h a) (k:Int))) k++rwT h a (idx (dwr h a) (k:Int)):=oJ;unfold og
 dsimp only
 refine aA (fun h1 => ?_) (fun h1 => ?_)
 ·have a1:k < (dwr h a).length:=by omega
  have fini:∀ b:Bool,b=decide (ovr h a (idx (dwr h a) (k:Int)))→Tri (gW a (dwr h a) (l++upE (fun k=>rwT h a (idx (dwr h a) (k:Int))) k) (k:Int) b)
    (Upm (dwr h a).length k (fun k s=>s=(l++upE (fun k=>rwT h a (idx (dwr h a) (k:Int))) k,(k:Int))) (fun y:(List Edge×Int) ⊕ List Edge=>y = .inr (l++rwE h a))):=by
   rintro b rfl;unfold gW nz
   rw [hw]
   by_cases h2:ovr h a (idx (dwr h a) (k:Int))
   ·rw [decide_eq_true h2,cond_true]
    refine ai (by omega) (ai (by simp only [List.length_append]; omega) (ag ⟨a1,?_⟩))
    dsimp only
    rw [hsu,rwT,if_pos h2,List.append_assoc]
   ·rw [decide_eq_false h2,cond_false]
    refine ag ⟨a1,?_⟩
    dsimp only
    rw [hsu,rwT,if_neg h2,List.append_nil]
  have mid:∀ b:Bool,(b=true↔mV h a=[-1]∨(made h a∧idx (dwr h a) (k:Int) ∉ (pts h a).1))→Tri (eG h (aV h h.Txns.length) a (kd h a) (lone h a) (dwr h a) (l++upE (fun k=>rwT h a (idx (dwr h a) (k:Int))) k) (k:Int) b)
    (Upm (dwr h a).length k (fun k s=>s=(l++upE (fun k=>rwT h a (idx (dwr h a) (k:Int))) k,(k:Int))) (fun y:(List Edge×Int) ⊕ List Edge=>y = .inr (l++rwE h a))):=fun b hb=>by
   unfold eG jd;have old:¬ (kd h a=1∧∃ p,mV h a=[p]∧p ≠ -1∧p≠idx (dwr h a) (k:Int))→Tri (bif false then must (0≤(k:Int)∧(k:Int) < ((dwr h a).length:Int)) ((bJ h (aV h h.Txns.length) (idx (dwr h a) (k:Int)) a.Key (lone h a).1).bind fun a3=>gW a (dwr h a) (l++upE (fun k=>rwT h a (idx (dwr h a) (k:Int))) k) (k:Int) a3) else (gW a (dwr h a) (l++upE (fun k=>rwT h a (idx (dwr h a) (k:Int))) k) (k:Int) b)) (Upm (dwr h a).length k (fun k s=>s=(l++upE (fun k=>rwT h a (idx (dwr h a) (k:Int))) k,(k:Int))) (fun y:(List Edge×Int) ⊕ List Edge=>y = .inr (l++rwE h a))):=fun hn=>by
    rw [cond_false]
    refine fini b ?_
    rw [Bool.eq_iff_iff,hb,decide_eq_true_eq]
    unfold ovr
    constructor
    ·rintro (h | h)
     ·exact .inl h
     ·exact .inr (.inl h)
    ·rintro (h | h | ⟨_,h3,p,h4,h5,h6⟩)
     ·exact .inl h
     ·exact .inr h
     ·by_cases h7:p = -1
      ·rw [h7] at h4; exact .inl h4
      ·exact absurd ⟨h3,p,h4,h7,h5⟩ hn
   refine aA (fun h2 => ?_) (fun h2=>old (fun h=>h2 h.1))
   by_cases h3:(lone h a).2=true
   rotate_left
   ·rw [Bool.not_eq_true] at h3
    rw [h3,cond_false]
    exact old (fun ⟨_,p,h4,_⟩=>by rw [rJ h4] at h3; cases h3)
   have hp:=CE.1 ⟨h3,rfl⟩
   rw [h3,cond_true]
   refine aA (fun h4 => ?_) (fun h4=>old (fun ⟨_,p,h5,h6,_⟩=>by rw [rJ h5] at h4; exact h4 h6));refine ai (by omega) ?_
   by_cases h5:idx (dwr h a) (k:Int)=(lone h a).1
   ·rw [show (idx (dwr h a) (k:Int) != (lone h a).1)=false by rw [bne_eq_false_iff_eq]; exact h5]
    refine old (fun ⟨_,p,h6,_,h8⟩ => ?_)
    rw [rJ h6] at h5
    exact h8 h5.symm
   ·rw [show (idx (dwr h a) (k:Int) != (lone h a).1)=true by rw [bne_iff_ne]; exact h5,cond_true]
    refine ai (by omega) (bB (Jo hS hc) ?_);refine fini _ ?_
    rw [decide_eq_decide]
    have nm:¬ made h a:=fun h=>by have:=a4 h.1; omega
    unfold ovr
    constructor
    ·intro h6;exact .inr (.inr ⟨nm,h2,_,hp,fun h=>h5 h.symm,h6⟩)
    ·rintro (h | h | ⟨_,_,p,h6,_,h7⟩)
     ·rw [hp] at h
      exact absurd (List.cons.inj h).1 h4
     ·exact absurd h.1 nm
     ·rw [hp] at h6
      cases h6;exact h7
  have made_:¬ mV h a=[-1]→Tri (bif decide (made h a) then must (0≤(k:Int)∧(k:Int) < ((dwr h a).length:Int)) ((fQ (pts h a).1 (idx (dwr h a) (k:Int))).bind fun a5=>eG h (aV h h.Txns.length) a (kd h a) (lone h a) (dwr h a) (l++upE (fun k=>rwT h a (idx (dwr h a) (k:Int))) k) (k:Int) (!a5)) else (eG h (aV h h.Txns.length) a (kd h a) (lone h a) (dwr h a) (l++upE (fun k=>rwT h a (idx (dwr h a) (k:Int))) k) (k:Int) false))
    (Upm (dwr h a).length k (fun k s=>s=(l++upE (fun k=>rwT h a (idx (dwr h a) (k:Int))) k,(k:Int))) (fun y:(List Edge×Int) ⊕ List Edge=>y = .inr (l++rwE h a))):=fun hn=>by
   by_cases hm:made h a
   ·rw [decide_eq_true hm,cond_true]
    refine ai (by omega) (bB (GN (by omega)) (mid _ ?_))
    simp [hn,hm]
   ·rw [decide_eq_false hm,cond_false]
    exact mid _ ⟨fun h=>(nomatch h),fun h=>h.elim (fun h=>absurd h hn) (fun h=>absurd h.1 hm)⟩
  by_cases h2:(lone h a).2=true
  ·rw [h2,cond_true]
   refine aA (fun h3=>mid true ⟨fun _ => .inl (CE.1 ⟨h2,h3⟩),fun _=>rfl⟩) (fun h3=>made_ (fun h4=>h3 (by rw [rJ h4])))
  ·rw [Bool.not_eq_true] at h2
   rw [h2,cond_false]
   exact made_ (fun h4=>by rw [rJ h4] at h2; cases h2)
 ·have:k=(dwr h a).length:=by omega
  subst this;exact aB (aB (ag rfl))
theorem Oo (hS:fJ h) (hc:aK h=some 0) {a:Ask} (ha:a ∈ aV h h.Txns.length) {l:List Edge} (hl:l.length < 2 ^ 29):jI h (aV h h.Txns.length) a (kd h a) (lone h a) l=some (l++wwE h a++rwE h a):=by
 have a8:=hS.len;have hd:=AZ (h:=h) (a:=a);obtain ⟨_,_,a7,hpl⟩:=Fs hS hc ha;refine dS.1 ?_;unfold jI;refine bB (Jm hS hc ha).2.1 ?_;have go:∀ b:Bool,b=decide (made h a)→Tri (kV h (aV h h.Txns.length) a (kd h a) (lone h a) l (pts h a) b) (fun r=>r=l++wwE h a++rwE h a):=by
  rintro b hb;have a3:(pts h a).2=true→b=decide (made h a):=fun _=>hb;have a0:(pts h a).2=false→b=false:=fun e=>by rw [hb]; exact decide_eq_false (fun h=>by have:=h.1; rw [e] at this; cases this)
  unfold kV;refine bB (Fu hS) ?_
  by_cases hm:made h a
  ·rw [decide_eq_true hm] at hb
   subst hb;refine bY (k0:=0) (pts h a).1.length (fun k s=>s=(l++upE (wX h a) k,(k:Int))) (Nat.zero_le _) (by simp [upE]) ?_;rintro k s hk rfl;have hw:w64 ((k:Int) + 1)=((k + 1:Nat):Int):=aZ (by omega);have hu:=Ih hS (a:=a) (k:=k);have hsu:upE (wX h a) (k + 1)=upE (wX h a) k++wX h a k:=oJ;unfold oh
   dsimp only
   refine aA (fun h1 => ?_) (fun h1 => ?_)
   ·have a1:k < (pts h a).1.length:=by omega
    unfold iJ
    rw [cond_true,hw]
    have rest:¬ (kd h a=2∧k + 1 < (pts h a).1.length)→Tri (iter (nY a (pts h a) (dwr h a) (k:Int)) (l++upE (wX h a) k,0)) (Upm (pts h a).1.length k (fun k s=>s=(l++upE (wX h a) k,(k:Int))) (fun r:List Edge=>r=l++wwE h a++rwE h a)):=fun hn=>by
     refine bY (k0:=0) (dwr h a).length (fun q s=>s=(l++upE (wX h a) k++upE (fun q=>wwT h a (idx (pts h a).1 (k:Int)) (idx (dwr h a) (q:Int))) q,(q:Int))) (Nat.zero_le _) (by simp [upE]) ?_;rintro q s hq rfl;have a5:w64 ((q:Int) + 1)=((q + 1:Nat):Int):=aZ (by omega);have a6:=vW (f:=fun q=>wwT h a (idx (pts h a).1 (k:Int)) (idx (dwr h a) (q:Int))) (m:=1) (fun q=>Ie) q;have a2:upE (fun q=>wwT h a (idx (pts h a).1 (k:Int)) (idx (dwr h a) (q:Int))) (q + 1)=upE (fun q=>wwT h a (idx (pts h a).1 (k:Int)) (idx (dwr h a) (q:Int))) q++wwT h a (idx (pts h a).1 (k:Int)) (idx (dwr h a) (q:Int)):=oJ;unfold nY nX kU
     dsimp only
     rw [hw,a5]
     refine aA (fun h2 => ?_) (fun h2 => ?_)
     ·have a4:q < (dwr h a).length:=by omega
      refine ai (by omega) (bB (GN (by omega)) ?_)
      by_cases h3:idx (dwr h a) (q:Int) ∈ (pts h a).1
      ·rw [decide_eq_true h3,Bool.not_true,cond_false]
       refine ag ⟨a4,?_⟩
       dsimp only
       rw [a2,wwT,if_pos h3,List.append_nil]
      ·rw [decide_eq_false h3,Bool.not_false,cond_true]
       refine ai (by omega) (ai (by simp only [List.length_append]; omega) (ag ⟨a4,?_⟩))
       dsimp only
       rw [a2,wwT,if_neg h3,List.append_assoc]
     ·have:q=(dwr h a).length:=by omega
      subst this;refine aB (ag ⟨a1,?_⟩)
      dsimp only
      rw [hsu,wX,if_neg hn,List.append_assoc]
    unfold nZ kU
    rw [hw]
    refine aA (fun h2 => ?_) (fun h2=>by rw [cond_false]; exact rest (fun h=>h2 h.1))
    refine aA (fun h3 => ?_) (fun h3=>rest (fun h=>by omega));refine ai (by omega) (ai (by omega) (ai (by simp only [List.length_append]; omega) (ag ⟨a1,?_⟩)))
    dsimp only
    rw [hsu,wX,if_pos ⟨h2,by omega⟩,List.append_assoc]
   ·have:k=(pts h a).1.length:=by omega
    subst this;unfold iJ
    rw [cond_false,Om hS hc ha a3 a0 (by rw [List.length_append]; omega)]
    refine ag ?_
    show _=_
    rw [wwE,if_pos hm]
  ·rw [decide_eq_false hm] at hb
   subst hb
   rw [zl]
   unfold oh
   dsimp only
   have e:iJ h (aV h h.Txns.length) a (kd h a) (lone h a) (pts h a) false (dwr h a) l 0 false=some (.inr (l++rwE h a)):=by
    unfold iJ
    rw [cond_false,Om hS hc ha a3 a0 (by omega)]
   rw [e,Bool.cond_self]
   refine ⟨_,rfl,?_⟩
   rw [wwE,if_neg hm,List.append_nil]
 by_cases h2:(pts h a).2=true
 ·rw [h2,cond_true]
  refine go _ ?_;have e:made h a↔((a.Base.length:Int) > 0):=⟨fun h=>by have:=h.2; omega,fun h=>⟨h2,by omega⟩⟩
  exact (decide_eq_decide.2 e).symm
 ·rw [Bool.not_eq_true] at h2
  rw [h2,cond_false]
  exact go _ (decide_eq_false (fun h=>by have:=h.1; rw [h2] at this; cases this)).symm
theorem PU (hS:fJ h) (hc:aK h=some 0) {a:Ask} (ha:a ∈ aV h h.Txns.length):aj h (aV h h.Txns.length) a=some (Ic h a):=by
 obtain ⟨t,p,hk⟩:=BU hS ha;have hkd:=Og hk;have e1:=hk.e1;have e2:=hk.e2;have tl:=hk.tl;have pl:=hk.pl;obtain ⟨k1,k8⟩:=AU hS hk.tl hk.pl;refine dS.1 ?_;unfold aj Ic;have hop:(idx (idx h.Txns a.Txn).Ops a.Place).Kind=(opAt h (t:Int) (p:Int)).Kind:=by rw [e1,e2]; rfl
 refine ai (by omega) (ai (by rw [e1]; omega) ?_)
 rw [hop]
 refine bB (AQ k1 k8) ?_
 rw [← hkd]
 refine bB (GQ hS hc ha) ?_;unfold nA;have none_:wrE h a=[]→Tri (jI h (aV h h.Txns.length) a (kd h a) (lone h a) []) (fun b=>b=wrE h a++wwE h a++rwE h a):=fun e=>by
  rw [Oo hS hc ha (by simp),e]
  exact ag rfl
 by_cases h1:(lone h a).2=true
 ·rw [h1,cond_true]
  have hp:=CE.1 ⟨h1,rfl⟩;refine aA (fun h2 => ?_) (fun h2 => ?_)
  ·refine ai (by omega) ?_
   rw [Oo hS hc ha (by simp)]
   have ew:wrE h a=[⟨(lone h a).1,a.Txn,4,a.Key⟩]:=by
    unfold wrE
    rw [hp]
    exact if_neg h2
   rw [ew]
   exact ag rfl
  ·refine none_ ?_;unfold wrE
   rw [hp]
   exact if_pos (Classical.byContradiction h2)
 ·rw [Bool.not_eq_true] at h1
  rw [h1,cond_false,cond_false]
  refine none_ ?_;unfold wrE
  split
  ·rename_i q hq
   rw [rJ hq] at h1
   cases h1
  ·rfl
theorem Ms (hs:uK h) (hS:fJ h) (hc:aK h=some 0) (hc':ay h=some 0):iY h=some (⟨(h.Txns.length:Int),xW h⟩,0):=by
 have a1:=hS.len;obtain ⟨i1,_,_⟩:=sH hS h.Txns.length (Nat.le_refl _);refine dS.1 ?_;unfold iY;refine bB hc' ?_;refine aA (fun h1=>absurd rfl h1) (fun _ => ?_)
 suffices hO:Tri (dR h) (fun g=>g=⟨(h.Txns.length:Int),xW h⟩) from fq hO (by rintro g rfl; exact ag rfl)
 unfold dR;refine bB (Ko hS) ?_;unfold tN;refine bB (Jc hs hS) ?_;refine bY (k0:=0) (aV h h.Txns.length).length (fun k s=>s=(qg h k,(k:Int))) (Nat.zero_le _) (by simp [qg]) ?_;rintro k s hk rfl;have hw:w64 ((k:Int) + 1)=((k + 1:Nat):Int):=aZ (by omega);have hel:=xm hS hc k hk;unfold tL tK
 dsimp only
 rw [hw]
 refine aA (fun h1 => ?_) (fun h1 => ?_)
 ·have a0:k < (aV h h.Txns.length).length:=by omega
  have ha:=yB a0;have hal:=Jn hS hc ha;refine ai (by omega) (bB (PU hS hc ha) ?_);refine ai (by omega) (ag ⟨a0,?_⟩)
  dsimp only
  rw [yV a0]
 ·have:k=(aV h h.Txns.length).length:=by omega
  subst this;refine aB (ag ?_)
  show jf.mk _ _=_
  unfold qg xW
  rw [List.take_length]
end
end Go.Proofs.YtfpeabnehpclnaaGreatT
namespace Go.Proofs.YtfpeabnehpclnaaGreatT
open Go Go.Proofs Go.Proofs.YtfpeabnehpclnaaGreatE
set_option linter.unusedVariables false
set_option linter.unusedSimpArgs false
section
variable {h:History}
theorem Kt {l:List Edge} (hl:l.length < 2 ^ 60):eu l l=some true:=by
 refine dS.1 ?_;unfold eu;refine aA (fun h=>absurd rfl h) (fun _ => ?_);refine bY (k0:=0) l.length (fun k s=>s=(k:Int)) (Nat.zero_le _) rfl ?_;rintro k s hk rfl;have hw:w64 ((k:Int) + 1)=((k + 1:Nat):Int):=aZ (by omega);unfold mM
 dsimp only
 rw [hw]
 refine aA (fun h1 => ?_) (fun h1=>aB (ag rfl));refine ai (by omega) (ai (by omega) ?_)
 simp only [beq_self_eq_true,Bool.and_true,Bool.not_true,cond_false]
 exact ag ⟨by omega,rfl⟩
theorem Ku (hs:uK h):∃ (l:List Edge) (n v:Int),dm h=some (⟨n,l⟩,v)∧iY h=some (⟨n,l⟩,v)∧l.length < 2 ^ 30:=by
 obtain ⟨v,hv,hv',a0,hiff⟩:=Kh hs;rcases a0 with rfl | rfl
 ·have hS:=hiff.1 rfl;refine ⟨xW h,_,0,Kr hs hS hv,Ms hs hS hv hv',?_⟩;obtain ⟨i1,_,_⟩:=sH hS h.Txns.length (Nat.le_refl _);have a1:=hS.len;have h1:=xm hS hv (aV h h.Txns.length).length (Nat.le_refl _);have e:qg h (aV h h.Txns.length).length=xW h:=by unfold qg xW; rw [List.take_length]
  rw [e] at h1
  omega
 ·refine ⟨[],0,1,Mr hv,?_,by simp⟩
  unfold iY
  rw [hv']
  rfl
theorem Gf (h:History) {K:ByteArray→Prop} (g:HG K h):dA h=some true:=by
 have hs:=g.small;obtain ⟨l,n,v,h1,h2,hl⟩:=Ku hs;refine dS.1 ?_;unfold dA
 rw [yI]
 refine dh ?_
 rw [Bool.not_true,cond_false]
 refine bB h1 (bB h1 (bB h2 ?_));refine aA (fun h=>absurd rfl h) (fun _ => ?_)
 rw [bne_self_eq_false]
 unfold jM
 rw [cond_false]
 refine bY (k0:=0) l.length (fun k s=>s.1.length=l.length∧s.2=(k:Int)) (Nat.zero_le _) ⟨rfl,rfl⟩ ?_;rintro k ⟨m,x⟩ hk ⟨e1,rfl⟩
 dsimp only at e1
 have hw:w64 ((k:Int) + 1)=((k + 1:Nat):Int):=aZ (by omega);unfold mO
 dsimp only
 rw [hw,e1]
 refine aA (fun h3 => ?_) (fun h3 => ?_)
 ·refine ai (by omega) (ag ⟨by omega,?_,rfl⟩)
  dsimp only
  rw [List.length_set,e1]
 ·refine ai (by omega) (bB (Kt (by omega)) (aB (ag rfl)))
end
end Go.Proofs.YtfpeabnehpclnaaGreatT
