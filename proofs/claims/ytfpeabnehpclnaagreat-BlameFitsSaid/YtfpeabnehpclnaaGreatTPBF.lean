import Derived.Test.YtfpeabnehpclnaaGreatTPDD
import Derived.Test.YtfpeabnehpclnaaGreatTD
import Derived.Test.YtfpeabnehpclnaaGreatXA
import Derived.Test.YtfpeabnehpclnaaGreatY
import Derived.Test.YtfpeabnehpclnaaGreatTF
namespace Go.Proofs.YtfpeabnehpclnaaGreatT
open Go Go.Proofs Go.Proofs.YtfpeabnehpclnaaGreatE
set_option linter.unusedVariables false
set_option linter.unusedSimpArgs false
open Classical
section
variable {h:History}
theorem KE {l:List Int} {x:Int} (hl:l.length < 2 ^ 60):gW l x=some (decide (x ∈ l)):=by
 refine zC.1 ?_;unfold gW;refine bX (k0:=0) l.length (fun k s=>s=(k:Int)∧∀ j:Nat,j < k→idx l (j:Int)≠x) (Nat.zero_le _) ⟨rfl,fun j h=>absurd h (Nat.not_lt_zero _)⟩ ?_;rintro k s hk ⟨rfl,hno⟩;have hw:w64 ((k:Int) + 1)=((k + 1:Nat):Int):=aZ (by omega);unfold vO
 dsimp only
 rw [hw]
 refine aA (fun h1 => ?_) (fun h1 => ?_)
 ·have a1:k < l.length:=by omega
  refine aj (by omega) ?_;refine aA (fun h2 => ?_) (fun h2 => ?_)
  ·refine aD (ag ⟨fun _ => ?_,fun _=>rfl⟩)
   rw [← h2]
   exact iC a1
  ·refine ag ⟨a1,rfl,fun j hj => ?_⟩;rcases Nat.lt_or_ge j k with h3 | h3
   ·exact hno j h3
   ·have:j=k:=by omega
    subst this;exact h2
 ·have:k=l.length:=by omega
  subst this;refine aD (ag ⟨fun h=>(nomatch h),fun h => ?_⟩);obtain ⟨j,hj,e⟩:=yg h;exact absurd e (hno j hj)
noncomputable def lone (h:History) (a:Ask):Int×Bool:=match nk h a with
 | [p]=>(p,true)
 | _=>(0,false)
theorem uj {a:Ask} {p:Int} (e:nk h a=[p]):lone h a=(p,true):=by unfold lone; rw [e]
theorem Pw {a:Ask} (e:(nk h a).length≠1):lone h a=(0,false):=by
 unfold lone
 split
 ·rename_i p hp
  rw [hp] at e
  exact absurd rfl e
 ·rfl
theorem KF (hS:fo h) (hc:aJ h=some 0) {a:Ask} (ha:a ∈ bn h h.Txns.length):ma h a=some (lone h a):=by
 refine eH.1 ?_;unfold ma;refine bA (Dw hS hc ha).2 ?_;refine aA (fun h1=>ag (Pw (by omega)).symm) (fun h1 => ?_);have hl:(nk h a).length=1:=by omega
 obtain ⟨p,hp⟩:=List.length_eq_one_iff.1 hl;refine aj (by omega) (ag ?_)
 rw [uj hp,hp]
 rfl
theorem Fs {a:Ask} {p:Int}:((lone h a).2=true∧(lone h a).1=p)↔nk h a=[p]:=by
 constructor
 ·rintro ⟨h1,h2⟩
  by_cases hl:(nk h a).length=1
  ·obtain ⟨q,hq⟩:=List.length_eq_one_iff.1 hl
   rw [uj hq] at h2
   rw [hq,← h2]
  ·rw [Pw hl] at h1
   cases h1
 ·intro e
  rw [uj e]
  exact ⟨rfl,rfl⟩
theorem MW (hS:fo h) (hc:aJ h=some 0) {t key p:Int}:bP h (bn h h.Txns.length) t key p=some (decide (∃ b ∈ bn h h.Txns.length,b.Txn=t∧b.Key=key∧nk h b=[p])):=by
 have a2:=hS.len;obtain ⟨i1,_,_⟩:=pG hS h.Txns.length (Nat.le_refl _);refine zC.1 ?_;unfold bP;refine bX (k0:=0) (bn h h.Txns.length).length (fun k s=>s=(k:Int)∧∀ j:Nat,j < k → ¬ ((idx (bn h h.Txns.length) (j:Int)).Txn=t∧(idx (bn h h.Txns.length) (j:Int)).Key=key∧nk h (idx (bn h h.Txns.length) (j:Int))=[p])) (Nat.zero_le _) ⟨rfl,fun j h=>absurd h (Nat.not_lt_zero _)⟩ ?_;rintro k s hk ⟨rfl,hno⟩;have hw:w64 ((k:Int) + 1)=((k + 1:Nat):Int):=aZ (by omega);unfold tY oJ oI oH
 dsimp only
 rw [hw]
 refine aA (fun h1 => ?_) (fun h1 => ?_)
 ·have a1:k < (bn h h.Txns.length).length:=by omega
  have ha:=sI a1;have nx:¬ ((idx (bn h h.Txns.length) (k:Int)).Txn=t∧(idx (bn h h.Txns.length) (k:Int)).Key=key∧nk h (idx (bn h h.Txns.length) (k:Int))=[p]) →
    Tri (some (.inl ((k + 1:Nat):Int))) (Upm (bn h h.Txns.length).length k (fun k s=>s=(k:Int)∧∀ j:Nat,j < k → ¬ ((idx (bn h h.Txns.length) (j:Int)).Txn=t∧(idx (bn h h.Txns.length) (j:Int)).Key=key∧nk h (idx (bn h h.Txns.length) (j:Int))=[p])) (fun b:Bool=>b=true↔∃ b ∈ bn h h.Txns.length,b.Txn=t∧b.Key=key∧nk h b=[p])):=fun hn =>
   ag ⟨a1,rfl,fun j hj=>by
    rcases Nat.lt_or_ge j k with h3 | h3
    ·exact hno j h3
    ·have:j=k:=by omega
     subst this;exact hn⟩
  refine aj (by omega) ?_;refine aA (fun h2 => ?_) (fun h2=>by rw [cond_false]; exact nx (fun h=>h2 h.1))
  refine aA (fun h3 => ?_) (fun h3=>nx (fun h=>h3 h.2.1));refine aj (by omega) (bA (KF hS hc ha) ?_)
  by_cases h4:nk h (idx (bn h h.Txns.length) (k:Int))=[p]
  ·rw [uj h4,cond_true,beq_self_eq_true,cond_true]
   exact aD (ag ⟨fun _=>⟨_,ha,h2,h3,h4⟩,fun _=>rfl⟩)
  ·have h5:=fun h=>h4 (Fs.1 h)
   by_cases h6:(lone h (idx (bn h h.Txns.length) (k:Int))).2=true
   ·rw [h6,cond_true,beq_eq_false_iff_ne.2 (fun h=>h5 ⟨h6,h⟩),cond_false]
    exact nx (fun h=>h4 h.2.2)
   ·rw [Bool.not_eq_true] at h6
    rw [h6,cond_false,cond_false]
    exact nx (fun h=>h4 h.2.2)
 ·have:k=(bn h h.Txns.length).length:=by omega
  subst this;refine aD (ag ⟨fun h=>(nomatch h),?_⟩);rintro ⟨b,hb,h2⟩;obtain ⟨j,hj,e⟩:=List.getElem_of_mem hb
  rw [← e,← dJ (n:=j) rfl hj] at h2
  exact absurd h2 (hno j hj)
theorem Jb (hS:fo h) {a:Ask}:bS h a.Key a.Txn=some (dwr h a):=by
 have a3:=hS.len;refine eH.1 ?_;unfold bS;refine bX (k0:=0) h.Txns.length (fun k s=>s=((gF h a.Key k).filter (fun t=>decide (¬ (t=a.Txn∨(idx h.Txns t).Status≠1))),(k:Int))) (Nat.zero_le _) rfl ?_;rintro k s hk rfl;have hw:w64 ((k:Int) + 1)=((k + 1:Nat):Int):=aZ (by omega);have hwl:((gF h a.Key k).filter (fun t=>decide (¬ (t=a.Txn∨(idx h.Txns t).Status≠1)))).length≤k:=Nat.le_trans (List.length_filter_le _ _) qH;have hsu:=yQ (h:=h) (key:=a.Key) (k:=k);unfold qb jJ lV
 dsimp only
 rw [hw]
 refine aA (fun h1 => ?_) (fun h1 => ?_)
 ·have a1:k < h.Txns.length:=by omega
  have no:¬ ((k:Int)≠a.Txn∧don h k∧0 < (jA h (k:Int) a.Key).length)→(gF h a.Key (k + 1)).filter (fun t=>decide (¬ (t=a.Txn∨(idx h.Txns t).Status≠1)))=(gF h a.Key k).filter (fun t=>decide (¬ (t=a.Txn∨(idx h.Txns t).Status≠1))):=fun hn=>by
   rw [hsu]
   split
   ·rename_i a2
    unfold IL at a2
    rw [decide_eq_true_eq] at a2
    rw [List.filter_append,List.filter_cons_of_neg]
    ·simp
    ·rw [decide_eq_true_eq]
     intro h3;exact hn ⟨fun h=>h3 (.inl h),Classical.byContradiction fun h=>h3 (.inr h),a2.2⟩
   ·rfl
  have nx:¬ ((k:Int)≠a.Txn∧don h k∧0 < (jA h (k:Int) a.Key).length)→Tri (some (.inl ((gF h a.Key k).filter (fun t=>decide (¬ (t=a.Txn∨(idx h.Txns t).Status≠1))),((k + 1:Nat):Int)))) (Upm h.Txns.length k (fun k s=>s=((gF h a.Key k).filter (fun t=>decide (¬ (t=a.Txn∨(idx h.Txns t).Status≠1))),(k:Int))) (fun b:List Int=>b=dwr h a)):=fun hn =>
   ag ⟨a1,by dsimp only; rw [no hn]⟩
  refine aA (fun h2 => ?_) (fun h2=>by rw [cond_false]; exact nx (fun h=>h.1 (Classical.byContradiction h2)))
  refine aj (by omega) ?_;refine aA (fun h3 => ?_) (fun h3=>by rw [cond_false]; exact nx (fun h=>h3 h.2.1))
  refine bA (yP ⟨by omega,by omega⟩ (hS.txn k a1).ops.1) ?_
  by_cases h4:0 < (jA h (k:Int) a.Key).length
  ·rw [decide_eq_true (by omega),cond_true]
   refine aj (by omega) (ag ⟨a1,?_⟩)
   dsimp only
   have hok:IL h a.Key k=true:=by
    unfold IL
    rw [decide_eq_true_eq]
    exact ⟨by rw [h3]; decide,h4⟩
   rw [hsu,if_pos hok,List.filter_append,List.filter_cons_of_pos]
   ·rfl
   ·rw [decide_eq_true_eq]
    exact fun h=>h.elim h2 (fun h=>h h3)
  ·rw [decide_eq_false (by omega),cond_false]
   exact nx (fun h=>h4 h.2.2)
 ·have:k=h.Txns.length:=by omega
  subst this;exact aD (ag rfl)
theorem Sb (hS:fo h) (hc:aJ h=some 0) {a:Ask} (ha:a ∈ bn h h.Txns.length) {a1:Bool} (hb:(pts h a).2=true→a1=decide (made h a)) (a6:(pts h a).2=false→a1=false) {l:List Edge} (hl:l.length < 2 ^ 30) :
  iter (qg h (bn h h.Txns.length) a (kd h a) (lone h a) (pts h a) a1 (dwr h a)) (l,0)=some (.inr (l++rwE h a)):=by
 have a7:=hS.len;have hd:=Dx (h:=h) (a:=a);obtain ⟨_,_,a4,hpl⟩:=Ja hS hc ha;have hbm:a1=decide (made h a):=by
  cases h1:(pts h a).2 with
  | true=>exact hb h1
  | false =>
   rw [a6 h1]
   exact (decide_eq_false (fun h=>by have:=h.1; rw [h1] at this; cases this)).symm
 subst hbm;refine eH.1 ?_;refine bX (k0:=0) (dwr h a).length (fun k s=>s=(l++upE (fun k=>rwT h a (idx (dwr h a) (k:Int))) k,(k:Int))) (Nat.zero_le _) (by simp [upE]) ?_;rintro k s hk rfl;have hw:w64 ((k:Int) + 1)=((k + 1:Nat):Int):=aZ (by omega);have hu:=Lv (h:=h) (a:=a) (k:=k);have hsu:upE (fun k=>rwT h a (idx (dwr h a) (k:Int))) (k + 1)=upE (fun k=>rwT h a (idx (dwr h a) (k:Int))) k++rwT h a (idx (dwr h a) (k:Int)):=qC;unfold qg
 dsimp only
 refine aA (fun h1 => ?_) (fun h1 => ?_)
 ·have a2:k < (dwr h a).length:=by omega
  have fini:∀ b:Bool,b=decide (ovr h a (idx (dwr h a) (k:Int)))→Tri (iU a (dwr h a) (l++upE (fun k=>rwT h a (idx (dwr h a) (k:Int))) k) (k:Int) b)
    (Upm (dwr h a).length k (fun k s=>s=(l++upE (fun k=>rwT h a (idx (dwr h a) (k:Int))) k,(k:Int))) (fun y:(List Edge×Int) ⊕ List Edge=>y = .inr (l++rwE h a))):=by
   rintro b rfl;unfold iU oK
   rw [hw]
   by_cases h2:ovr h a (idx (dwr h a) (k:Int))
   ·rw [decide_eq_true h2,cond_true]
    refine aj (by omega) (aj (by simp only [List.length_append]; omega) (ag ⟨a2,?_⟩))
    dsimp only
    rw [hsu,rwT,if_pos h2,List.append_assoc]
   ·rw [decide_eq_false h2,cond_false]
    refine ag ⟨a2,?_⟩
    dsimp only
    rw [hsu,rwT,if_neg h2,List.append_nil]
  have mid:∀ b:Bool,(b=true↔nk h a=[-1]∨(made h a∧idx (dwr h a) (k:Int) ∉ (pts h a).1))→Tri (fB h (bn h h.Txns.length) a (kd h a) (lone h a) (dwr h a) (l++upE (fun k=>rwT h a (idx (dwr h a) (k:Int))) k) (k:Int) b)
    (Upm (dwr h a).length k (fun k s=>s=(l++upE (fun k=>rwT h a (idx (dwr h a) (k:Int))) k,(k:Int))) (fun y:(List Edge×Int) ⊕ List Edge=>y = .inr (l++rwE h a))):=fun b hb=>by
   unfold fB jR;have old:¬ (kd h a=1∧∃ p,nk h a=[p]∧p ≠ -1∧p≠idx (dwr h a) (k:Int))→Tri (bif false then must (0≤(k:Int)∧(k:Int) < ((dwr h a).length:Int)) ((bP h (bn h h.Txns.length) (idx (dwr h a) (k:Int)) a.Key (lone h a).1).bind fun a5=>iU a (dwr h a) (l++upE (fun k=>rwT h a (idx (dwr h a) (k:Int))) k) (k:Int) a5) else (iU a (dwr h a) (l++upE (fun k=>rwT h a (idx (dwr h a) (k:Int))) k) (k:Int) b)) (Upm (dwr h a).length k (fun k s=>s=(l++upE (fun k=>rwT h a (idx (dwr h a) (k:Int))) k,(k:Int))) (fun y:(List Edge×Int) ⊕ List Edge=>y = .inr (l++rwE h a))):=fun hn=>by
    rw [cond_false]
    refine fini b ?_
    rw [Bool.eq_iff_iff,hb,decide_eq_true_eq]
    unfold ovr
    constructor
    ·rintro (h | h)
     ·exact .inl h
     ·exact .inr (.inl h)
    ·rintro (h | h | ⟨_,h3,p,h4,h5,h6⟩)
     ·exact .inl h
     ·exact .inr h
     ·by_cases h7:p = -1
      ·rw [h7] at h4; exact .inl h4
      ·exact absurd ⟨h3,p,h4,h7,h5⟩ hn
   refine aA (fun h2 => ?_) (fun h2=>old (fun h=>h2 h.1))
   by_cases h3:(lone h a).2=true
   rotate_left
   ·rw [Bool.not_eq_true] at h3
    rw [h3,cond_false]
    exact old (fun ⟨_,p,h4,_⟩=>by rw [uj h4] at h3; cases h3)
   have hp:=Fs.1 ⟨h3,rfl⟩
   rw [h3,cond_true]
   refine aA (fun h4 => ?_) (fun h4=>old (fun ⟨_,p,h5,h6,_⟩=>by rw [uj h5] at h4; exact h4 h6));refine aj (by omega) ?_
   by_cases h5:idx (dwr h a) (k:Int)=(lone h a).1
   ·rw [show (idx (dwr h a) (k:Int) != (lone h a).1)=false by rw [bne_eq_false_iff_eq]; exact h5]
    refine old (fun ⟨_,p,h6,_,h8⟩ => ?_)
    rw [uj h6] at h5
    exact h8 h5.symm
   ·rw [show (idx (dwr h a) (k:Int) != (lone h a).1)=true by rw [bne_iff_ne]; exact h5,cond_true]
    refine aj (by omega) (bA (MW hS hc) ?_);refine fini _ ?_
    rw [decide_eq_decide]
    have nm:¬ made h a:=fun h=>by have:=a4 h.1; omega
    unfold ovr
    constructor
    ·intro h6;exact .inr (.inr ⟨nm,h2,_,hp,fun h=>h5 h.symm,h6⟩)
    ·rintro (h | h | ⟨_,_,p,h6,_,h7⟩)
     ·rw [hp] at h
      exact absurd (List.cons.inj h).1 h4
     ·exact absurd h.1 nm
     ·rw [hp] at h6
      cases h6;exact h7
  have made_:¬ nk h a=[-1]→Tri (bif decide (made h a) then must (0≤(k:Int)∧(k:Int) < ((dwr h a).length:Int)) ((gW (pts h a).1 (idx (dwr h a) (k:Int))).bind fun a3=>fB h (bn h h.Txns.length) a (kd h a) (lone h a) (dwr h a) (l++upE (fun k=>rwT h a (idx (dwr h a) (k:Int))) k) (k:Int) (!a3)) else (fB h (bn h h.Txns.length) a (kd h a) (lone h a) (dwr h a) (l++upE (fun k=>rwT h a (idx (dwr h a) (k:Int))) k) (k:Int) false))
    (Upm (dwr h a).length k (fun k s=>s=(l++upE (fun k=>rwT h a (idx (dwr h a) (k:Int))) k,(k:Int))) (fun y:(List Edge×Int) ⊕ List Edge=>y = .inr (l++rwE h a))):=fun hn=>by
   by_cases hm:made h a
   ·rw [decide_eq_true hm,cond_true]
    refine aj (by omega) (bA (KE (by omega)) (mid _ ?_))
    simp [hn,hm]
   ·rw [decide_eq_false hm,cond_false]
    exact mid _ ⟨fun h=>(nomatch h),fun h=>h.elim (fun h=>absurd h hn) (fun h=>absurd h.1 hm)⟩
  by_cases h2:(lone h a).2=true
  ·rw [h2,cond_true]
   refine aA (fun h3=>mid true ⟨fun _ => .inl (Fs.1 ⟨h2,h3⟩),fun _=>rfl⟩) (fun h3=>made_ (fun h4=>h3 (by rw [uj h4])))
  ·rw [Bool.not_eq_true] at h2
   rw [h2,cond_false]
   exact made_ (fun h4=>by rw [uj h4] at h2; cases h2)
 ·have:k=(dwr h a).length:=by omega
  subst this;exact aD (aD (ag rfl))
theorem Sc (hS:fo h) (hc:aJ h=some 0) {a:Ask} (ha:a ∈ bn h h.Txns.length) {l:List Edge} (hl:l.length < 2 ^ 29):kD h (bn h h.Txns.length) a (kd h a) (lone h a) l=some (l++wwE h a++rwE h a):=by
 have a8:=hS.len;have hd:=Dx (h:=h) (a:=a);obtain ⟨_,_,a9,hpl⟩:=Ja hS hc ha;refine eH.1 ?_;unfold kD;refine bA (MU hS hc ha).2.1 ?_;have go:∀ b:Bool,b=decide (made h a)→Tri (mr h (bn h h.Txns.length) a (kd h a) (lone h a) l (pts h a) b) (fun r=>r=l++wwE h a++rwE h a):=by
  rintro b hb;have a3:(pts h a).2=true→b=decide (made h a):=fun _=>hb;have a5:(pts h a).2=false→b=false:=fun e=>by rw [hb]; exact decide_eq_false (fun h=>by have:=h.1; rw [e] at this; cases this)
  unfold mr;refine bA (Jb hS) ?_
  by_cases hm:made h a
  ·rw [decide_eq_true hm] at hb
   subst hb;refine bX (k0:=0) (pts h a).1.length (fun k s=>s=(l++upE (zm h a) k,(k:Int))) (Nat.zero_le _) (by simp [upE]) ?_;rintro k s hk rfl;have hw:w64 ((k:Int) + 1)=((k + 1:Nat):Int):=aZ (by omega);have hu:=Lx hS (a:=a) (k:=k);have hsu:upE (zm h a) (k + 1)=upE (zm h a) k++zm h a k:=qC;unfold qh
   dsimp only
   refine aA (fun h1 => ?_) (fun h1 => ?_)
   ·have a4:k < (pts h a).1.length:=by omega
    unfold jl
    rw [cond_true,hw]
    have rest:¬ (kd h a=2∧k + 1 < (pts h a).1.length)→Tri (iter (qd a (pts h a) (dwr h a) (k:Int)) (l++upE (zm h a) k,0)) (Upm (pts h a).1.length k (fun k s=>s=(l++upE (zm h a) k,(k:Int))) (fun r:List Edge=>r=l++wwE h a++rwE h a)):=fun hn=>by
     refine bX (k0:=0) (dwr h a).length (fun q s=>s=(l++upE (zm h a) k++upE (fun q=>wwT h a (idx (pts h a).1 (k:Int)) (idx (dwr h a) (q:Int))) q,(q:Int))) (Nat.zero_le _) (by simp [upE]) ?_;rintro q s hq rfl;have a6:w64 ((q:Int) + 1)=((q + 1:Nat):Int):=aZ (by omega);have a7:=yj (f:=fun q=>wwT h a (idx (pts h a).1 (k:Int)) (idx (dwr h a) (q:Int))) (m:=1) (fun q=>Lu) q;have a1:upE (fun q=>wwT h a (idx (pts h a).1 (k:Int)) (idx (dwr h a) (q:Int))) (q + 1)=upE (fun q=>wwT h a (idx (pts h a).1 (k:Int)) (idx (dwr h a) (q:Int))) q++wwT h a (idx (pts h a).1 (k:Int)) (idx (dwr h a) (q:Int)):=qC;unfold qd qc mq
     dsimp only
     rw [hw,a6]
     refine aA (fun h2 => ?_) (fun h2 => ?_)
     ·have a2:q < (dwr h a).length:=by omega
      refine aj (by omega) (bA (KE (by omega)) ?_)
      by_cases h3:idx (dwr h a) (q:Int) ∈ (pts h a).1
      ·rw [decide_eq_true h3,Bool.not_true,cond_false]
       refine ag ⟨a2,?_⟩
       dsimp only
       rw [a1,wwT,if_pos h3,List.append_nil]
      ·rw [decide_eq_false h3,Bool.not_false,cond_true]
       refine aj (by omega) (aj (by simp only [List.length_append]; omega) (ag ⟨a2,?_⟩))
       dsimp only
       rw [a1,wwT,if_neg h3,List.append_assoc]
     ·have:q=(dwr h a).length:=by omega
      subst this;refine aD (ag ⟨a4,?_⟩)
      dsimp only
      rw [hsu,zm,if_neg hn,List.append_assoc]
    unfold qf mq
    rw [hw]
    refine aA (fun h2 => ?_) (fun h2=>by rw [cond_false]; exact rest (fun h=>h2 h.1))
    refine aA (fun h3 => ?_) (fun h3=>rest (fun h=>by omega));refine aj (by omega) (aj (by omega) (aj (by simp only [List.length_append]; omega) (ag ⟨a4,?_⟩)))
    dsimp only
    rw [hsu,zm,if_pos ⟨h2,by omega⟩,List.append_assoc]
   ·have:k=(pts h a).1.length:=by omega
    subst this;unfold jl
    rw [cond_false,Sb hS hc ha a3 a5 (by rw [List.length_append]; omega)]
    refine ag ?_
    show _=_
    rw [wwE,if_pos hm]
  ·rw [decide_eq_false hm] at hb
   subst hb
   rw [BI]
   unfold qh
   dsimp only
   have e:jl h (bn h h.Txns.length) a (kd h a) (lone h a) (pts h a) false (dwr h a) l 0 false=some (.inr (l++rwE h a)):=by
    unfold jl
    rw [cond_false,Sb hS hc ha a3 a5 (by omega)]
   rw [e,Bool.cond_self]
   refine ⟨_,rfl,?_⟩
   rw [wwE,if_neg hm,List.append_nil]
 by_cases h2:(pts h a).2=true
 ·rw [h2,cond_true]
  refine go _ ?_;have e:made h a↔((a.Base.length:Int) > 0):=⟨fun h=>by have:=h.2; omega,fun h=>⟨h2,by omega⟩⟩
  exact (decide_eq_decide.2 e).symm
 ·rw [Bool.not_eq_true] at h2
  rw [h2,cond_false]
  exact go _ (decide_eq_false (fun h=>by have:=h.1; rw [h2] at this; cases this)).symm
theorem Ud (hS:fo h) (hc:aJ h=some 0) {a:Ask} (ha:a ∈ bn h h.Txns.length):av h (bn h h.Txns.length) a=some (Lt h a):=by
 obtain ⟨t,p,hk⟩:=Ex hS ha;have hkd:=RV hk;have e1:=hk.e1;have e2:=hk.e2;have tl:=hk.tl;have pl:=hk.pl;obtain ⟨k1,k8⟩:=Dq hS hk.tl hk.pl;refine eH.1 ?_;unfold av Lt;have hop:(idx (idx h.Txns a.Txn).Ops a.Place).Kind=(opAt h (t:Int) (p:Int)).Kind:=by rw [e1,e2]; rfl
 refine aj (by omega) (aj (by rw [e1]; omega) ?_)
 rw [hop]
 refine bA (Dn k1 k8) ?_
 rw [← hkd]
 refine bA (KF hS hc ha) ?_;unfold oL;have none_:wrE h a=[]→Tri (kD h (bn h h.Txns.length) a (kd h a) (lone h a) []) (fun b=>b=wrE h a++wwE h a++rwE h a):=fun e=>by
  rw [Sc hS hc ha (by simp),e]
  exact ag rfl
 by_cases h1:(lone h a).2=true
 ·rw [h1,cond_true]
  have hp:=Fs.1 ⟨h1,rfl⟩;refine aA (fun h2 => ?_) (fun h2 => ?_)
  ·refine aj (by omega) ?_
   rw [Sc hS hc ha (by simp)]
   have ew:wrE h a=[⟨(lone h a).1,a.Txn,4,a.Key⟩]:=by
    unfold wrE
    rw [hp]
    exact if_neg h2
   rw [ew]
   exact ag rfl
  ·refine none_ ?_;unfold wrE
   rw [hp]
   exact if_pos (Classical.byContradiction h2)
 ·rw [Bool.not_eq_true] at h1
  rw [h1,cond_false,cond_false]
  refine none_ ?_;unfold wrE
  split
  ·rename_i q hq
   rw [uj hq] at h1
   cases h1
  ·rfl
theorem UR (hs:qo h) (hS:fo h) (hc:aJ h=some 0):eT h=some ⟨(h.Txns.length:Int),CW h⟩:=by
 have a2:=hS.len;obtain ⟨i1,_,_⟩:=pG hS h.Txns.length (Nat.le_refl _);refine eH.1 ?_;unfold eT;refine bA (Oe hS) ?_;unfold vT;refine bA (CL hs hS) ?_;refine bX (k0:=0) (bn h h.Txns.length).length (fun k s=>s=(uz h k,(k:Int))) (Nat.zero_le _) (by simp [uz]) ?_;rintro k s hk rfl;have hw:w64 ((k:Int) + 1)=((k + 1:Nat):Int):=aZ (by omega);have hel:=CX hS hc k hk;unfold vR vQ
 dsimp only
 rw [hw]
 refine aA (fun h1 => ?_) (fun h1 => ?_)
 ·have a1:k < (bn h h.Txns.length).length:=by omega
  have ha:=sI a1;have hal:=MV hS hc ha;refine aj (by omega) (bA (Ud hS hc ha) ?_);refine aj (by omega) (ag ⟨a1,?_⟩)
  dsimp only
  rw [BB a1]
 ·have:k=(bn h h.Txns.length).length:=by omega
  subst this;refine aD (ag ?_)
  show dU.mk _ _=_
  unfold uz CW
  rw [List.take_length]
end
end Go.Proofs.YtfpeabnehpclnaaGreatT
namespace Go.Proofs.YtfpeabnehpclnaaGreatT
open Go Go.Proofs Go.Proofs.YtfpeabnehpclnaaGreatE
set_option linter.unusedVariables false
set_option linter.unusedSimpArgs false
set_option maxRecDepth 4096
def wu (N:Int) (e:Edge):Prop:=0≤e.From∧e.From < N∧0≤e.To∧e.To < N∧1≤e.Kind∧e.Kind≤16∧dm .i64 e.Kind (w64 (e.Kind - 1))=0
structure Good (g:dU):Prop where
 n0:0≤g.N
 n1:g.N≤64
 m:g.Edges.length≤262144
 e:∀ k:Nat,k < g.Edges.length→wu g.N (idx g.Edges k)
theorem ones (k:Int) (h1:1≤k) (h2:k≤16):Tri (oZ (IntKind.wrap .u64 k)) (fun c=>(c != 1)=(dm .i64 k (w64 (k - 1)) != 0)):=by
 have h:k=1∨k=2∨k=3∨k=4∨k=5∨k=6∨k=7∨k=8∨k=9∨k=10∨k=11∨k=12∨k=13∨k=14∨k=15∨k=16:=by omega
 have key:∀ n:Fin 17,1≤n.1→(oZ (IntKind.wrap .u64 (n.1:Int))).map (fun c=>(c != 1))=some (dm .i64 (n.1:Int) (w64 ((n.1:Int) - 1)) != 0):=by decide +kernel
 obtain ⟨n,rfl⟩:∃ n:Nat,k=n:=⟨k.toNat,by omega⟩
 have:=key ⟨n,by omega⟩ (by simp; omega)
 simp only at this
 cases hb:oZ (IntKind.wrap .u64 (n:Int)) with
 | none=>rw [hb] at this; cases this
 | some c=>rw [hb] at this; exact ⟨c,rfl,Option.some.inj this⟩
theorem Px (x:Int) (g:dU):qG x g=some (decide (0≤x) && decide (x < g.N)):=by
 unfold qG
 by_cases h:x ≥ 0
 ·have h':0≤x:=h
  simp [h']
 ·have h':¬ 0≤x:=h
  simp [h']
def Told (g:dU) (r:Int):Prop:=(r=0∧Good g)∨(r=60 ∧ ¬ Good g)
theorem Fu {g:dU} {k:Nat} (b:Bool) (hk:k < g.Edges.length) (hm:g.Edges.length≤262144) (hb:b=true → ¬ wu g.N (idx g.Edges k)) (hb':b=false→wu g.N (idx g.Edges k))
  (hJ:∀ i:Nat,i < k→wu g.N (idx g.Edges i)):Tri (kQ (k:Int) b) (Up g.Edges.length k (fun k=>∀ i:Nat,i < k→wu g.N (idx g.Edges i)) (Told g)):=by
 unfold kQ;cases b with
 | true=>exact ⟨_,rfl,Or.inr ⟨rfl,fun hg=>hb rfl (hg.e k hk)⟩⟩
 | false =>
  refine ⟨_,rfl,aZ (by omega),hk,fun i hi => ?_⟩
  by_cases e:i=k
  ·subst e; exact hb' rfl
  ·exact hJ i (by omega)
theorem Gr (g:dU):Tri (dI g) (Told g):=by
 have hj:∀ b:Bool,0≤g.N→g.N≤64→b=decide ((g.Edges.length:Int) > 262144)→Tri (pg g b) (Told g):=by
  intro b h0 h1 hb;unfold pg;refine eO (fun h => ?_) (fun h => ?_)
  ·subst hb;have:(g.Edges.length:Int) > 262144:=of_decide_eq_true h;exact ⟨_,rfl,Or.inr ⟨rfl,fun hg=>by have:=hg.m; omega⟩⟩
  ·subst hb;have hm:¬ (g.Edges.length:Int) > 262144:=of_decide_eq_false h;refine Ey g.Edges.length (fun k=>∀ i:Nat,i < k→wu g.N (idx g.Edges i)) (fun i hi=>by omega) (fun k hk hJ => ?_)
   show Tri (bif decide ((k:Int) < (g.Edges.length:Int)) then _ else _) _
   refine eO (fun h => ?_) (fun h => ?_)
   ·have h:(k:Int) < g.Edges.length:=of_decide_eq_true h;have hk':k < g.Edges.length:=by omega
    refine aj ⟨by omega,h⟩ ?_
    rw [Px,Px]
    refine eO (fun h => ?_) (fun h => ?_)
    ·refine Fu true hk' (by omega) (fun _ ho => ?_) (fun h=>by cases h) hJ
     simp [ho.1,ho.2.1] at h
    ·simp only [Bool.not_eq_false',Bool.and_eq_true,decide_eq_true_eq] at h
     refine eO (fun h' => ?_) (fun h' => ?_)
     ·refine Fu true hk' (by omega) (fun _ ho => ?_) (fun h=>by cases h) hJ
      simp [ho.2.2.1,ho.2.2.2.1] at h'
     ·simp only [Bool.not_eq_false',Bool.and_eq_true,decide_eq_true_eq] at h'
      refine eO (fun h1 => ?_) (fun h1 => ?_)
      ·refine Fu true hk' (by omega) (fun _ ho => ?_) (fun h=>by cases h) hJ;have:=of_decide_eq_true h1;have:=ho.2.2.2.2.1
       omega
      ·refine eO (fun h2 => ?_) (fun h2 => ?_)
       ·refine Fu true hk' (by omega) (fun _ ho => ?_) (fun h=>by cases h) hJ;have:=of_decide_eq_true h2;have:=ho.2.2.2.2.2.1
        omega
       ·have h1:=of_decide_eq_false h1;have h2:=of_decide_eq_false h2;refine dZ (ones _ (by omega) (by omega)) (fun c hc => ?_)
        rw [hc]
        refine Fu _ hk' (by omega) (fun hx ho => ?_) (fun hx => ?_) hJ
        ·have:=ho.2.2.2.2.2.2
         rw [this] at hx
         cases hx
        ·refine ⟨h.1,h.2,h'.1,h'.2,by omega,by omega,?_⟩
         simpa using hx
   ·have h:¬ (k:Int) < g.Edges.length:=of_decide_eq_false h;exact aD ⟨_,rfl,Or.inl ⟨rfl,h0,h1,by omega,fun i hi=>hJ i (by omega)⟩⟩
 unfold dI;refine eO (fun h => ?_) (fun h => ?_)
 ·exact ⟨_,rfl,Or.inr ⟨rfl,fun hg=>by have:=of_decide_eq_true h; have:=hg.n0; omega⟩⟩
 ·have h:=of_decide_eq_false h;refine eO (fun h' => ?_) (fun h' => ?_)
  ·exact ⟨_,rfl,Or.inr ⟨rfl,fun hg=>by have:=of_decide_eq_true h'; have:=hg.n1; omega⟩⟩
  ·have h':=of_decide_eq_false h';exact hj _ (by omega) (by omega) rfl
theorem MX {g:dU} {k:Nat} (b:Bool) (hk:k < g.Edges.length) (hm:g.Edges.length≤262144) (hb:b=true → ¬ wu g.N (idx g.Edges k)) (hb':b=false→wu g.N (idx g.Edges k))
  (hJ:∀ i:Nat,i < k→wu g.N (idx g.Edges i)):Tri (eU (k:Int) b) (Up g.Edges.length k (fun k=>∀ i:Nat,i < k→wu g.N (idx g.Edges i)) (Told g)):=by
 unfold eU;cases b with
 | true=>exact ⟨_,rfl,Or.inr ⟨rfl,fun hg=>hb rfl (hg.e k hk)⟩⟩
 | false =>
  refine ⟨_,rfl,aZ (by omega),hk,fun i hi => ?_⟩
  by_cases e:i=k
  ·subst e; exact hb' rfl
  ·exact hJ i (by omega)
theorem Fv (g:dU):Tri (bB g) (Told g):=by
 have hj:∀ b:Bool,0≤g.N→g.N≤64→b=decide ((g.Edges.length:Int) > 262144)→Tri (jq g b) (Told g):=by
  intro b h0 h1 hb;unfold jq;refine eO (fun h => ?_) (fun h => ?_)
  ·subst hb;have:(g.Edges.length:Int) > 262144:=of_decide_eq_true h;exact ⟨_,rfl,Or.inr ⟨rfl,fun hg=>by have:=hg.m; omega⟩⟩
  ·subst hb;have hm:¬ (g.Edges.length:Int) > 262144:=of_decide_eq_false h;refine Ey g.Edges.length (fun k=>∀ i:Nat,i < k→wu g.N (idx g.Edges i)) (fun i hi=>by omega) (fun k hk hJ => ?_)
   show Tri (bif decide ((k:Int) < (g.Edges.length:Int)) then _ else _) _
   refine eO (fun h => ?_) (fun h => ?_)
   ·have h:(k:Int) < g.Edges.length:=of_decide_eq_true h;have hk':k < g.Edges.length:=by omega
    refine aj ⟨by omega,h⟩ ?_
    have bad:(wu g.N (idx g.Edges (k:Int))→False)→Tri (eU (k:Int) true) (Up g.Edges.length k (fun k=>∀ i:Nat,i < k→wu g.N (idx g.Edges i)) (Told g)) :=
     fun hn=>MX true hk' (by omega) (fun _=>hn) (fun h=>by cases h) hJ
    refine eO (fun h1=>bad fun ho => ?_) (fun h1 => ?_)
    ·have:=of_decide_eq_true h1; have:=ho.1; omega
    refine eO (fun h2=>bad fun ho => ?_) (fun h2 => ?_)
    ·have:=of_decide_eq_true h2; have:=ho.2.1; omega
    refine eO (fun h3=>bad fun ho => ?_) (fun h3 => ?_)
    ·have:=of_decide_eq_true h3; have:=ho.2.2.1; omega
    refine eO (fun h4=>bad fun ho => ?_) (fun h4 => ?_)
    ·have:=of_decide_eq_true h4; have:=ho.2.2.2.1; omega
    refine eO (fun h5=>bad fun ho => ?_) (fun h5 => ?_)
    ·have:=of_decide_eq_true h5; have:=ho.2.2.2.2.1; omega
    refine eO (fun h6=>bad fun ho => ?_) (fun h6 => ?_)
    ·have:=of_decide_eq_true h6; have:=ho.2.2.2.2.2.1; omega
    have h1:=of_decide_eq_false h1;have h2:=of_decide_eq_false h2;have h3:=of_decide_eq_false h3;have h4:=of_decide_eq_false h4;have h5:=of_decide_eq_false h5;have h6:=of_decide_eq_false h6;refine MX _ hk' (by omega) (fun hx ho => ?_) (fun hx => ?_) hJ
    ·have:=ho.2.2.2.2.2.2
     rw [this] at hx
     cases hx
    ·refine ⟨by omega,by omega,by omega,by omega,by omega,by omega,?_⟩
     simpa using hx
   ·have h:¬ (k:Int) < g.Edges.length:=of_decide_eq_false h;exact aD ⟨_,rfl,Or.inl ⟨rfl,h0,h1,by omega,fun i hi=>hJ i (by omega)⟩⟩
 unfold bB;refine eO (fun h => ?_) (fun h => ?_)
 ·exact ⟨_,rfl,Or.inr ⟨rfl,fun hg=>by have:=of_decide_eq_true h; have:=hg.n0; omega⟩⟩
 ·have h:=of_decide_eq_false h;refine eO (fun h' => ?_) (fun h' => ?_)
  ·exact ⟨_,rfl,Or.inr ⟨rfl,fun hg=>by have:=of_decide_eq_true h'; have:=hg.n1; omega⟩⟩
  ·have h':=of_decide_eq_false h';exact hj _ (by omega) (by omega) rfl
theorem Jc (g:dU):(Good g∧dI g=some 0)∨(¬ Good g∧dI g=some 60):=by
 obtain ⟨r,h,h' | h'⟩:=Gr g
 ·exact Or.inl ⟨h'.2,h'.1 ▸ h⟩
 ·exact Or.inr ⟨h'.2,h'.1 ▸ h⟩
theorem LA (g:dU):(Good g∧bB g=some 0)∨(¬ Good g∧bB g=some 60):=by
 obtain ⟨r,h,h' | h'⟩:=Fv g
 ·exact Or.inl ⟨h'.2,h'.1 ▸ h⟩
 ·exact Or.inr ⟨h'.2,h'.1 ▸ h⟩
def Rows (ws:List Int) (n:Nat) (p:Nat→Nat→Prop):Prop:=ws.length=n∧∀ i:Nat,i < n→Wd (idx ws (i:Int)) (p i)
end Go.Proofs.YtfpeabnehpclnaaGreatT
namespace Go.Proofs.YtfpeabnehpclnaaGreatT
open Go Go.Proofs Go.Proofs.YtfpeabnehpclnaaGreatE
set_option linter.unusedVariables false
set_option linter.unusedSimpArgs false
section
variable {S:Type} (ext:S→Int→Option S)
def run (x:S):List Int→Option S
 | []=>some x
 | j::p=>(ext x j).bind fun y=>run y p
variable {ext}
variable (ext)
variable {ext}
structure Vp (S:Type) where
 x:S
 p:List Int
 j:Int
 t:S
def Vp.q (c:Vp S):List Int:=c.p++[c.j]
end
end Go.Proofs.YtfpeabnehpclnaaGreatT
namespace Go.Proofs.YtfpeabnehpclnaaGreatT
open Go Go.Proofs Go.Proofs.YtfpeabnehpclnaaGreatE
set_option linter.unusedVariables false
set_option linter.unusedSimpArgs false
def stp (t l:Int→Int→Bool) (s n:Int) (x:ax) (j:Int):Option ax :=
 if s≤j∧j < n∧(t x.node j=true∨(l x.node j=true∧x.last_=false)) then some ⟨j,!t x.node j,x.first_⟩ else none
def ext (t l:Int→Int→Bool) (s n:Int) (x:ax) (j:Int):Option ax :=
 if x.node < 0 then (stp t l s n ⟨s,false,false⟩ j).map (fun y=>⟨y.node,y.last_,y.last_⟩) else stp t l s n x j
variable {t l:Int→Int→Bool} {s:Int} {n:Nat}
def code (x:ax):Nat:=x.node.toNat * 4 + (if x.last_ then 2 else 0) + (if x.first_ then 1 else 0)
end Go.Proofs.YtfpeabnehpclnaaGreatT
namespace Go.Proofs.YtfpeabnehpclnaaGreatT
open Go Go.Proofs Go.Proofs.YtfpeabnehpclnaaGreatE
set_option linter.unusedVariables false
set_option linter.unusedSimpArgs false
variable {t l:Int→Int→Bool} {s:Int} {n k:Nat}
section
variable {seen:ax→Prop} {lv:List (ax×List Int)} {a:Nat} {j:Int} {m:List (ax×ax)} {nl:List ax} {x y:ax} {p:List Int}
end
end Go.Proofs.YtfpeabnehpclnaaGreatT
namespace Go.Proofs.YtfpeabnehpclnaaGreatT
open Go Go.Proofs Go.Proofs.YtfpeabnehpclnaaGreatE
set_option linter.unusedVariables false
set_option linter.unusedSimpArgs false
set_option linter.unusedSectionVars false
variable {t l:Int→Int→Bool} {s:Int} {n k:Nat}
def gt (w:List (Int×Int)) (i:Int) (b:Bool):Int:=if b then (idx w i).2 else (idx w i).1
theorem Sd {α:Type} [Inhabited α] {xs:List α} {i j:Int} {v:α} (h0:0≤i) (h1:i < xs.length) (hj:0≤j):idx (xs.set i.toNat v) j=if j=i then v else idx xs j:=by
 have:=Py (xs:=xs) (v:=v) (j:=j.toNat) h0 h1
 rw [Int.toNat_of_nonneg hj] at this
 exact this
section
variable {f:Bool}
variable {a:sM}
end
end Go.Proofs.YtfpeabnehpclnaaGreatT
namespace Go.Proofs.YtfpeabnehpclnaaGreatT
open Go Go.Proofs Go.Proofs.YtfpeabnehpclnaaGreatE
set_option linter.unusedVariables false
set_option linter.unusedSimpArgs false
set_option linter.unusedSectionVars false
variable {t l:Int→Int→Bool} {s:Int} {n k:Nat} {f:Bool}
variable {a:sM}
end Go.Proofs.YtfpeabnehpclnaaGreatT
namespace Go.Proofs.YtfpeabnehpclnaaGreatT
open Go Go.Proofs Go.Proofs.YtfpeabnehpclnaaGreatE
set_option linter.unusedVariables false
set_option linter.unusedSimpArgs false
set_option linter.unusedSectionVars false
variable {t l:Int→Int→Bool} {s:Int} {n k:Nat} {f:Bool}
variable {a:sM}
end Go.Proofs.YtfpeabnehpclnaaGreatT
namespace Go.Proofs.YtfpeabnehpclnaaGreatT
open Go Go.Proofs Go.Proofs.YtfpeabnehpclnaaGreatE
set_option linter.unusedVariables false
set_option linter.unusedSimpArgs false
set_option linter.unusedSectionVars false
variable {t l:Int→Int→Bool} {n k:Nat} {c:Nat→Int}
variable {s:Int}
end Go.Proofs.YtfpeabnehpclnaaGreatT
namespace Go.Proofs.YtfpeabnehpclnaaGreatT
open Go Go.Proofs Go.Proofs.YtfpeabnehpclnaaGreatE
set_option linter.unusedVariables false
set_option linter.unusedSimpArgs false
set_option linter.unusedSectionVars false
def UJ (g:dU) (mask i j:Int) (k:Nat):Prop:=(idx g.Edges (k:Int)).From=i∧(idx g.Edges (k:Int)).To=j∧dm .i64 (idx g.Edges (k:Int)).Kind mask≠0
instance (g:dU) (mask i j:Int) (k:Nat):Decidable (UJ g mask i j k):=by unfold UJ; infer_instance
variable {t l:Int→Int→Bool} {n k:Nat}
end Go.Proofs.YtfpeabnehpclnaaGreatT
namespace Go.Proofs.YtfpeabnehpclnaaGreatT
open Go Go.Proofs Go.Proofs.YtfpeabnehpclnaaGreatE
set_option linter.unusedVariables false
set_option linter.unusedSimpArgs false
set_option linter.unusedSectionVars false
theorem Jd {x m:Nat} (hx:x < m) (hm:m < 2 ^ 62):(w64 ((x:Int) + 1)).tmod (m:Int)=(((x + 1) % m:Nat):Int):=by
 rw [cZ (by omega) (by omega)]
 rfl
variable {g:dU} {d r:Int} {n:Nat}
end Go.Proofs.YtfpeabnehpclnaaGreatT
namespace Go.Proofs.YtfpeabnehpclnaaGreatT
open Go Go.Proofs Go.Proofs.YtfpeabnehpclnaaGreatE
set_option linter.unusedVariables false
set_option linter.unusedSimpArgs false
set_option linter.unusedSectionVars false
variable {t l:Int→Int→Bool} {n k:Nat}
structure Keys (n:Nat) (m:List (Int×Int)):Prop where
 nd:(m.map (·.1)).Nodup
 node:∀ x ∈ m.map (·.1),0≤x∧x < (n:Int)
end Go.Proofs.YtfpeabnehpclnaaGreatT
namespace Go.Proofs.YtfpeabnehpclnaaGreatT
open Go Go.Proofs Go.Proofs.YtfpeabnehpclnaaGreatE
set_option linter.unusedVariables false
set_option linter.unusedSimpArgs false
set_option linter.unusedSectionVars false
variable {t l:Int→Int→Bool} {n k:Nat} {e:Int}
variable {a:sM}
end Go.Proofs.YtfpeabnehpclnaaGreatT
namespace Go.Proofs.YtfpeabnehpclnaaGreatT
open Go Go.Proofs Go.Proofs.YtfpeabnehpclnaaGreatE
set_option linter.unusedVariables false
set_option linter.unusedSimpArgs false
set_option linter.unusedSectionVars false
variable {t l:Int→Int→Bool} {n:Nat}
variable {g:dU} {d r:Int}
end Go.Proofs.YtfpeabnehpclnaaGreatT
namespace Go.Proofs.YtfpeabnehpclnaaGreatT
open Go Go.Proofs Go.Proofs.YtfpeabnehpclnaaGreatE
set_option linter.unusedVariables false
set_option linter.unusedSimpArgs false
set_option linter.unusedSectionVars false
set_option maxHeartbeats 4000000
def nxt (c:List Edge) (i:Nat):Edge:=idx c (((i + 1) % c.length:Nat):Int)
def inM (e:Edge) (m:Int):Prop:=dm .i64 e.Kind m≠0
def Gs (d r rule:Int) (i:Nat) (e e':Edge):Prop:=(rule=1∧inM e d)∨(rule=2∧((i=0∧inM e r)∨(0 < i∧inM e d)))∨(rule=3∧(inM e d∨(inM e r∧inM e' d)))
structure Ht (g:dU) (c:List Edge) (d r rule:Int) (i:Nat):Prop where
 here:∃ k:Nat,k < g.Edges.length∧idx g.Edges (k:Int)=idx c (i:Int)
 next:(idx c (i:Int)).To=(nxt c i).From
 rule:Gs d r rule i (idx c (i:Int)) (nxt c i)
structure yS (g:dU) (c:List Edge) (d r rule:Int):Prop where
 good:Good g
 ne:c≠[]
 ok:∀ i,i < c.length→Ht g c d r rule i
 nd:∀ i j:Nat,i < c.length→j < c.length→(idx c (i:Int)).From=(idx c (j:Int)).From→i=j
theorem Ig {c:List Edge} {x:Nat} (hx:x < c.length) (hm:c.length < 2 ^ 62):idx c ((w64 ((x:Int) + 1)).tmod (c.length:Int))=nxt c x:=by
 rw [Jd hx hm]
 rfl
theorem Je {κ ν:Type} [DecidableEq κ]:∀ {m:List (κ×ν)} {x:κ} {v:ν},kZ m x=true→(iB m x v).length=m.length
 | [],x,v,h=>by simp [kZ] at h
 | p::m,x,v,h=>by
  unfold iB
  split
  ·simp
  ·rename_i e
   have:kZ m x=true:=by unfold kZ at h ⊢; simpa [e] using h
   simp [Je this]
theorem Jf {κ ν:Type} [DecidableEq κ]:∀ {m:List (κ×ν)} {x:κ} {v:ν},kZ m x=false→(iB m x v).length=m.length + 1
 | [],x,v,h=>rfl
 | p::m,x,v,h=>by
  unfold iB
  split
  ·rename_i e
   unfold kZ at h
   simp [e] at h
  ·rename_i e
   have:kZ m x=false:=by unfold kZ at h ⊢; simpa [e] using h
   simp [Jf this]
theorem Jg (g:dU) (c:List Edge) (d r rule:Int) (hc:c.length < 2 ^ 62):Tri (di g c d r rule) (fun b=>b=true↔yS g c d r rule):=by
 unfold di;rcases Jc g with ⟨hg,e⟩ | ⟨hg,e⟩
 ·rw [e]
  refine dA ?_
  simp only [bne_self_eq_false,cond_false]
  have hm:=hg.m;unfold xV;refine eO (fun h => ?_) (fun h => ?_)
  ·have:(c.length:Int)=0:=by simpa using h
   exact ag ⟨fun h=>(nomatch h),fun h=>absurd (List.eq_nil_of_length_eq_zero (by omega)) h.ne⟩
  ·have hne:c≠[]:=by intro e; rw [e] at h; simp at h
   have hpos:0 < c.length:=List.length_pos_iff.2 hne;refine yl g.Edges.length (fun k m=>∀ e:Edge,kZ m e=true↔∃ i:Nat,i < k∧idx g.Edges (i:Int)=e) (fun e=>by simp [kZ]) ?_;rintro k m hk hK;unfold Bg
   dsimp only
   refine eO (fun e => ?_) (fun e => ?_)
   ·have e:k < g.Edges.length:=by simpa using e
    refine aj (by omega) (ag ?_)
    rw [cZ (by omega) (by omega)]
    refine ⟨by omega,e,fun e2 => ?_⟩
    rw [AX,hK]
    constructor
    ·rintro (h1 | ⟨i,h1,h2⟩)
     ·exact ⟨k,by omega,h1.symm⟩
     ·exact ⟨i,by omega,h2⟩
    ·rintro ⟨i,h1,h2⟩
     by_cases e3:i=k
     ·subst e3; exact .inl h2.symm
     ·exact .inr ⟨i,by omega,h2⟩
   ·have e:¬ k < g.Edges.length:=by simpa using e
    obtain rfl:k=g.Edges.length:=by omega
    refine yl c.length (fun x m=>(∀ i,i < x→Ht g c d r rule i)∧(∀ y,kZ m y=true↔∃ i:Nat,i < x∧(idx c (i:Int)).From=y)∧m.length≤x∧(m.length=x↔∀ i j:Nat,i < x→j < x→(idx c (i:Int)).From=(idx c (j:Int)).From→i=j)) ⟨fun i h=>absurd h (Nat.not_lt_zero _),fun y=>by simp [kZ],Nat.le_refl _,by simp⟩ ?_
    rintro x nm hx ⟨hok,hkeys,hle,hnd⟩;unfold Bf
    dsimp only
    refine eO (fun e => ?_) (fun e => ?_)
    ·have e:x < c.length:=by simpa using e
     have bad:¬ Ht g c d r rule x→Tri (out (out (some false)):Option (((List (Int×Unit))×Int) ⊕ (((List (Edge×Unit))×Int) ⊕ Bool))) (Up2 c.length x (fun x m=>(∀ i,i < x→Ht g c d r rule i)∧(∀ y,kZ m y=true↔∃ i:Nat,i < x∧(idx c (i:Int)).From=y)∧m.length≤x∧(m.length=x↔∀ i j:Nat,i < x→j < x→(idx c (i:Int)).From=(idx c (j:Int)).From→i=j))
       (Up2 g.Edges.length g.Edges.length (fun k m=>∀ e:Edge,kZ m e=true↔∃ i:Nat,i < k∧idx g.Edges (i:Int)=e) (fun b=>b=true↔yS g c d r rule))):=fun h=>aD (aD (ag ⟨fun h=>(nomatch h),fun hf=>absurd (hf.ok x e) h⟩))
     have good:Ht g c d r rule x→Tri (sZ c nm (x:Int)) (Up2 c.length x (fun x m=>(∀ i,i < x→Ht g c d r rule i)∧(∀ y,kZ m y=true↔∃ i:Nat,i < x∧(idx c (i:Int)).From=y)∧m.length≤x∧(m.length=x↔∀ i j:Nat,i < x→j < x→(idx c (i:Int)).From=(idx c (j:Int)).From→i=j))
       (Up2 g.Edges.length g.Edges.length (fun k m=>∀ e:Edge,kZ m e=true↔∃ i:Nat,i < k∧idx g.Edges (i:Int)=e) (fun b=>b=true↔yS g c d r rule))):=by
      intro a1;unfold sZ
      rw [cZ (by omega) (by omega)]
      refine ag ⟨by omega,e,fun i hi => ?_,fun y => ?_,?_,?_⟩
      ·rcases Nat.lt_or_ge i x with h | h
       ·exact hok i h
       ·rw [show i=x by omega]; exact a1
      ·rw [AX,hkeys]
       constructor
       ·rintro (h1 | ⟨i,h1,h2⟩)
        ·exact ⟨x,by omega,h1.symm⟩
        ·exact ⟨i,by omega,h2⟩
       ·rintro ⟨i,h1,h2⟩
        by_cases e3:i=x
        ·subst e3; exact .inl h2.symm
        ·exact .inr ⟨i,by omega,h2⟩
      ·cases hh:kZ nm (idx c (x:Int)).From with
       | true=>rw [Je hh]; omega
       | false=>rw [Jf hh]; omega
      ·cases hh:kZ nm (idx c (x:Int)).From with
       | true =>
        rw [Je hh]
        obtain ⟨i,h1,h2⟩:=(hkeys _).1 hh
        constructor
        ·intro h; omega
        ·intro h;have:=h i x (by omega) (by omega) h2
         omega
       | false =>
        rw [Jf hh]
        have hno:∀ i:Nat,i < x→(idx c (i:Int)).From≠(idx c (x:Int)).From:=fun i h1 h2=>by
         rw [(hkeys _).2 ⟨i,h1,h2⟩] at hh; cases hh
        constructor
        ·intro h i j h1 h2 h3;have h4:=hnd.1 (by omega);rcases Nat.lt_or_ge i x with h5 | h5
         ·rcases Nat.lt_or_ge j x with h6 | h6
          ·exact h4 i j h5 h6 h3
          ·obtain rfl:j=x:=by omega
           exact absurd h3 (hno i h5)
         ·obtain rfl:i=x:=by omega
          rcases Nat.lt_or_ge j i with h6 | h6
          ·exact absurd h3.symm (hno j h6)
          ·omega
        ·intro h
         rw [hnd.2 fun i j h1 h2 h3=>h i j (by omega) (by omega) h3]
     refine aj (by omega) (aj (by omega) (aj (by rw [Jd e hc]; have:=Nat.mod_lt (x + 1) hpos; omega) ?_))
     rw [Ig e hc]
     have hhere:=hK (idx c (x:Int));unfold xU pV vK
     rw [Ig e hc]
     have okI:∀ {P:Prop},(¬ P→False)→P:=fun h=>Classical.byContradiction h
     simp only [cond_true]
     repeat' (first | with_reducible refine aA (fun hq => ?_) (fun hq => ?_) | with_reducible refine bad ?_ | with_reducible refine good ?_)
     all_goals first
      | (intro hO; obtain ⟨h1,h2,h3⟩:=hO; unfold Gs inM at h3; grind)
      | (refine ⟨?_,?_,?_⟩ <;> (try unfold Gs inM) <;> grind)
    ·have e:¬ x < c.length:=by simpa using e
     obtain rfl:x=c.length:=by omega
     refine aD (aD (ag ?_))
     show ((nm.length:Int) == (c.length:Int))=true↔yS g c d r rule
     rw [beq_iff_eq,Int.ofNat_inj,hnd]
     exact ⟨fun h=>⟨hg,hne,hok,h⟩,fun h=>h.nd⟩
 ·rw [e]
  refine dA ?_;exact ag ⟨fun h=>(nomatch h),fun h=>absurd h.good hg⟩
theorem Ue (a b:Edge):((a.From == b.From) && ((a.To == b.To) && ((a.Kind == b.Kind) && ((a.Key == b.Key) && true))))=decide (a=b):=by
 obtain ⟨a1,a2,a3,a4⟩:=a;obtain ⟨b1,b2,b3,b4⟩:=b
 rw [Bool.eq_iff_iff]
 simp
theorem JY (g:dU) (c:List Edge) (d r rule:Int) (hc:c.length < 2 ^ 62):Tri (aB g c d r rule) (fun b=>b=true↔yS g c d r rule):=by
 unfold aB;rcases LA g with ⟨hg,e⟩ | ⟨hg,e⟩
 ·rw [e]
  refine dA ?_
  simp only [bne_self_eq_false,cond_false]
  have hm:=hg.m;have h0:=hg.n0;have h1:=hg.n1;have no:¬ yS g c d r rule→Tri (iW g c d r rule true) (fun b=>b=true↔yS g c d r rule):=fun h=>ag ⟨fun h=>(nomatch h),fun hf=>absurd hf h⟩;have rl:yS g c d r rule→rule=1∨rule=2∨rule=3:=by
   intro h;have:=(h.ok 0 (List.length_pos_iff.2 h.ne)).rule;unfold Gs at this;rcases this with h | h | h
   ·exact .inl h.1
   ·exact .inr (.inl h.1)
   ·exact .inr (.inr h.1)
  refine eO (fun h=>no fun hf=>hf.ne (List.eq_nil_of_length_eq_zero (Int.natCast_eq_zero.1 (by simpa using h)))) (fun h => ?_);have hne:c≠[]:=by intro e; rw [e] at h; simp at h
  have hpos:0 < c.length:=List.length_pos_iff.2 hne;refine eO (fun h=>no fun hf=>(fun (q1:rule < 1) q2=>by omega) (by simpa using h) (rl hf)) (fun a2 => ?_);have a2:¬ rule < 1:=by simpa using a2
  cases a1:decide (rule > 3) with
  | true=>exact no fun hf=>(fun (q1:rule > 3) q2=>by omega) (by simpa using a1) (rl hf)
  | false =>
   have a1:¬ rule > 3:=by simpa using a1
   unfold iW
   rw [cond_false]
   refine aj (by omega) ?_;refine yl c.length (fun x l=>(∀ i,i < x→Ht g c d r rule i)∧l.length=g.N.toNat∧(∀ y:Int,0≤y→y < g.N→(idx l y=true↔∃ i:Nat,i < x∧(idx c (i:Int)).From=y))∧∀ i j:Nat,i < x→j < x→(idx c (i:Int)).From=(idx c (j:Int)).From→i=j) ⟨fun i h=>absurd h (Nat.not_lt_zero _),by simp,fun y h2 h3 => ?_,fun i j h=>absurd h (Nat.not_lt_zero _)⟩ ?_
   ·rw [show y=(y.toNat:Int) by omega,Ur]
    exact ⟨fun h=>(nomatch h),fun ⟨i,hi,_⟩=>absurd hi (Nat.not_lt_zero _)⟩
   rintro x l hx ⟨hok,hll,hkeys,hnd⟩;unfold uf
   dsimp only
   refine eO (fun e => ?_) (fun e => ?_)
   ·have e:x < c.length:=by simpa using e
    refine yl g.Edges.length (fun k b=>b=true↔∃ i:Nat,i < k∧idx g.Edges (i:Int)=idx c (x:Int)) (by simp) ?_;rintro k b hk hb;have bad:∀ a4:Bool,(¬ Ht g c d r rule x∨∃ i,i < x∧(idx c (i:Int)).From=(idx c (x:Int)).From)→Tri (out (out (some false)):Option ((Bool×Int) ⊕ (((List Bool)×Int) ⊕ Bool))) (Up2 g.Edges.length k (fun k b=>b=true↔∃ i:Nat,i < k∧idx g.Edges (i:Int)=idx c (x:Int))
      (Up2 c.length x (fun x l=>(∀ i,i < x→Ht g c d r rule i)∧l.length=g.N.toNat∧(∀ y:Int,0≤y→y < g.N→(idx l y=true↔∃ i:Nat,i < x∧(idx c (i:Int)).From=y))∧∀ i j:Nat,i < x→j < x→(idx c (i:Int)).From=(idx c (j:Int)).From→i=j) (fun b=>b=true↔yS g c d r rule))):=by
     intro _ h;refine aD (aD (ag ⟨fun h=>(nomatch h),fun hf => ?_⟩));rcases h with h | ⟨i,h2,h3⟩
     ·exact absurd (hf.ok x e) h
     ·have:=hf.nd i x (by omega) e h3
      omega
    have fin:(b=true∨k=g.Edges.length)→Tri (jS g c d r rule l (x:Int) b (k:Int) false) (Up2 g.Edges.length k (fun k b=>b=true↔∃ i:Nat,i < k∧idx g.Edges (i:Int)=idx c (x:Int))
      (Up2 c.length x (fun x l=>(∀ i,i < x→Ht g c d r rule i)∧l.length=g.N.toNat∧(∀ y:Int,0≤y→y < g.N→(idx l y=true↔∃ i:Nat,i < x∧(idx c (i:Int)).From=y))∧∀ i j:Nat,i < x→j < x→(idx c (i:Int)).From=(idx c (j:Int)).From→i=j) (fun b=>b=true↔yS g c d r rule))):=by
     intro hfin;have hhere:b=true↔∃ i:Nat,i < g.Edges.length∧idx g.Edges (i:Int)=idx c (x:Int):=by
      rw [hb]
      constructor
      ·rintro ⟨i,h2,h3⟩; exact ⟨i,by omega,h3⟩
      ·rintro ⟨i,h2,h3⟩;rcases hfin with h4 | h4
       ·exact hb.1 h4
       ·exact ⟨i,by omega,h3⟩
     unfold jS
     rw [cond_false]
     refine aj (by omega) (aj (by rw [Jd e hc]; have:=Nat.mod_lt (x + 1) hpos; omega) ?_)
     rw [Ig e hc]
     cases b with
     | false =>
      rw [Bool.not_false,cond_true]
      exact bad true (.inl fun h=>by obtain ⟨k,h2,h3⟩:=h.here; have:=hhere.2 ⟨k,h2,h3⟩; cases this)
     | true =>
      rw [Bool.not_true,cond_false]
      obtain ⟨ke,hke,hee⟩:=hhere.1 rfl;have hedge:=hg.e ke hke
      rw [hee] at hedge
      unfold wu at hedge;clear hhere;have hbd:0≤(x:Int)∧(x:Int) < (c.length:Int):=by omega
      have hbf:0≤(idx c (x:Int)).From∧(idx c (x:Int)).From < (l.length:Int):=by omega
      refine aj hbd (aj hbf ?_);have good:Ht g c d r rule x→(¬ ∃ i:Nat,i < x∧(idx c (i:Int)).From=(idx c (x:Int)).From)→Tri (gp c l (x:Int) false) (Up2 g.Edges.length k (fun k b=>b=true↔∃ i:Nat,i < k∧idx g.Edges (i:Int)=idx c (x:Int))
        (Up2 c.length x (fun x l=>(∀ i,i < x→Ht g c d r rule i)∧l.length=g.N.toNat∧(∀ y:Int,0≤y→y < g.N→(idx l y=true↔∃ i:Nat,i < x∧(idx c (i:Int)).From=y))∧∀ i j:Nat,i < x→j < x→(idx c (i:Int)).From=(idx c (j:Int)).From→i=j) (fun b=>b=true↔yS g c d r rule))):=by
       intro a3 hno;unfold gp
       rw [cond_false,cZ (by omega) (by omega)]
       refine aD (ag ⟨by omega,e,fun i hi => ?_,by rw [List.length_set]; exact hll,fun y h2 h3 => ?_,fun i j h2 h3 h4 => ?_⟩)
       ·rcases Nat.lt_or_ge i x with h | h
        ·exact hok i h
        ·rw [show i=x by omega]; exact a3
       ·rw [Sd hedge.1 (by omega) h2]
        split
        ·rename_i h4
         exact ⟨fun _=>⟨x,by omega,h4.symm⟩,fun _=>rfl⟩
        ·rename_i h4
         rw [hkeys y h2 h3]
         constructor
         ·rintro ⟨i,h5,h6⟩; exact ⟨i,by omega,h6⟩
         ·rintro ⟨i,h5,h6⟩;refine ⟨i,?_,h6⟩;have:i≠x:=fun h=>by subst h; exact h4 h6.symm
          omega
       ·rcases Nat.lt_or_ge i x with h5 | h5
        ·rcases Nat.lt_or_ge j x with h6 | h6
         ·exact hnd i j h5 h6 h4
         ·obtain rfl:j=x:=by omega
          exact absurd ⟨i,h5,h4⟩ hno
        ·obtain rfl:i=x:=by omega
         rcases Nat.lt_or_ge j i with h6 | h6
         ·exact absurd ⟨j,h6,h4.symm⟩ hno
         ·omega
      unfold lI oM lH iV
      rw [Ig e hc]
      simp only [cond_true,cond_false]
      have hkx:=hkeys (idx c (x:Int)).From hedge.1 hedge.2.1;have unf:∀ b:Bool,gp c l (x:Int) b=bif b then out (out (some false)) else gp c l (x:Int) false:=by
       intro b;cases b <;> rfl
      repeat' (first | with_reducible refine aA (fun hq => ?_) (fun hq => ?_) | with_reducible refine bad true ?_ | with_reducible refine good ?_ ?_ | with_reducible refine aj hbd ?_ | with_reducible refine aj hbf ?_ | (rw [unf]; with_reducible refine aA (fun hq => ?_) (fun hq => ?_)) )
      all_goals first
       | (left; intro hO; obtain ⟨h1,h2,h3⟩:=hO; unfold Gs inM at h3; grind)
       | (right; exact hkx.1 (by assumption))
       | (refine ⟨?_,?_,?_⟩ <;> (try unfold Gs inM) <;> grind)
       | (intro hO; exact absurd (hkx.2 hO) (by assumption))
       | grind
    unfold tZ
    dsimp only
    refine eO (fun ek => ?_) (fun ek => ?_)
    ·have ek:k < g.Edges.length:=by simpa using ek
     cases hbb:b with
     | true=>rw [hbb] at fin; exact fin (.inl rfl)
     | false =>
      unfold jS
      simp only [Bool.not_false,cond_true]
      refine aj (by omega) (aj (by omega) (ag ?_))
      rw [cZ (by omega) (by omega),Ue]
      refine ⟨by omega,ek,?_⟩
      show decide (idx g.Edges (k:Int)=idx c (x:Int))=true↔∃ i:Nat,i < k + 1∧idx g.Edges (i:Int)=idx c (x:Int)
      rw [decide_eq_true_iff]
      rw [hbb] at hb
      constructor
      ·intro h; exact ⟨k,by omega,h⟩
      ·rintro ⟨i,h2,h3⟩
       by_cases h4:i=k
       ·subst h4; exact h3
       ·have:=hb.2 ⟨i,by omega,h3⟩; cases this
    ·have ek:¬ k < g.Edges.length:=by simpa using ek
     exact fin (.inr (by omega))
   ·have e:¬ x < c.length:=by simpa using e
    obtain rfl:x=c.length:=by omega
    exact aD (ag ⟨fun _=>⟨hg,hne,hok,hnd⟩,fun _=>rfl⟩)
 ·rw [e]
  refine dA ?_;exact ag ⟨fun h=>(nomatch h),fun h=>absurd h.good hg⟩
end Go.Proofs.YtfpeabnehpclnaaGreatT
namespace Go.Proofs.YtfpeabnehpclnaaGreatT
open Go Go.Proofs Go.Proofs.YtfpeabnehpclnaaGreatE
set_option linter.unusedVariables false
set_option linter.unusedSimpArgs false
section
variable {h:History}
def cOf (k:Int):Int×Int×Int×Int:=if k=3 then (1,13,0,1) else if k=4 then (4,5,16,2) else if k=5 then (6,13,16,3) else if k=6 then (7,29,0,1) else (8,31,0,1)
noncomputable abbrev gr (h:History):dU:=⟨(h.Txns.length:Int),CW h⟩
noncomputable abbrev KG (h:History):List Ask:=empties h (bn h h.Txns.length)
structure MZ (h:History) (b:dz):Prop where
 lo:3≤b.Kind
 hi:b.Kind≤7
 lv:b.Level=(cOf b.Kind).1
 sp:b.Spot=⟨0,0⟩
 fit:yS (gr h) b.Cycle (cOf b.Kind).2.1 (cOf b.Kind).2.2.1 (cOf b.Kind).2.2.2
def Jh (h:History) (b:dz):Prop :=
 (b.Kind=1∧b.Level=1∧b.Cycle=[]∧b.Spot ∈ nX h h.Txns.length) ∨
 (b.Kind=2∧b.Level=1∧b.Cycle=[]∧∃ a ∈ KG h,a.Txn=b.Spot.Txn∧a.Place=b.Spot.Place)∨MZ h b
theorem Oi (hs:qo h) (hS:fo h) (hv:aJ h=some 0):sW h=some (KG h,0):=by
 have a1:=hS.len;obtain ⟨i1,_,_⟩:=pG hS h.Txns.length (Nat.le_refl _);have hA:mh h=some (bn h h.Txns.length,0):=by unfold mh; rw [Fg hs hS hv]; rfl
 unfold sW
 rw [hA]
 show (bM _ h).bind _=_
 rw [MQ hS hv (fun a ha=>ha) (by omega)]
 rfl
theorem KH (hS:fo h):(KG h).length≤512:=by
 have a1:=hS.len;obtain ⟨i1,_,_⟩:=pG hS h.Txns.length (Nat.le_refl _);exact Nat.le_trans (List.length_filter_le _ _) (by omega)
theorem Sg (hs:qo h) (hS:fo h) (hv:aJ h=some 0):yo h=some (nX h h.Txns.length,0):=by unfold yo; rw [Fg hs hS hv]; rfl
theorem KI (hS:fo h):(nX h h.Txns.length).length≤512:=by
 have a1:=hS.len;obtain ⟨_,i1,_⟩:=pG hS h.Txns.length (Nat.le_refl _)
 omega
theorem Ih {a b:Spot}:(a.Txn=b.Txn∧a.Place=b.Place)↔a=b:=by
 obtain ⟨a1,a2⟩:=a;obtain ⟨b1,b2⟩:=b
 simp
theorem Na {l:List Spot} {j:Nat} (hj:j < l.length):idx l (j:Int) ∈ l:=by rw [dJ (n:=j) rfl hj]; exact List.getElem_mem _
theorem Nb {l:List Spot} {v:Spot} (hl:l.length < 2 ^ 60):Tri (kP l v) (fun r=>r=true↔v ∈ l):=by
 have h1:Tri (ik l v) (fun r=>0≤r↔v ∈ l):=by
  unfold ik;refine bX (k0:=0) l.length (fun k s=>s=(k:Int)∧∀ j:Nat,j < k→v≠idx l (j:Int)) (Nat.zero_le _) ⟨rfl,fun j h=>absurd h (Nat.not_lt_zero _)⟩ ?_;rintro k s hk ⟨rfl,hno⟩;have hw:w64 ((k:Int) + 1)=((k + 1:Nat):Int):=aZ (by omega);unfold rW
  dsimp only
  rw [hw]
  refine aA (fun h1 => ?_) (fun h1 => ?_)
  ·have a1:k < l.length:=by omega
   refine aj (by omega) ?_;refine aA (fun h2 => ?_) (fun h2 => ?_)
   ·refine aD (ag ⟨fun _ => ?_,fun _=>by omega⟩)
    rw [Ih.1 ⟨h2.1,h2.2.1⟩]
    exact Na a1
   ·refine ag ⟨a1,rfl,fun j hj => ?_⟩;rcases Nat.lt_or_ge j k with h3 | h3
    ·exact hno j h3
    ·have:j=k:=by omega
     subst this;exact fun e=>h2 (by rw [e]; exact ⟨rfl,rfl,trivial⟩)
  ·have:k=l.length:=by omega
   subst this;refine aD (ag ⟨fun h=>absurd h (by decide),fun h => ?_⟩);obtain ⟨j,hj,e⟩:=List.getElem_of_mem h;exact absurd (e.symm.trans (dJ rfl hj).symm) (hno j hj)
 unfold kP;refine dZ h1 (fun r hr=>ag ?_)
 rw [decide_eq_true_iff]
 exact hr
theorem Oj {l:List Ask} {b:dz} (hl:l.length < 2 ^ 60):Tri (fe l b) (fun r=>r=true↔∃ a ∈ l,a.Txn=b.Spot.Txn∧a.Place=b.Spot.Place):=by
 have h1:Tri (dn l b) (fun r=>0≤r↔∃ a ∈ l,a.Txn=b.Spot.Txn∧a.Place=b.Spot.Place):=by
  unfold dn;refine bX (k0:=0) l.length (fun k s=>s=(k:Int)∧∀ j:Nat,j < k → ¬ ((idx l (j:Int)).Txn=b.Spot.Txn∧(idx l (j:Int)).Place=b.Spot.Place)) (Nat.zero_le _) ⟨rfl,fun j h=>absurd h (Nat.not_lt_zero _)⟩ ?_;rintro k s hk ⟨rfl,hno⟩;have hw:w64 ((k:Int) + 1)=((k + 1:Nat):Int):=aZ (by omega);unfold iT xS
  dsimp only
  rw [hw]
  refine aA (fun h1 => ?_) (fun h1 => ?_)
  ·have a1:k < l.length:=by omega
   refine aj (by omega) (dA ?_);refine aA (fun h2 => ?_) (fun h2 => ?_)
   ·exact aD (ag ⟨fun _=>⟨_,sI a1,h2.1,h2.2.1⟩,fun _=>by omega⟩)
   ·refine ag ⟨a1,rfl,fun j hj => ?_⟩;rcases Nat.lt_or_ge j k with h3 | h3
    ·exact hno j h3
    ·have:j=k:=by omega
     subst this;exact fun e=>h2 ⟨e.1,e.2,trivial⟩
  ·have:k=l.length:=by omega
   subst this;refine aD (ag ⟨fun h=>absurd h (by decide),?_⟩);rintro ⟨a,ha,q⟩;obtain ⟨j,hj,e⟩:=List.getElem_of_mem ha;exact absurd (by rw [dJ (n:=j) rfl hj,e]; exact q) (hno j hj)
 unfold fe;refine dZ h1 (fun r hr=>ag ?_)
 rw [decide_eq_true_iff]
 exact hr
theorem Vq {b:dz} {s:fU} (hk:s.kind≠b.Kind):kH h b (.inl ()) s=some (true,.inl ()):=by
 unfold kH
 dsimp only
 rw [show (s.kind == b.Kind)=false by rw [beq_eq_false_iff_ne]; exact hk]
 rfl
theorem Ji (hs:qo h) (hS:fo h) (hc:aJ h=some 0) {b:dz} (hb:b.Cycle.length < 2 ^ 62) {s:fU} (hk:s.kind=b.Kind) :
  ∃ r,kH h b (.inl ()) s=some (false,.inr r)∧(r=true↔b.Level=s.level∧b.Spot=⟨0,0⟩∧yS (gr h) b.Cycle s.d s.r s.rule):=by
 suffices hT:Tri (kH h b (.inl ()) s) (fun z=>∃ r,z=(false,.inr r)∧(r=true↔b.Level=s.level∧b.Spot=⟨0,0⟩∧yS (gr h) b.Cycle s.d s.r s.rule)) by
  obtain ⟨z,e,r,rfl,hr⟩:=hT;exact ⟨r,e,hr⟩
 unfold kH
 dsimp only
 refine aA (fun _ => ?_) (fun h=>absurd hk h);refine bA (Oh hs hS hc) ?_;refine aA (fun _ => ?_) (fun h=>absurd rfl h);refine aA (fun q1 => ?_) (fun q1=>ag ⟨_,rfl,fun h=>(nomatch h),fun h=>absurd h.1 q1⟩);have e0:(b.Spot.Txn=0∧b.Spot.Place=0∧True)↔b.Spot=⟨0,0⟩:=by rw [and_true]; exact Ih (b:=⟨0,0⟩)
 refine aA (fun q2 => ?_) (fun q2=>ag ⟨_,rfl,fun h=>(nomatch h),fun h=>absurd (e0.2 h.2.1) q2⟩);refine dZ (Jg _ _ _ _ _ hb) (fun r hr=>ag ⟨r,rfl,hr.trans ⟨fun h=>⟨q1,e0.1 q2,h⟩,fun h=>h.2.2⟩⟩)
theorem MZ.of {b:dz} {l d r u:Int} {v:Bool} (h3:3≤b.Kind) (h7:b.Kind≤7) (hc:cOf b.Kind=(l,d,r,u)) (hr:v=true↔b.Level=l∧b.Spot=⟨0,0⟩∧yS (gr h) b.Cycle d r u):v=true↔Jh h b:=by
 refine hr.trans ⟨fun ⟨q1,q2,q3⟩ => .inr (.inr ⟨h3,h7,by rw [hc]; exact q1,q2,by rw [hc]; exact q3⟩),?_⟩;rintro (q | q | q)
 ·have:=q.1; omega
 ·have:=q.1; omega
 ·have h1:=q.lv;have h2:=q.fit
  rw [hc] at h1 h2
  exact ⟨h1,q.sp,h2⟩
theorem Ql (hs:qo h) (hS:fo h) (hc:aJ h=some 0) {b:dz} (hb:b.Cycle.length < 2 ^ 62):Tri (fQ h b) (fun r=>r=true↔Jh h b):=by
 unfold fQ;refine bA hc ?_;refine aA (fun h=>absurd rfl h) (fun _ => ?_);have h1:=KI hS;have h2:=KH hS;refine aA (fun k1 => ?_) (fun k1 => ?_)
 ·have no:¬ (b.Level=1∧b.Cycle=[]) → ¬ Jh h b:=by
   rintro hn (q | q | q)
   ·exact hn ⟨q.2.1,q.2.2.1⟩
   ·have:=q.1; omega
   ·have:=q.lo; omega
  refine bA (Sg hs hS hc) ?_;refine aA (fun l1 => ?_) (fun l1=>ag ⟨fun h=>(nomatch h),fun h=>absurd h (no fun q=>l1 q.1)⟩);refine aA (fun c0 => ?_) (fun c0=>ag ⟨fun h=>(nomatch h),fun h=>absurd h (no fun q=>c0 (by rw [q.2]; rfl))⟩);refine dZ (Nb (by dsimp only; omega)) (fun r hr=>ag (hr.trans ?_));refine ⟨fun m => .inl ⟨k1,l1,List.eq_nil_of_length_eq_zero (by omega),m⟩,?_⟩;rintro (q | q | q)
  ·exact q.2.2.2
  ·have:=q.1; omega
  ·have:=q.lo; omega
 refine aA (fun k2 => ?_) (fun k2 => ?_)
 ·have no:¬ (b.Level=1∧b.Cycle=[]) → ¬ Jh h b:=by
   rintro hn (q | q | q)
   ·have:=q.1; omega
   ·exact hn ⟨q.2.1,q.2.2.1⟩
   ·have:=q.lo; omega
  refine bA (Oi hs hS hc) ?_;refine aA (fun l1 => ?_) (fun l1=>ag ⟨fun h=>(nomatch h),fun h=>absurd h (no fun q=>l1 q.1)⟩);refine aA (fun c0 => ?_) (fun c0=>ag ⟨fun h=>(nomatch h),fun h=>absurd h (no fun q=>c0 (by rw [q.2]; rfl))⟩);refine dZ (Oj (by dsimp only; omega)) (fun r hr=>ag (hr.trans ?_));refine ⟨fun m => .inr (.inl ⟨k2,l1,List.eq_nil_of_length_eq_zero (by omega),m⟩),?_⟩;rintro (q | q | q)
  ·have:=q.1; omega
  ·exact q.2.2.2
  ·have:=q.lo; omega
 have fin:∀ v:Bool,(v=true↔Jh h b)→Tri (Ee (.inr v)) (fun r=>r=true↔Jh h b):=fun v hv=>ag hv;have no {s:fU} (hk:s.kind≠b.Kind):=Vq (h:=h) hk
 by_cases k3:b.Kind=3
 ·obtain ⟨r,e,hr⟩:=Ji hs hS hc hb (s:=⟨3,1,13,0,1,81⟩) k3.symm;refine bA (a := .inr r) ?_ (fin r (MZ.of (by omega) (by omega) (by rw [k3]; rfl) hr));unfold kR
  simp only [e,Option.bind_some,Bool.not_false,cond_true]
 by_cases k4:b.Kind=4
 ·obtain ⟨r,e,hr⟩:=Ji hs hS hc hb (s:=⟨4,4,5,16,2,54⟩) k4.symm;refine bA (a := .inr r) ?_ (fin r (MZ.of (by omega) (by omega) (by rw [k4]; rfl) hr));unfold kR
  simp only [no (s:=⟨3,1,13,0,1,81⟩) (by dsimp only; omega),e,Option.bind_some,Bool.not_false,cond_true,Bool.not_true,cond_false]
 by_cases k5:b.Kind=5
 ·obtain ⟨r,e,hr⟩:=Ji hs hS hc hb (s:=⟨5,6,13,16,3,55⟩) k5.symm;refine bA (a := .inr r) ?_ (fin r (MZ.of (by omega) (by omega) (by rw [k5]; rfl) hr));unfold kR
  simp only [no (s:=⟨3,1,13,0,1,81⟩) (by dsimp only; omega),no (s:=⟨4,4,5,16,2,54⟩) (by dsimp only; omega),e,Option.bind_some,Bool.not_false,cond_true,Bool.not_true,cond_false]
 by_cases k6:b.Kind=6
 ·obtain ⟨r,e,hr⟩:=Ji hs hS hc hb (s:=⟨6,7,29,0,1,81⟩) k6.symm;refine bA (a := .inr r) ?_ (fin r (MZ.of (by omega) (by omega) (by rw [k6]; rfl) hr));unfold kR
  simp only [no (s:=⟨3,1,13,0,1,81⟩) (by dsimp only; omega),no (s:=⟨4,4,5,16,2,54⟩) (by dsimp only; omega),no (s:=⟨5,6,13,16,3,55⟩) (by dsimp only; omega),e,Option.bind_some,Bool.not_false,cond_true,Bool.not_true,cond_false]
 by_cases k7:b.Kind=7
 ·obtain ⟨r,e,hr⟩:=Ji hs hS hc hb (s:=⟨7,8,31,0,1,81⟩) k7.symm;refine bA (a := .inr r) ?_ (fin r (MZ.of (by omega) (by omega) (by rw [k7]; rfl) hr));unfold kR
  simp only [no (s:=⟨3,1,13,0,1,81⟩) (by dsimp only; omega),no (s:=⟨4,4,5,16,2,54⟩) (by dsimp only; omega),no (s:=⟨5,6,13,16,3,55⟩) (by dsimp only; omega),no (s:=⟨6,7,29,0,1,81⟩) (by dsimp only; omega),e,Option.bind_some,Bool.not_false,cond_true,Bool.not_true,cond_false]
 have e:kR (kH h b) (.inl ())=some (.inl ()):=by
  unfold kR
  simp only [no (s:=⟨3,1,13,0,1,81⟩) (by dsimp only; omega),no (s:=⟨4,4,5,16,2,54⟩) (by dsimp only; omega),no (s:=⟨5,6,13,16,3,55⟩) (by dsimp only; omega),no (s:=⟨6,7,29,0,1,81⟩) (by dsimp only; omega),no (s:=⟨7,8,31,0,1,81⟩) (by dsimp only; omega),Option.bind_some,Bool.not_true,cond_false]
 refine bA e ?_
 show Tri (some false) _
 refine ag ⟨fun h=>(nomatch h),?_⟩;rintro (q | q | q)
 ·exact absurd q.1 k1
 ·exact absurd q.1 k2
 ·have:=q.lo; have:=q.hi; omega
theorem Si (hc:aJ h=some 1) (b:dz):fQ h b=some false:=by
 unfold fQ
 rw [hc]
 rfl
end
end Go.Proofs.YtfpeabnehpclnaaGreatT
namespace Go.Proofs.YtfpeabnehpclnaaGreatT
open Go Go.Proofs Go.Proofs.YtfpeabnehpclnaaGreatE
set_option linter.unusedVariables false
set_option linter.unusedSimpArgs false
section
variable {h:History}
def lvl (k:Int):Int:=if k=1∨k=2∨k=3 then 1 else if k=4 then 4 else if k=5 then 6 else if k=6 then 7 else if k=7 then 8 else 0
theorem Nc (k:Int):fq k=some (lvl k):=by
 refine eH.1 ?_;unfold fq kW lvl
 repeat' (first | refine aA (fun _ => ?_) (fun _ => ?_) | refine ag ?_)
 all_goals grind
theorem Ol (hs:qo h) (hS:fo h) (hv:aJ h=some 0) (hv':aF h=some 0):dW h=some (KG h,0):=by
 have a1:=hS.len;obtain ⟨i1,_,_⟩:=pG hS h.Txns.length (Nat.le_refl _);unfold dW
 rw [hv']
 show (gq h).bind _=_
 rw [CL hs hS]
 exact Qf hS hv (fun a ha=>ha) (by omega)
theorem Sj {b:dz} {E:List Ask} (hE:E.length≤512) (h2:b.Kind=1∨b.Kind=2) :
  Tri (iter (lU b (E,0)) 0) (fun r=>∃ v:Bool,r = .inr v∧(v=true↔b.Kind=2∧∃ a ∈ E,a.Txn=b.Spot.Txn∧a.Place=b.Spot.Place)):=by
 refine bX (k0:=0) E.length (fun k s=>s=(k:Int)∧∀ j:Nat,j < k → ¬ ((idx E (j:Int)).Txn=b.Spot.Txn∧(idx E (j:Int)).Place=b.Spot.Place)) (Nat.zero_le _) ⟨rfl,fun j h=>absurd h (Nat.not_lt_zero _)⟩ ?_;rintro k s hk ⟨rfl,hno⟩;have hw:w64 ((k:Int) + 1)=((k + 1:Nat):Int):=aZ (by omega);unfold lU
 dsimp only
 have stop:∀ c:Bool,c=false→(¬ (b.Kind=2∧∃ a ∈ E,a.Txn=b.Spot.Txn∧a.Place=b.Spot.Place))→Tri (iN b (E,0) (k:Int) c) (Upm E.length k (fun k s=>s=(k:Int)∧∀ j:Nat,j < k → ¬ ((idx E (j:Int)).Txn=b.Spot.Txn∧(idx E (j:Int)).Place=b.Spot.Place)) (fun r:Int ⊕ Bool=>∃ v:Bool,r = .inr v∧(v=true↔b.Kind=2∧∃ a ∈ E,a.Txn=b.Spot.Txn∧a.Place=b.Spot.Place))):=by
  rintro c rfl hn;unfold iN
  rw [cond_false]
  exact aD (aD (ag ⟨false,rfl,fun h=>(nomatch h),fun h=>absurd h hn⟩))
 refine aA (fun h1 => ?_) (fun h1 => ?_)
 ·have a1:k < E.length:=by omega
  rcases h2 with h2 | h2
  ·exact stop _ (by rw [h2]; rfl) (fun q=>by omega)
  ·rw [show (b.Kind == 2)=true by rw [beq_iff_eq]; exact h2]
   unfold iN lT
   rw [cond_true,hw]
   refine aj (by dsimp only; omega) ?_
   dsimp only
   refine aA (fun q1 => ?_) (fun q1 => ?_)
   ·refine aA (fun q2 => ?_) (fun q2 => ?_)
    ·exact aD (aD (ag ⟨true,rfl,fun _=>⟨h2,_,sI a1,q1,q2⟩,fun _=>rfl⟩))
    ·refine ag ⟨a1,rfl,fun j hj => ?_⟩;rcases Nat.lt_or_ge j k with h3 | h3
     ·exact hno j h3
     ·have:j=k:=by omega
      subst this;exact fun e=>q2 e.2
   ·rw [cond_false]
    refine ag ⟨a1,rfl,fun j hj => ?_⟩;rcases Nat.lt_or_ge j k with h3 | h3
    ·exact hno j h3
    ·have:j=k:=by omega
     subst this;exact fun e=>q1 e.1
 ·have hn:¬ (b.Kind=2∧∃ a ∈ E,a.Txn=b.Spot.Txn∧a.Place=b.Spot.Place):=by
   rintro ⟨_,a,ha,q⟩;obtain ⟨j,hj,e⟩:=List.getElem_of_mem ha;exact hno j (by omega) (by rw [dJ (n:=j) rfl hj,e]; exact q)
  exact stop _ rfl hn
theorem LB (hs:qo h) (hS:fo h) (hv:aJ h=some 0) (hv':aF h=some 0) {b:dz} (h2:b.Kind=1∨b.Kind=2) :
  Tri (aW h b) (fun v=>v=true↔(b.Kind=1∧b.Spot ∈ nX h h.Txns.length)∨(b.Kind=2∧∃ a ∈ KG h,a.Txn=b.Spot.Txn∧a.Place=b.Spot.Place)):=by
 have l1:=KI hS;have l2:=KH hS;have hE:=Ol hs hS hv hv';unfold aW;refine bA (CL hs hS) ?_;generalize nX h h.Txns.length=S at l1 ⊢;generalize KG h=E at l2 hE ⊢;refine bX (k0:=0) S.length (fun k s=>s=(k:Int)∧∀ j:Nat,j < k→b.Spot≠idx S (j:Int)) (Nat.zero_le _) ⟨rfl,fun j h=>absurd h (Nat.not_lt_zero _)⟩ ?_;rintro k s hk ⟨rfl,hno⟩;have hw:w64 ((k:Int) + 1)=((k + 1:Nat):Int):=aZ (by omega);have go:∀ c:Bool,c=false → ¬ (b.Kind=1∧b.Spot ∈ S)→Tri (iO h b (bn h h.Txns.length,S) (k:Int) c) (Upm S.length k (fun k s=>s=(k:Int)∧∀ j:Nat,j < k→b.Spot≠idx S (j:Int)) (fun v:Bool=>v=true↔(b.Kind=1∧b.Spot ∈ S)∨(b.Kind=2∧∃ a ∈ E,a.Txn=b.Spot.Txn∧a.Place=b.Spot.Place))):=by
  rintro c rfl hn;unfold iO
  rw [cond_false]
  refine bA hE ?_;obtain ⟨r,e,v,rfl,hv⟩:=Sj l2 h2
  rw [e]
  exact ag (hv.trans ⟨.inr,fun q=>q.resolve_left hn⟩)
 unfold qa
 dsimp only
 refine aA (fun h1 => ?_) (fun h1 => ?_)
 ·have a1:k < S.length:=by omega
  rcases h2 with h2 | h2
  ·rw [show (b.Kind == 1)=true by rw [beq_iff_eq]; exact h2]
   unfold iO
   rw [cond_true,hw]
   refine aj (by dsimp only; omega) ?_
   dsimp only
   refine aA (fun q => ?_) (fun q => ?_)
   ·refine aD (ag ⟨fun _ => .inl ⟨h2,?_⟩,fun _=>rfl⟩)
    rw [← Ih.1 ⟨q.1,q.2.1⟩]
    exact Na a1
   ·refine ag ⟨a1,rfl,fun j hj => ?_⟩;rcases Nat.lt_or_ge j k with h3 | h3
    ·exact hno j h3
    ·have:j=k:=by omega
     subst this;exact fun e=>q (by rw [← e]; exact ⟨rfl,rfl,trivial⟩)
  ·exact go _ (by rw [h2]; rfl) (fun q=>by omega)
 ·refine go _ rfl ?_;rintro ⟨_,hm⟩;obtain ⟨j,hj,e⟩:=List.getElem_of_mem hm;exact hno j (by omega) (by rw [dJ (n:=j) rfl hj,e])
theorem Sk (hs:qo h) (hS:fo h) (hc:aJ h=some 0) (hc':aF h=some 0) {b:dz} (hb:b.Cycle.length < 2 ^ 62):Tri (eG h b) (fun r=>r=true↔Jh h b):=by
 have no:¬ Jh h b→Tri (iX h b true) (fun r=>r=true↔Jh h b):=fun hn=>by
  unfold iX
  rw [cond_true]
  exact ag ⟨fun h=>(nomatch h),fun h=>absurd h hn⟩
 have lo:Jh h b→b.Level=lvl b.Kind∧lvl b.Kind≠0:=by
  rintro (q | q | q)
  ·rw [q.2.1,q.1]; decide
  ·rw [q.2.1,q.1]; decide
  ·have h1:=q.lv;have h2:=q.lo;have h3:=q.hi;have h4:b.Kind=3∨b.Kind=4∨b.Kind=5∨b.Kind=6∨b.Kind=7:=by omega
   rcases h4 with e | e | e | e | e <;> rw [e] at h1 ⊢ <;> rw [h1] <;> decide
 unfold eG;refine bA hc' ?_;refine aA (fun h=>absurd rfl h) (fun _ => ?_);refine bA (Nc _) ?_;refine aA (fun h1=>no fun q=>(lo q).2 h1) (fun h1 => ?_);refine bA (Nc _) ?_
 by_cases hl:b.Level=lvl b.Kind
 rotate_left
 ·rw [show (b.Level != lvl b.Kind)=true by rw [bne_iff_ne]; exact hl]
  exact no fun q=>hl (lo q).1
 rw [show (b.Level != lvl b.Kind)=false by rw [bne_eq_false_iff_eq]; exact hl]
 unfold iX
 rw [cond_false]
 have hk:b.Kind=1∨b.Kind=2∨b.Kind=3∨b.Kind=4∨b.Kind=5∨b.Kind=6∨b.Kind=7:=by
  unfold lvl at h1
  grind
 refine aA (fun k2 => ?_) (fun k2 => ?_)
 ·have a1:b.Kind=1∨b.Kind=2:=by omega
  have a2:b.Level=1:=by rw [hl]; rcases a1 with e | e <;> rw [e] <;> decide
  refine aA (fun c0 => ?_) (fun c0=>ag ⟨fun h=>(nomatch h),?_⟩)
  ·refine dZ (LB hs hS hc hc' a1) (fun r hr=>ag (hr.trans ?_));have hn:b.Cycle=[]:=List.eq_nil_of_length_eq_zero (by omega)
   constructor
   ·rintro (q | q)
    ·exact .inl ⟨q.1,a2,hn,q.2⟩
    ·exact .inr (.inl ⟨q.1,a2,hn,q.2⟩)
   ·rintro (q | q | q)
    ·exact .inl ⟨q.1,q.2.2.2⟩
    ·exact .inr ⟨q.1,q.2.2.2⟩
    ·have:=q.lo; omega
  ·rintro (q | q | q)
   ·exact absurd (by rw [q.2.2.1]; rfl) c0
   ·exact absurd (by rw [q.2.2.1]; rfl) c0
   ·have:=q.lo; omega
 have e0:(b.Spot.Txn=0∧b.Spot.Place=0∧True)↔b.Spot=⟨0,0⟩:=by rw [and_true]; exact Ih (b:=⟨0,0⟩)
 refine aA (fun s0=>ag ⟨fun h=>(nomatch h),?_⟩) (fun s0 => ?_)
 ·rintro (q | q | q)
  ·have:=q.1; omega
  ·have:=q.1; omega
  ·exact absurd (e0.2 q.sp) s0
 have s0:b.Spot=⟨0,0⟩:=e0.1 (Classical.not_not.1 s0);refine bA (UR hs hS hc) ?_;have fin:∀ {l d r u:Int},cOf b.Kind=(l,d,r,u)→lvl b.Kind=l→Tri ((aB ⟨(h.Txns.length:Int),CW h⟩ b.Cycle d r u).bind fun y=>some y) (fun r=>r=true↔Jh h b):=by
  intro l d r u e1 e2;refine dZ (JY _ _ _ _ _ hb) (fun v hv=>ag ?_);exact MZ.of (by omega) (by omega) e1 (hv.trans ⟨fun q=>⟨hl.trans e2,s0,q⟩,fun q=>q.2.2⟩)
 refine aA (fun k=>fin (by rw [k]; rfl) (by rw [k]; rfl)) (fun k3 => ?_);refine aA (fun k=>fin (by rw [k]; rfl) (by rw [k]; rfl)) (fun k4 => ?_);refine aA (fun k=>fin (by rw [k]; rfl) (by rw [k]; rfl)) (fun k5 => ?_);refine aA (fun k=>fin (by rw [k]; rfl) (by rw [k]; rfl)) (fun k6 => ?_);have k:b.Kind=7:=by omega
 exact fin (by rw [k]; rfl) (by rw [k]; rfl)
theorem JZ (h:History) (b:dz) {K:ByteArray→Prop} {p q r s:Prop} (g:HG K h) (gb:p∧(q∧(r∧(s∧b.Cycle.length * 32≤140737488351232)))):mX h b=some true:=by
 have hs:=g.small;have g2:=gb.2.2.2.2;obtain ⟨v,hv,hv',a1,hiff⟩:=NV hs;refine eH.1 ?_;unfold mX
 rw [Bh]
 refine dA ?_
 rw [Bool.not_true,cond_false]
 rcases a1 with rfl | rfl
 ·have hS:=hiff.1 rfl;obtain ⟨x,e1,h1⟩:=Ql hs hS hv (b:=b) (by omega);obtain ⟨y,e2,h2⟩:=Sk hs hS hv hv' (b:=b) (by omega);have:x=y:=by rw [Bool.eq_iff_iff,h1,h2]
  subst this;exact bA e1 (bA e2 (ag (by simp)))
 ·refine bA (Si hv b) ?_;have e:eG h b=some false:=by unfold eG; rw [hv']; rfl
  exact bA e (ag rfl)
end
end Go.Proofs.YtfpeabnehpclnaaGreatT
