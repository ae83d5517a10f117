import Derived.Test.YtfpeabnehpclnaaGreatDoorTPDB
import Derived.Test.YtfpeabnehpclnaaGreatDoorTPLD
import Derived.Test.YtfpeabnehpclnaaGreatDoorXB
import Derived.Test.YtfpeabnehpclnaaGreatDoorTF
namespace Go.Proofs.YtfpeabnehpclnaaGreatDoorT
open Go Go.Proofs Go.Proofs.YtfpeabnehpclnaaGreatDoorE
set_option linter.unusedVariables false
set_option linter.unusedSimpArgs false
section
variable {h:History}
theorem QM (hS:dB h) (hc:az h=some 0) {a:Ask} {t p:Nat} (hk:BB h a t p):xN h a (typ (opAt h (t:Int) (p:Int)).Kind) (oz h a):=by
 obtain ⟨s,h1,_,h3⟩:=yB hS hc hk;have e:oz h a=s:=by unfold oz; rw [h1]; rfl
 rw [e]
 exact h3
theorem Oo (hS:dB h) (hc:az h=some 0) {a:Ask} {t p:Nat} (hk:BB h a t p):(pts h a).1.length≤32∧Hd h a (typ (opAt h (t:Int) (p:Int)).Kind) (pts h a):=by
 obtain ⟨r,h1,h2,h3⟩:=Kt hS hc hk;have e:pts h a=r:=by unfold pts; rw [h1]; rfl
 rw [e]
 exact ⟨h2,h3⟩
theorem Oq (hS:dB h) (hc:az h=some 0) {a:Ask} (ha:a ∈ aU h h.Txns.length) {x:Int} (hx:x ∈ oz h a):x = -1∨x ∈ oth h a:=by
 classical
 obtain ⟨t,p,hk⟩:=yx hS ha;have h2:=QM hS hc hk;generalize oz h a=s at h2 hx;unfold xN at h2
 split at h2
 ·rw [h2] at hx
  rcases List.mem_append.1 hx with hx | hx
  ·split at hx
   ·exact .inl (by simpa using hx)
   ·simp at hx
  ·right
   unfold picks at hx
   simp only [List.mem_map,List.mem_filter,List.mem_range,decide_eq_true_eq] at hx
   obtain ⟨j,⟨h1,_⟩,rfl⟩:=hx;exact dJ h1
 ·split at h2
  ·rw [h2] at hx
   exact .inl (by simpa using hx)
  ·rename_i hb
   split at h2
   ·rw [h2] at hx
    exact .inr (List.mem_filter.1 hx).1
   ·split at h2
    ·obtain ⟨r,hr,rfl⟩:=h2;rcases hr with ⟨q1,q2,q3,q4⟩ | ⟨rfl,_⟩
     ·rw [if_pos q1,List.mem_singleton] at hx
      right
      rw [hx]
      refine q2 _ ?_;have hne:0 < r.1.length:=by
       rcases Nat.eq_zero_or_pos r.1.length with h0 | h0
       ·rw [List.length_eq_zero_iff.1 h0] at q4
        rw [q4] at hb
        exact absurd rfl hb
       ·exact h0
      unfold wS;exact dJ (by omega)
     ·simp at hx
    ·obtain ⟨r,hr,rfl⟩:=h2;rcases hr with ⟨rfl,_⟩ | ⟨rfl,_⟩
     ·exact .inr (List.mem_filter.1 hx).1
     ·simp at hx
theorem CU (hS:dB h) (hc:az h=some 0) {a:Ask} (ha:a ∈ aU h h.Txns.length):(∀ x ∈ (pts h a).1,x ∈ oth h a)∧(pts h a).1.Nodup∧((pts h a).2=true→kd h a=2∨kd h a=3)∧(pts h a).1.length≤32:=by
 obtain ⟨t,p,hk⟩:=yx hS ha;obtain ⟨hl,p2,p3,p4⟩:=Oo hS hc hk
 rw [LA hk]
 generalize typ (opAt h (t:Int) (p:Int)).Kind=ty at p2 p3 p4;generalize pts h a=r at p2 p3 p4 hl
 by_cases e2:ty=2
 ·rcases p2 e2 with ⟨_,q1,q2,_⟩ | ⟨rfl,_⟩
  ·exact ⟨q1,q2,fun _ => .inl e2,hl⟩
  ·exact ⟨fun x hx=>(nomatch hx),List.nodup_nil,fun _ => .inl e2,hl⟩
 ·by_cases e3:ty=3
  ·rcases p3 e3 with ⟨rfl,_⟩ | ⟨rfl,_⟩
   ·exact ⟨fun x hx=>(List.mem_filter.1 hx).1,rR.filter _,fun _ => .inr e3,hl⟩
   ·exact ⟨fun x hx=>(nomatch hx),List.nodup_nil,fun _ => .inr e3,hl⟩
  ·have:=p4 e2 e3;subst this;exact ⟨fun x hx=>(nomatch hx),List.nodup_nil,fun h=>(nomatch h),hl⟩
open Classical
def made (h:History) (a:Ask):Prop:=(pts h a).2=true∧0 < a.Base.length
noncomputable def dwr (h:History) (a:Ask):List Int:=(gq h a.Key h.Txns.length).filter (fun t=>decide (¬ (t=a.Txn∨(idx h.Txns t).Status≠1)))
theorem BF {a:Ask} {t:Int}:t ∈ dwr h a↔(0≤t∧t < (h.Txns.length:Int)∧0 < (eH h t a.Key).length)∧t≠a.Txn∧(idx h.Txns t).Status=1:=by
 unfold dwr
 rw [List.mem_filter,ug,decide_eq_true_eq]
 constructor
 ·rintro ⟨⟨h1,h2,h3,h4⟩,h5⟩;exact ⟨⟨h1,h2,h4⟩,fun h=>h5 (.inl h),Classical.byContradiction fun h=>h5 (.inr h)⟩
 ·rintro ⟨⟨h1,h2,h4⟩,h5,h6⟩;exact ⟨⟨h1,h2,by rw [h6]; decide,h4⟩,fun h=>h.elim h5 (fun h=>h h6)⟩
theorem BG {a:Ask}:(dwr h a).length≤h.Txns.length:=Nat.le_trans (List.length_filter_le _ _) mV
def ovr (h:History) (a:Ask) (t:Int):Prop:=oz h a=[-1]∨(made h a∧t ∉ (pts h a).1) ∨
 (¬ made h a∧kd h a=1∧∃ p,oz h a=[p]∧p≠t∧∃ b ∈ aU h h.Txns.length,b.Txn=t∧b.Key=a.Key∧oz h b=[p])
noncomputable def wrE (h:History) (a:Ask):List Edge:=match oz h a with
 | [p]=>if p = -1 then [] else [⟨p,a.Txn,4,a.Key⟩]
 | _=>[]
noncomputable def wwT (h:History) (a:Ask) (p t:Int):List Edge:=if t ∈ (pts h a).1 then [] else [⟨p,t,8,a.Key⟩]
noncomputable def yQ (h:History) (a:Ask) (i:Nat):List Edge:=if kd h a=2∧i + 1 < (pts h a).1.length then [⟨idx (pts h a).1 (i:Int),idx (pts h a).1 ((i + 1:Nat):Int),8,a.Key⟩]
 else upE (fun k=>wwT h a (idx (pts h a).1 (i:Int)) (idx (dwr h a) (k:Int))) (dwr h a).length
noncomputable def wwE (h:History) (a:Ask):List Edge:=if made h a then upE (yQ h a) (pts h a).1.length else []
noncomputable def rwT (h:History) (a:Ask) (t:Int):List Edge:=if ovr h a t then [⟨a.Txn,t,16,a.Key⟩] else []
noncomputable def rwE (h:History) (a:Ask):List Edge:=upE (fun k=>rwT h a (idx (dwr h a) (k:Int))) (dwr h a).length
noncomputable def DK (h:History) (a:Ask):List Edge:=wrE h a++wwE h a++rwE h a
theorem LD {a:Ask}:(wrE h a).length≤1:=by
 unfold wrE
 split
 ·split <;> simp
 ·simp
theorem LF {a:Ask} {p t:Int}:(wwT h a p t).length≤1:=by unfold wwT; split <;> simp
theorem QN {a:Ask} {t:Int}:(rwT h a t).length≤1:=by unfold rwT; split <;> simp
theorem Ot (hS:dB h) {a:Ask} {i:Nat}:(yQ h a i).length≤32:=by
 unfold yQ
 split
 ·simp
 ·have:=uS (f:=fun k=>wwT h a (idx (pts h a).1 (i:Int)) (idx (dwr h a) (k:Int))) (m:=1) (fun k=>LF) (dwr h a).length;have h1:=BG (h:=h) (a:=a);have h2:=hS.len
  omega
theorem Hl {a:Ask} {k:Nat}:(upE (fun k=>rwT h a (idx (dwr h a) (k:Int))) k).length≤k:=by
 have:=uS (f:=fun k=>rwT h a (idx (dwr h a) (k:Int))) (m:=1) (fun k=>QN) k
 omega
theorem LG (hS:dB h) {a:Ask} {k:Nat}:(upE (yQ h a) k).length≤k * 32:=uS (fun k=>Ot hS) k
theorem Ou (hS:dB h) (hc:az h=some 0) {a:Ask} (ha:a ∈ aU h h.Txns.length):(DK h a).length≤2000:=by
 obtain ⟨_,_,_,h1⟩:=CU hS hc ha;have h2:=LG hS (a:=a) (k:=(pts h a).1.length);have h3:=LD (h:=h) (a:=a);have h4:=Hl (h:=h) (a:=a) (k:=(dwr h a).length);have h5:=BG (h:=h) (a:=a);have h6:=hS.len;unfold DK rwE wwE
 simp only [List.length_append]
 split
 ·omega
 ·simp only [List.length_nil]; omega
noncomputable def qH (h:History) (a:Ask):aJ:=⟨a,oz h a,(pts h a).1,decide (made h a),kd h a⟩
theorem LH {x:aJ} {p:Int}:kG x p=some (decide (x.sources=[p])):=by
 refine yC.1 ?_;unfold kG;refine ai (fun h1 => ?_) (fun h1=>af ⟨fun h=>(nomatch h),fun h=>absurd (by rw [h]; rfl) h1⟩);refine ag (by omega) (af ?_);have hl:x.sources.length=1:=by omega
 obtain ⟨y,hy⟩:=List.length_eq_one_iff.1 hl
 rw [hy]
 show ((y == p)=true)↔_
 simp
variable {m:aC}
theorem LJ {x:aJ} {t:Int} (ht:0≤t∧t < (m.h.Txns.length:Int)):jG t x m=some (decide (t=x.Ask.Txn∨(idx m.h.Txns t).Status≠1)):=by
 refine yC.1 ?_;unfold jG;refine ai (fun h1=>af ⟨fun _ => .inl h1,fun _=>rfl⟩) (fun h1 => ?_);obtain ⟨n,rfl⟩:∃ n:Nat,t=(n:Int):=⟨t.toNat,by omega⟩
 refine aZ (Eg (by omega)) (af ?_)
 simp [h1]
theorem QO {l:List Int} {x:aJ} (hl:l.length < 2 ^ 60) (hr:∀ t ∈ l,0≤t∧t < (m.h.Txns.length:Int)):Tri (bF l x m) (fun r=>(r = -1∧∀ t ∈ l,¬ (t=x.Ask.Txn∨(idx m.h.Txns t).Status≠1)) ∨
  ∃ k:Nat,r=(k:Int)∧k < l.length∧(idx l (k:Int)=x.Ask.Txn∨(idx m.h.Txns (idx l (k:Int))).Status≠1)∧∀ j:Nat,j < k → ¬ (idx l (j:Int)=x.Ask.Txn∨(idx m.h.Txns (idx l (j:Int))).Status≠1)):=by
 unfold bF;refine bN (k0:=0) l.length (fun k s=>s=(k:Int)∧∀ j:Nat,j < k → ¬ (idx l (j:Int)=x.Ask.Txn∨(idx m.h.Txns (idx l (j:Int))).Status≠1)) (Nat.zero_le _) ⟨rfl,fun j h=>absurd h (Nat.not_lt_zero _)⟩ ?_;rintro k s hk ⟨rfl,hno⟩;have hw:w64 ((k:Int) + 1)=((k + 1:Nat):Int):=aQ (by omega);unfold fI
 dsimp only
 rw [hw]
 refine ai (fun h1 => ?_) (fun h1 => ?_)
 ·have a1:k < l.length:=by omega
  refine ag (by omega) (aZ (LJ (hr _ (dJ a1))) ?_)
  by_cases h2:idx l (k:Int)=x.Ask.Txn∨(idx m.h.Txns (idx l (k:Int))).Status≠1
  ·rw [decide_eq_true h2,cond_true]
   exact au (af (.inr ⟨k,rfl,a1,h2,hno⟩))
  ·rw [decide_eq_false h2,cond_false]
   refine af ⟨a1,rfl,fun j hj => ?_⟩;rcases Nat.lt_or_ge j k with h3 | h3
   ·exact hno j h3
   ·have:j=k:=by omega
    subst this;exact h2
 ·have:k=l.length:=by omega
  subst this;refine au (af (.inl ⟨rfl,fun t ht => ?_⟩));obtain ⟨j,hj,e⟩:=oU ht
  rw [← e]
  exact hno j hj
theorem MX {l:List Int} {x:aJ} (hl:l.length < 2 ^ 60) (hr:∀ t ∈ l,0≤t∧t < (m.h.Txns.length:Int)):bA l x m=some (l.filter fun t=>decide (¬ (t=x.Ask.Txn∨(idx m.h.Txns t).Status≠1))):=by
 refine eY.1 ?_;unfold bA;refine bU (QO hl hr) (fun r a3 => ?_);rcases a3 with ⟨rfl,h1⟩ | ⟨k,rfl,hk,h1,h2⟩
 ·refine ai (fun _=>af ?_) (fun h=>absurd rfl h);exact (List.filter_eq_self.2 fun t ht=>decide_eq_true (h1 t ht)).symm
 ·refine ai (fun h=>by omega) (fun _ => ?_);refine ag (by omega) ?_;have hw:w64 ((k:Int) + 1)=((k + 1:Nat):Int):=aQ (by omega)
  rw [hw]
  have e0:l.take (k:Int).toNat=(l.take (k + 1)).filter fun t=>decide (¬ (t=x.Ask.Txn∨(idx m.h.Txns t).Status≠1)):=by
   rw [iQ hk,List.filter_append]
   have e1:(l.take k).filter (fun t=>decide (¬ (t=x.Ask.Txn∨(idx m.h.Txns t).Status≠1)))=l.take k:=List.filter_eq_self.2 fun t ht=>by
    obtain ⟨j,hj,_,e⟩:=EQ.1 ht
    rw [← e]
    exact decide_eq_true (h2 j hj)
   have e2:[idx l (k:Int)].filter (fun t=>decide (¬ (t=x.Ask.Txn∨(idx m.h.Txns t).Status≠1)))=[]:=by
    rw [List.filter_eq_nil_iff]
    intro t ht
    rw [List.mem_singleton.1 ht,decide_eq_true_eq]
    exact fun h=>h h1
   rw [e1,e2,List.append_nil]
   congr 1
  rw [e0]
  refine bN (k0:=k + 1) l.length (fun q s=>s=((l.take q).filter (fun t=>decide (¬ (t=x.Ask.Txn∨(idx m.h.Txns t).Status≠1))),(q:Int))) (by omega) rfl ?_;rintro q s hq rfl;have a2:w64 ((q:Int) + 1)=((q + 1:Nat):Int):=aQ (by omega);unfold fE
  dsimp only
  rw [a2]
  refine ai (fun h3 => ?_) (fun h3 => ?_)
  ·have a1:q < l.length:=by omega
   refine ag (by omega) (aZ (LJ (hr _ (dJ a1))) ?_)
   by_cases h4:idx l (q:Int)=x.Ask.Txn∨(idx m.h.Txns (idx l (q:Int))).Status≠1
   ·rw [decide_eq_true h4]
    refine af ⟨a1,?_⟩
    dsimp only
    rw [iQ a1,List.filter_append,List.filter_cons_of_neg (by rw [decide_eq_true_eq]; exact fun h=>h h4)]
    simp
   ·rw [decide_eq_false h4]
    refine af ⟨a1,?_⟩
    dsimp only
    rw [iQ a1,List.filter_append,List.filter_cons_of_pos (by rw [decide_eq_true_eq]; exact h4)]
    simp
  ·have:q=l.length:=by omega
   subst this;refine au (af ?_)
   show List.filter _ _=_
   rw [List.take_length]
theorem MZ {l:List aJ} {x:aJ} {t:Int} (hl:l.length < 2 ^ 60) (hx:0 < x.sources.length):dD l t x=some (decide (∃ b ∈ l,b.Ask.Txn=t∧b.Ask.Key=x.Ask.Key∧b.sources=[idx x.sources 0])):=by
 refine yC.1 ?_;have h1:Tri (bu l t x) (fun r=>0≤r↔∃ b ∈ l,b.Ask.Txn=t∧b.Ask.Key=x.Ask.Key∧b.sources=[idx x.sources 0]):=by
  unfold bu;refine bN (k0:=0) l.length (fun k s=>s=(k:Int)∧∀ j:Nat,j < k → ¬ ((idx l (j:Int)).Ask.Txn=t∧(idx l (j:Int)).Ask.Key=x.Ask.Key∧(idx l (j:Int)).sources=[idx x.sources 0])) (Nat.zero_le _) ⟨rfl,fun j h=>absurd h (Nat.not_lt_zero _)⟩ ?_;rintro k s hk ⟨rfl,hno⟩;have hw:w64 ((k:Int) + 1)=((k + 1:Nat):Int):=aQ (by omega);unfold fB
  dsimp only
  rw [hw]
  refine ai (fun h1 => ?_) (fun h1 => ?_)
  ·have a1:k < l.length:=by omega
   have hm:idx l (k:Int) ∈ l:=by rw [bS (n:=k) rfl a1]; exact List.getElem_mem _
   have o1:kR (idx l (k:Int)) t x=some (decide ((idx l (k:Int)).Ask.Txn=t∧(idx l (k:Int)).Ask.Key=x.Ask.Key∧(idx l (k:Int)).sources=[idx x.sources 0])):=by
    refine yC.1 ?_;unfold kR;refine ai (fun q1 => ?_) (fun q1=>af ⟨fun h=>(nomatch h),fun h=>absurd h.1 q1⟩);refine ai (fun q2 => ?_) (fun q2=>af ⟨fun h=>(nomatch h),fun h=>absurd h.2.1 q2⟩);refine ag (by omega) (aZ LH (af ?_))
    simp [q1,q2]
   refine ag (by omega) (aZ o1 ?_)
   by_cases h2:(idx l (k:Int)).Ask.Txn=t∧(idx l (k:Int)).Ask.Key=x.Ask.Key∧(idx l (k:Int)).sources=[idx x.sources 0]
   ·rw [decide_eq_true h2,cond_true]
    exact au (af ⟨fun _=>⟨_,hm,h2⟩,fun _=>by omega⟩)
   ·rw [decide_eq_false h2,cond_false]
    refine af ⟨a1,rfl,fun j hj => ?_⟩;rcases Nat.lt_or_ge j k with h3 | h3
    ·exact hno j h3
    ·have:j=k:=by omega
     subst this;exact h2
  ·have:k=l.length:=by omega
   subst this;refine au (af ⟨fun h=>absurd h (by decide),?_⟩);rintro ⟨b,hb,h2⟩;obtain ⟨j,hj,e⟩:=List.getElem_of_mem hb
   rw [← e,← bS (n:=j) rfl hj] at h2
   exact absurd h2 (hno j hj)
 unfold dD;refine bU h1 (fun r hr=>af ?_)
 rw [decide_eq_true_iff]
 exact hr
theorem Na (hS:dB h) (hc:az h=some 0) {l:List Edge} {a:Ask} (ha:a ∈ aU h h.Txns.length) {t:Int}:eQ ⟨h,(aU h h.Txns.length).map (qH h),l⟩ (qH h a) t=some (decide (ovr h a t)):=by
 refine yC.1 ?_;obtain ⟨i1,_,_⟩:=qM hS h.Txns.length (Nat.le_refl _);obtain ⟨_,_,_,hpl⟩:=CU hS hc ha;unfold eQ;refine aZ LH ?_
 by_cases h1:oz h a=[-1]
 ·have:(qH h a).sources=[-1]:=h1
  rw [decide_eq_true this,cond_true]
  exact af ⟨fun _ => .inl h1,fun _=>rfl⟩
 ·have:¬ (qH h a).sources=[-1]:=h1
  rw [decide_eq_false this,cond_false]
  unfold qH
  dsimp only
  by_cases h2:made h a
  ·rw [decide_eq_true h2,cond_true]
   refine aZ (CG (by omega)) (af ?_);unfold ovr
   simp [h1,h2]
  ·rw [decide_eq_false h2,cond_false]
   have no:¬ (kd h a=1∧∃ p,oz h a=[p]∧p≠t)→Tri (gN ⟨h,(aU h h.Txns.length).map (qH h),l⟩ ⟨a,oz h a,(pts h a).1,false,kd h a⟩ t true) (fun b=>b=true↔ovr h a t):=fun hn=>by
    unfold gN
    rw [cond_true]
    refine af ⟨fun h=>(nomatch h),?_⟩;rintro (h | h | h)
    ·exact absurd h h1
    ·exact absurd h.1 h2
    ·obtain ⟨_,q1,p,q2,q3,_⟩:=h;exact absurd ⟨q1,p,q2,q3⟩ hn
   refine ai (fun h3=>no (fun h=>h3 h.1)) (fun h3 => ?_);refine ai (fun h4=>no ?_) (fun h4 => ?_)
   ·rintro ⟨_,p,q,_⟩
    rw [q] at h4
    exact h4 rfl
   have h4:(oz h a).length=1:=Classical.byContradiction fun h=>h4 (by omega);have h3:kd h a=1:=Classical.byContradiction h3;obtain ⟨p,hp⟩:=List.length_eq_one_iff.1 h4;refine ag (by omega) ?_;have a2:idx (oz h a) 0=p:=by rw [hp]; rfl
   rw [a2]
   by_cases h5:p=t
   ·rw [beq_iff_eq.2 h5]
    refine no ?_;rintro ⟨_,q,e,hn⟩
    rw [hp] at e
    cases e;exact hn h5
   ·rw [beq_eq_false_iff_ne.2 h5]
    unfold gN
    rw [cond_false]
    have a3:=hS.len;refine aZ (MZ (by rw [List.length_map]; omega) (by show 0 < (oz h a).length; omega)) (af ?_)
    rw [decide_eq_true_iff]
    dsimp only
    rw [a2]
    unfold ovr
    constructor
    ·rintro ⟨b,hb,q1,q2,q3⟩;obtain ⟨c,a1,rfl⟩:=List.mem_map.1 hb;exact .inr (.inr ⟨h2,h3,p,hp,h5,c,a1,q1,q2,q3⟩)
    ·rintro (h | h | h)
     ·exact absurd h h1
     ·exact absurd h.1 h2
     ·obtain ⟨_,_,q,e,_,c,a1,q1,q2,q3⟩:=h
      rw [hp] at e
      cases e;exact ⟨_,List.mem_map.2 ⟨c,a1,rfl⟩,q1,q2,q3⟩
end
end Go.Proofs.YtfpeabnehpclnaaGreatDoorT
namespace Go.Proofs.YtfpeabnehpclnaaGreatDoorT
open Go Go.Proofs Go.Proofs.YtfpeabnehpclnaaGreatDoorE
set_option linter.unusedVariables false
set_option linter.unusedSimpArgs false
open Classical
section
variable {h:History}
noncomputable abbrev vW (h:History):List aJ:=(aU h h.Txns.length).map (qH h)
theorem LK (hS:dB h) (hc:az h=some 0) {a:Ask} (ha:a ∈ aU h h.Txns.length) {l0 l:List Edge} (hl:l.length < 2 ^ 30):ja ⟨h,vW h,l0⟩ (qH h a) (dwr h a) l=some ⟨h,vW h,l++rwE h a⟩:=by
 have a2:=hS.len;have hd:=BG (h:=h) (a:=a);refine eY.1 ?_;unfold ja;refine bN (k0:=0) (dwr h a).length (fun k s=>s=(l++upE (fun k=>rwT h a (idx (dwr h a) (k:Int))) k,(k:Int))) (Nat.zero_le _) (by simp [upE]) ?_;rintro k s hk rfl;have hw:w64 ((k:Int) + 1)=((k + 1:Nat):Int):=aQ (by omega);have hu:=Hl (h:=h) (a:=a) (k:=k);have hsu:upE (fun k=>rwT h a (idx (dwr h a) (k:Int))) (k + 1)=upE (fun k=>rwT h a (idx (dwr h a) (k:Int))) k++rwT h a (idx (dwr h a) (k:Int)):=ui;unfold ru nK
 dsimp only
 rw [hw]
 refine ai (fun h1 => ?_) (fun h1 => ?_)
 ·have a1:k < (dwr h a).length:=by omega
  refine ag (by omega) (aZ (Na hS hc ha) ?_)
  by_cases h2:ovr h a (idx (dwr h a) (k:Int))
  ·rw [decide_eq_true h2,cond_true]
   refine aZ (CS (by simp only [List.length_append]; omega)) (af ⟨a1,?_⟩)
   dsimp only
   rw [hsu,rwT,if_pos h2,List.append_assoc]
   rfl
  ·rw [decide_eq_false h2,cond_false]
   refine af ⟨a1,?_⟩
   dsimp only
   rw [hsu,rwT,if_neg h2,List.append_nil]
 ·have:k=(dwr h a).length:=by omega
  subst this;exact au (af rfl)
theorem LM (hS:dB h) (hc:az h=some 0) {a:Ask} (ha:a ∈ aU h h.Txns.length) {l0 l:List Edge} (hl:l.length < 2 ^ 29):ib ⟨h,vW h,l0⟩ (qH h a) l=some ⟨h,vW h,l++wwE h a++rwE h a⟩:=by
 have a6:=hS.len;have hd:=BG (h:=h) (a:=a);obtain ⟨_,_,_,hpl⟩:=CU hS hc ha;refine eY.1 ?_;unfold ib;refine aZ (yw hS hc) ?_;have hwl:=mV (h:=h) (key:=a.Key) (k:=h.Txns.length);refine aZ (MX (m:=⟨h,vW h,l⟩) (x:=qH h a) (show (gq h a.Key h.Txns.length).length < 2 ^ 60 by omega) (fun t ht=>by have:=ug.1 ht; exact ⟨this.1,this.2.1⟩)) ?_
 show Tri (bif (qH h a).made then iter (nO ⟨h,vW h,l0⟩ (qH h a) (dwr h a)) (l,0) else ja ⟨h,vW h,l0⟩ (qH h a) (dwr h a) l) _
 by_cases hm:made h a
 ·rw [show (qH h a).made=true from decide_eq_true hm,cond_true]
  refine bN (k0:=0) (pts h a).1.length (fun k s=>s=(l++upE (yQ h a) k,(k:Int))) (Nat.zero_le _) (by simp [upE]) ?_;rintro k s hk rfl;have hw:w64 ((k:Int) + 1)=((k + 1:Nat):Int):=aQ (by omega);have hu:=LG hS (a:=a) (k:=k);have hsu:upE (yQ h a) (k + 1)=upE (yQ h a) k++yQ h a k:=ui;unfold nO nN kS
  dsimp only
  rw [hw]
  show Tri (bif decide ((k:Int) < ((pts h a).1.length:Int)) then must (0≤(k:Int)∧(k:Int) < ((pts h a).1.length:Int)) _ else _) _
  refine ai (fun h1 => ?_) (fun h1 => ?_)
  ·have a1:k < (pts h a).1.length:=by omega
   refine ag (by omega) ?_;have rest:¬ (kd h a=2∧k + 1 < (pts h a).1.length)→Tri (iter (nM ⟨h,vW h,l0⟩ (qH h a) (dwr h a) (k:Int)) (l++upE (yQ h a) k,0)) (Upm (pts h a).1.length k (fun k s=>s=(l++upE (yQ h a) k,(k:Int))) (fun b:aC=>b=⟨h,vW h,l++wwE h a++rwE h a⟩)):=fun hn=>by
    refine bN (k0:=0) (dwr h a).length (fun q s=>s=(l++upE (yQ h a) k++upE (fun q=>wwT h a (idx (pts h a).1 (k:Int)) (idx (dwr h a) (q:Int))) q,(q:Int))) (Nat.zero_le _) (by simp [upE]) ?_;rintro q s hq rfl;have a4:w64 ((q:Int) + 1)=((q + 1:Nat):Int):=aQ (by omega);have a5:=uS (f:=fun q=>wwT h a (idx (pts h a).1 (k:Int)) (idx (dwr h a) (q:Int))) (m:=1) (fun q=>LF) q;have a3:upE (fun q=>wwT h a (idx (pts h a).1 (k:Int)) (idx (dwr h a) (q:Int))) (q + 1)=upE (fun q=>wwT h a (idx (pts h a).1 (k:Int)) (idx (dwr h a) (q:Int))) q++wwT h a (idx (pts h a).1 (k:Int)) (idx (dwr h a) (q:Int)):=ui;unfold nM nL kS
    dsimp only
    rw [hw,a4]
    refine ai (fun h2 => ?_) (fun h2 => ?_)
    ·have a2:q < (dwr h a).length:=by omega
     refine ag (by omega) (aZ (CG (l:=(pts h a).1) (by omega)) ?_)
     by_cases h3:idx (dwr h a) (q:Int) ∈ (pts h a).1
     ·rw [decide_eq_true h3,Bool.not_true,cond_false]
      refine af ⟨a2,?_⟩
      dsimp only
      rw [a3,wwT,if_pos h3,List.append_nil]
     ·rw [decide_eq_false h3,Bool.not_false,cond_true]
      refine aZ (CS (by simp only [List.length_append]; omega)) (af ⟨a2,?_⟩)
      dsimp only
      rw [a3,wwT,if_neg h3,List.append_assoc]
      rfl
    ·have:q=(dwr h a).length:=by omega
     subst this;refine au (af ⟨a1,?_⟩)
     dsimp only
     rw [hsu,yQ,if_neg hn,List.append_assoc]
   have kk:(qH h a).kind=kd h a:=rfl
   by_cases h2:kd h a=2
   ·rw [kk,beq_iff_eq.2 h2,cond_true]
    show Tri (bif decide (((k + 1:Nat):Int) < ((pts h a).1.length:Int)) then must (0≤((k + 1:Nat):Int)∧((k + 1:Nat):Int) < ((pts h a).1.length:Int)) _ else _) _
    refine ai (fun h3 => ?_) (fun h3=>rest (fun h=>by omega));refine ag (by omega) (aZ (CS (by simp only [List.length_append]; omega)) (af ⟨a1,?_⟩))
    dsimp only
    rw [hsu,yQ,if_pos ⟨h2,by omega⟩,List.append_assoc]
    rfl
   ·rw [kk,beq_eq_false_iff_ne.2 h2,cond_false,cond_false]
    exact rest (fun h=>h2 h.1)
  ·have:k=(pts h a).1.length:=by omega
   subst this;refine au ?_
   rw [LK hS hc ha (by rw [List.length_append]; omega)]
   refine af ?_
   show aC.mk _ _ _=_
   rw [wwE,if_pos hm]
 ·rw [show (qH h a).made=false from decide_eq_false hm,cond_false,LK hS hc ha (by omega)]
  refine af ?_
  rw [wwE,if_neg hm,List.append_nil]
theorem Ov (hS:dB h) (hc:az h=some 0) {a:Ask} (ha:a ∈ aU h h.Txns.length) {l:List Edge} (hl:l.length < 2 ^ 28):ay ⟨h,vW h,l⟩ (qH h a)=some ⟨h,vW h,l++DK h a⟩:=by
 refine eY.1 ?_;unfold ay DK;have none_:wrE h a=[]→Tri (fT ⟨h,vW h,l⟩ (qH h a) false) (fun b=>b=⟨h,vW h,l++(wrE h a++wwE h a++rwE h a)⟩):=fun e=>by
  unfold fT
  rw [cond_false]
  show Tri (ib ⟨h,vW h,l⟩ (qH h a) l) _
  rw [LM hS hc ha (by omega),e]
  exact af (by rw [List.nil_append,List.append_assoc])
 show Tri (bif (((oz h a).length:Int) == 1) then must (0≤(0:Int)∧(0:Int) < ((oz h a).length:Int)) (fT ⟨h,vW h,l⟩ (qH h a) (decide (idx (oz h a) (0:Int) ≥ 0))) else fT ⟨h,vW h,l⟩ (qH h a) false) _
 refine ai (fun h1 => ?_) (fun h1=>none_ ?_)
 ·refine ag (by omega) ?_;have a1:(oz h a).length=1:=by omega
  obtain ⟨p,hp⟩:=List.length_eq_one_iff.1 a1;have e0:idx (oz h a) 0=p:=by rw [hp]; rfl
  have hpo:=Oq hS hc ha (x:=p) (by rw [hp]; simp)
  rw [e0]
  by_cases h2:p = -1
  ·rw [decide_eq_false (by omega)]
   refine none_ ?_;unfold wrE
   rw [hp]
   exact if_pos h2
  ·have h3:0≤p:=((jM.1 (hpo.resolve_left h2)).1).1
   rw [decide_eq_true h3]
   have ew:wrE h a=[⟨p,a.Txn,4,a.Key⟩]:=by
    unfold wrE
    rw [hp]
    exact if_neg h2
   unfold fT
   rw [cond_true]
   show Tri (must (0≤(0:Int)∧(0:Int) < ((oz h a).length:Int)) ((fD ⟨h,vW h,l⟩ (idx (oz h a) (0:Int)) a.Txn 4 a.Key).bind _)) _
   refine ag (by omega) (aZ (CS (by show l.length < _; omega)) ?_)
   rw [e0]
   show Tri (ib ⟨h,vW h,l⟩ (qH h a) (l++([(⟨p,a.Txn,4,a.Key⟩:Edge)]:List Edge))) _
   rw [LM hS hc ha (by rw [List.length_append,List.length_singleton]; omega),ew]
   exact af (by simp only [List.append_assoc])
 ·unfold wrE
  split
  ·rename_i p hp
   rw [hp] at h1
   exact absurd rfl h1
  ·rfl
noncomputable def gF (h:History):List Edge:=soL h h.Txns.length++rtL h h.Txns.length++(aU h h.Txns.length).flatMap (DK h)
noncomputable def uT (h:History) (k:Nat):List Edge:=soL h h.Txns.length++rtL h h.Txns.length++((aU h h.Txns.length).take k).flatMap (DK h)
theorem BH {k:Nat} (hk:k < (aU h h.Txns.length).length):uT h (k + 1)=uT h k++DK h (idx (aU h h.Txns.length) (k:Int)):=by
 unfold uT
 rw [iQ hk,List.flatMap_append]
 simp
theorem Dp (hS:dB h) (hc:az h=some 0):∀ k:Nat,k≤(aU h h.Txns.length).length→(uT h k).length≤32 + 1024 + 2000 * k
 | 0,_=>by
  have h1:=Ef (h:=h) (k:=h.Txns.length);have h2:=Hg hS (Nat.le_refl _);have h3:=hS.len;unfold uT
  simp only [List.take_zero,List.flatMap_nil,List.append_nil,List.length_append]
  omega
 | k + 1,hk=>by
  rw [BH (by omega),List.length_append]
  have h1:=Dp hS hc k (by omega);have h2:=Ou hS hc (uh (show k < (aU h h.Txns.length).length by omega))
  omega
theorem Kw (hs:qE h) (hS:dB h) (hc:az h=some 0) {a:Ask} (ha:a ∈ aU h h.Txns.length):rq h a=some ((pts h a).1,(pts h a).2,0):=by
 refine eY.1 ?_;unfold rq;refine bU (EN hs hS hc (Ja hS ha)) (fun r hr => ?_);rcases hr with ⟨rfl,_⟩ | ⟨_,h1⟩
 ·refine ai (fun h1=>absurd rfl h1) (fun _ => ?_);exact aZ (Oe hS hc ha).1 (af rfl)
 ·exact absurd ha h1
theorem Ky (hs:qE h) (hS:dB h) (hc:az h=some 0):dC h=some (⟨(h.Txns.length:Int),gF h⟩,0):=by
 have a3:=hS.len;have hA:gm h=some (aU h h.Txns.length,0):=by unfold gm; rw [zq hs hS hc]; rfl
 obtain ⟨i1,_,_⟩:=qM hS h.Txns.length (Nat.le_refl _);refine eY.1 ?_;unfold dC;refine aZ hA ?_;refine ai (fun h1=>absurd rfl h1) (fun _ => ?_);refine bN (k0:=0) (aU h h.Txns.length).length (fun k s=>s=(((aU h h.Txns.length).take k).map (qH h),(k:Int))) (Nat.zero_le _) (by simp) ?_;rintro k s hk rfl;have hw:w64 ((k:Int) + 1)=((k + 1:Nat):Int):=aQ (by omega);unfold xn xm tL xk
 dsimp only
 rw [hw]
 refine ai (fun h1 => ?_) (fun h1 => ?_)
 ·have a1:k < (aU h h.Txns.length).length:=by omega
  have ha:=uh a1;refine ag (by omega) (aZ (Je hS hc ha) (aZ (GZ hs hS hc ha) (aZ (Kw hs hS hc ha) ?_)));have hlen:(((aU h h.Txns.length).take k).map (qH h)).length=k:=by rw [List.length_map,List.length_take]; omega
  have last:∀ b:Bool,b=decide (made h (idx (aU h h.Txns.length) (k:Int)))→Tri (must (((((aU h h.Txns.length).take k).map (qH h)).length + 1 + ((((aU h h.Txns.length).take k).map (qH h)).length + 1) / 4 + 192) * 112≤281474976710656∧(((aU h h.Txns.length).take k).map (qH h)).length + 1≤9223372036854775807)
    (some (.inl (((aU h h.Txns.length).take k).map (qH h)++([(⟨(idx (aU h h.Txns.length) (k:Int)),oz h (idx (aU h h.Txns.length) (k:Int)),(pts h (idx (aU h h.Txns.length) (k:Int))).1,b,kd h (idx (aU h h.Txns.length) (k:Int))⟩:aJ)]:List aJ),((k + 1:Nat):Int))))) (Upm (aU h h.Txns.length).length k (fun k s=>s=(((aU h h.Txns.length).take k).map (qH h),(k:Int))) (fun b:fU×Int=>b=(⟨(h.Txns.length:Int),gF h⟩,0))):=by
   rintro b rfl;refine ag (by rw [hlen]; omega) (af ⟨a1,?_⟩)
   dsimp only
   rw [iQ a1,List.map_append]
   rfl
  dsimp only
  by_cases h2:(pts h (idx (aU h h.Txns.length) (k:Int))).2=true
  ·rw [h2,cond_true]
   refine last _ ?_;have e:made h (idx (aU h h.Txns.length) (k:Int))↔(((idx (aU h h.Txns.length) (k:Int)).Base.length:Int) > 0):=⟨fun h=>by have:=h.2; omega,fun h=>⟨h2,by omega⟩⟩
   exact (decide_eq_decide.2 e).symm
  ·rw [Bool.not_eq_true] at h2
   rw [h2,cond_false]
   exact last _ (decide_eq_false (fun h=>by have:=h.1; rw [h2] at this; cases this)).symm
 ·have:k=(aU h h.Txns.length).length:=by omega
  subst this
  rw [List.take_length]
  refine aZ (FT (m:=⟨h,vW h,[]⟩) a3 (by simp)) ?_;have hsl:=Ef (h:=h) (k:=h.Txns.length);refine aZ (MW (m:=⟨h,vW h,[]++soL h h.Txns.length⟩) hS (by rw [List.nil_append]; show (soL h h.Txns.length).length < _; omega)) ?_
  suffices a4:Tri (iter (tN h (vW h)) ([]++soL h h.Txns.length++rtL h h.Txns.length,0)) (fun y:(List aJ×Int) ⊕ (fU×Int)=>y = .inr (⟨(h.Txns.length:Int),gF h⟩,0)) from eX a4 (by rintro y rfl; rfl)
  refine bN (k0:=0) (aU h h.Txns.length).length (fun k s=>s=(uT h k,(k:Int))) (Nat.zero_le _) (by simp [uT]) ?_;rintro k s hk rfl;have a2:w64 ((k:Int) + 1)=((k + 1:Nat):Int):=aQ (by omega);have hel:=Dp hS hc k hk;have hal:(vW h).length=(aU h h.Txns.length).length:=List.length_map ..;unfold tN
  dsimp only
  rw [a2,hal]
  refine ai (fun h2 => ?_) (fun h2 => ?_)
  ·have a1:k < (aU h h.Txns.length).length:=by omega
   have ha:=uh a1;have hi:idx (vW h) (k:Int)=qH h (idx (aU h h.Txns.length) (k:Int)):=by
    rw [bS (n:=k) rfl (by omega),bS (n:=k) rfl a1,List.getElem_map]
   refine ag (by omega) ?_
   rw [hi]
   refine aZ (Ov hS hc ha (l:=uT h k) (by omega)) (af ⟨a1,?_⟩)
   dsimp only
   rw [BH a1]
  ·have:k=(aU h h.Txns.length).length:=by omega
   subst this;refine au (au (af ?_))
   show Sum.inr _=_
   unfold uT gF
   rw [List.take_length]
theorem Nb (hc:az h=some 1):dC h=some (⟨0,[]⟩,1):=by
 unfold dC gm kF
 rw [hc]
 rfl
end
end Go.Proofs.YtfpeabnehpclnaaGreatDoorT
namespace Go.Proofs.YtfpeabnehpclnaaGreatDoorT
open Go Go.Proofs Go.Proofs.YtfpeabnehpclnaaGreatDoorE
set_option linter.unusedVariables false
set_option linter.unusedSimpArgs false
open Classical
section
variable {h:History}
noncomputable def lone (h:History) (a:Ask):Int×Bool:=match oz h a with
 | [p]=>(p,true)
 | _=>(0,false)
end
end Go.Proofs.YtfpeabnehpclnaaGreatDoorT
namespace Go.Proofs.YtfpeabnehpclnaaGreatDoorT
open Go Go.Proofs Go.Proofs.YtfpeabnehpclnaaGreatDoorE
set_option linter.unusedVariables false
set_option linter.unusedSimpArgs false
section
variable {h:History}
end
end Go.Proofs.YtfpeabnehpclnaaGreatDoorT
namespace Go.Proofs.YtfpeabnehpclnaaGreatDoorT
open Go Go.Proofs Go.Proofs.YtfpeabnehpclnaaGreatDoorE
set_option linter.unusedVariables false
set_option linter.unusedSimpArgs false
set_option maxRecDepth 4096
def zD (N:Int) (e:Edge):Prop:=0≤e.From∧e.From < N∧0≤e.To∧e.To < N∧1≤e.Kind∧e.Kind≤16∧cz .i64 e.Kind (w64 (e.Kind - 1))=0
structure Good (g:fU):Prop where
 n0:0≤g.N
 n1:g.N≤64
 m:g.Edges.length≤262144
 e:∀ k:Nat,k < g.Edges.length→zD g.N (idx g.Edges k)
theorem ones (k:Int) (h1:1≤k) (h2:k≤16):Tri (lQ (IntKind.wrap .u64 k)) (fun c=>(c != 1)=(cz .i64 k (w64 (k - 1)) != 0)):=by
 have h:k=1∨k=2∨k=3∨k=4∨k=5∨k=6∨k=7∨k=8∨k=9∨k=10∨k=11∨k=12∨k=13∨k=14∨k=15∨k=16:=by omega
 have key:∀ n:Fin 17,1≤n.1→(lQ (IntKind.wrap .u64 (n.1:Int))).map (fun c=>(c != 1))=some (cz .i64 (n.1:Int) (w64 ((n.1:Int) - 1)) != 0):=by decide +kernel
 obtain ⟨n,rfl⟩:∃ n:Nat,k=n:=⟨k.toNat,by omega⟩
 have:=key ⟨n,by omega⟩ (by simp; omega)
 simp only at this
 cases hb:lQ (IntKind.wrap .u64 (n:Int)) with
 | none=>rw [hb] at this; cases this
 | some c=>rw [hb] at this; exact ⟨c,rfl,Option.some.inj this⟩
theorem LP (x:Int) (g:fU):mU x g=some (decide (0≤x) && decide (x < g.N)):=by
 unfold mU
 by_cases h:x ≥ 0
 ·have h':0≤x:=h
  simp [h']
 ·have h':¬ 0≤x:=h
  simp [h']
def Told (g:fU) (r:Int):Prop:=(r=0∧Good g)∨(r=60 ∧ ¬ Good g)
theorem BI {g:fU} {k:Nat} (b:Bool) (hk:k < g.Edges.length) (hm:g.Edges.length≤262144) (hb:b=true → ¬ zD g.N (idx g.Edges k)) (hb':b=false→zD g.N (idx g.Edges k))
  (hJ:∀ i:Nat,i < k→zD g.N (idx g.Edges i)):Tri (iV (k:Int) b) (Up g.Edges.length k (fun k=>∀ i:Nat,i < k→zD g.N (idx g.Edges i)) (Told g)):=by
 unfold iV;cases b with
 | true=>exact ⟨_,rfl,Or.inr ⟨rfl,fun hg=>hb rfl (hg.e k hk)⟩⟩
 | false =>
  refine ⟨_,rfl,aQ (by omega),hk,fun i hi => ?_⟩
  by_cases e:i=k
  ·subst e; exact hb' rfl
  ·exact hJ i (by omega)
theorem CV (g:fU):Tri (dw g) (Told g):=by
 have hj:∀ b:Bool,0≤g.N→g.N≤64→b=decide ((g.Edges.length:Int) > 262144)→Tri (lS g b) (Told g):=by
  intro b h0 h1 hb;unfold lS;refine gW (fun h => ?_) (fun h => ?_)
  ·subst hb;have:(g.Edges.length:Int) > 262144:=of_decide_eq_true h;exact ⟨_,rfl,Or.inr ⟨rfl,fun hg=>by have:=hg.m; omega⟩⟩
  ·subst hb;have hm:¬ (g.Edges.length:Int) > 262144:=of_decide_eq_false h;refine Ht g.Edges.length (fun k=>∀ i:Nat,i < k→zD g.N (idx g.Edges i)) (fun i hi=>by omega) (fun k hk hJ => ?_)
   show Tri (bif decide ((k:Int) < (g.Edges.length:Int)) then _ else _) _
   refine gW (fun h => ?_) (fun h => ?_)
   ·have h:(k:Int) < g.Edges.length:=of_decide_eq_true h;have hk':k < g.Edges.length:=by omega
    refine ag ⟨by omega,h⟩ ?_
    rw [LP,LP]
    refine gW (fun h => ?_) (fun h => ?_)
    ·refine BI true hk' (by omega) (fun _ ho => ?_) (fun h=>by cases h) hJ
     simp [ho.1,ho.2.1] at h
    ·simp only [Bool.not_eq_false',Bool.and_eq_true,decide_eq_true_eq] at h
     refine gW (fun h' => ?_) (fun h' => ?_)
     ·refine BI true hk' (by omega) (fun _ ho => ?_) (fun h=>by cases h) hJ
      simp [ho.2.2.1,ho.2.2.2.1] at h'
     ·simp only [Bool.not_eq_false',Bool.and_eq_true,decide_eq_true_eq] at h'
      refine gW (fun h1 => ?_) (fun h1 => ?_)
      ·refine BI true hk' (by omega) (fun _ ho => ?_) (fun h=>by cases h) hJ;have:=of_decide_eq_true h1;have:=ho.2.2.2.2.1
       omega
      ·refine gW (fun h2 => ?_) (fun h2 => ?_)
       ·refine BI true hk' (by omega) (fun _ ho => ?_) (fun h=>by cases h) hJ;have:=of_decide_eq_true h2;have:=ho.2.2.2.2.2.1
        omega
       ·have h1:=of_decide_eq_false h1;have h2:=of_decide_eq_false h2;refine bU (ones _ (by omega) (by omega)) (fun c hc => ?_)
        rw [hc]
        refine BI _ hk' (by omega) (fun hx ho => ?_) (fun hx => ?_) hJ
        ·have:=ho.2.2.2.2.2.2
         rw [this] at hx
         cases hx
        ·refine ⟨h.1,h.2,h'.1,h'.2,by omega,by omega,?_⟩
         simpa using hx
   ·have h:¬ (k:Int) < g.Edges.length:=of_decide_eq_false h;exact au ⟨_,rfl,Or.inl ⟨rfl,h0,h1,by omega,fun i hi=>hJ i (by omega)⟩⟩
 unfold dw;refine gW (fun h => ?_) (fun h => ?_)
 ·exact ⟨_,rfl,Or.inr ⟨rfl,fun hg=>by have:=of_decide_eq_true h; have:=hg.n0; omega⟩⟩
 ·have h:=of_decide_eq_false h;refine gW (fun h' => ?_) (fun h' => ?_)
  ·exact ⟨_,rfl,Or.inr ⟨rfl,fun hg=>by have:=of_decide_eq_true h'; have:=hg.n1; omega⟩⟩
  ·have h':=of_decide_eq_false h';exact hj _ (by omega) (by omega) rfl
theorem ER (g:fU):(Good g∧dw g=some 0)∨(¬ Good g∧dw g=some 60):=by
 obtain ⟨r,h,h' | h'⟩:=CV g
 ·exact Or.inl ⟨h'.2,h'.1 ▸ h⟩
 ·exact Or.inr ⟨h'.2,h'.1 ▸ h⟩
theorem ES {g:fU} (hg:Good g):dw g=some 0:=by
 rcases ER g with h | h
 ·exact h.2
 ·exact absurd hg h.1
def SI (g:fU) (mask:Int) (x i j:Nat):Prop:=∃ k:Nat,k < x∧cz .i64 (idx g.Edges (k:Int)).Kind mask≠0∧(idx g.Edges (k:Int)).From=i∧(idx g.Edges (k:Int)).To=j
def Sel (g:fU) (mask:Int) (i j:Nat):Prop:=SI g mask g.Edges.length i j
theorem Ow {g:fU} {mask:Int} (hg:Good g) {i j:Nat} (h:Sel g mask i j):i < g.N.toNat∧j < g.N.toNat:=by
 obtain ⟨k,hk,_,h1,h2⟩:=h;have:=hg.e k hk;unfold zD at this
 omega
def Rows (ws:List Int) (n:Nat) (p:Nat→Nat→Prop):Prop:=ws.length=n∧∀ i:Nat,i < n→Wd (idx ws (i:Int)) (p i)
theorem DL {g:fU} (mask:Int) (hg:Good g):Tri (iP g mask) (fun ws=>Rows ws g.N.toNat (Sel g mask)):=by
 have:=hg.n0;have:=hg.n1;have:=hg.m;unfold iP;refine ag ⟨by omega,by omega,by omega⟩ ?_
 refine Ad g.Edges.length (fun k ws=>Rows ws g.N.toNat (SI g mask k)) ⟨by simp,fun i hi => ?_⟩ (fun k ws hk hJ => ?_)
 ·rw [LY]
  exact Wd.zero.congr fun j=>⟨fun h=>h.elim,fun ⟨k,h,_⟩=>by omega⟩
 show Tri (bif decide ((k:Int) < (g.Edges.length:Int)) then _ else _) _
 refine gW (fun h => ?_) (fun h => ?_)
 ·have h:(k:Int) < g.Edges.length:=of_decide_eq_true h;have hk':k < g.Edges.length:=by omega
  have ho:=hg.e k hk';unfold zD at ho;refine ag ⟨by omega,h⟩ ?_
  have hlen:=hJ.1;refine gW (fun h => ?_) (fun h => ?_)
  ·refine ag ⟨by omega,by omega⟩ (ag ⟨by omega,by unfold far; omega⟩ ?_)
   refine ⟨_,rfl,aQ (by omega),hk',by simp [hJ.1],fun i hi => ?_⟩
   rw [Hu ho.1 (by omega)]
   obtain ⟨t,ht⟩:∃ t:Nat,(idx g.Edges (k:Int)).To=t:=⟨(idx g.Edges (k:Int)).To.toNat,by omega⟩
   split
   ·rename_i e
    rw [← e]
    refine ((hJ.2 i hi).or (Wd.bit ht (by omega))).congr fun j=>⟨?_,?_⟩
    ·rintro (⟨q,h1,h2⟩ | rfl)
     ·exact ⟨q,by omega,h2⟩
     ·exact ⟨k,by omega,by simpa using h,e.symm,ht⟩
    ·rintro ⟨q,h1,h2,h3,h4⟩
     by_cases e':q=k
     ·subst e'
      right
      omega
     ·exact Or.inl ⟨q,by omega,h2,h3,h4⟩
   ·rename_i e
    refine (hJ.2 i hi).congr fun j=>⟨fun ⟨q,h1,h2⟩=>⟨q,by omega,h2⟩,?_⟩
    rintro ⟨q,h1,h2,h3,h4⟩
    by_cases e':q=k
    ·subst e'; exact absurd h3.symm e
    ·exact ⟨q,by omega,h2,h3,h4⟩
  ·refine ⟨_,rfl,aQ (by omega),hk',hJ.1,fun i hi => ?_⟩;refine (hJ.2 i hi).congr fun j=>⟨fun ⟨q,h1,h2⟩=>⟨q,by omega,h2⟩,?_⟩
   rintro ⟨q,h1,h2,h3,h4⟩
   by_cases e':q=k
   ·subst e';exact absurd (by simpa using h) h2
   ·exact ⟨q,by omega,h2,h3,h4⟩
 ·have h:¬ (k:Int) < g.Edges.length:=of_decide_eq_false h;have e:k=g.Edges.length:=by omega
  subst e;exact au ⟨_,rfl,hJ⟩
end Go.Proofs.YtfpeabnehpclnaaGreatDoorT
namespace Go.Proofs.YtfpeabnehpclnaaGreatDoorT
open Go Go.Proofs Go.Proofs.YtfpeabnehpclnaaGreatDoorE
set_option linter.unusedVariables false
set_option linter.unusedSimpArgs false
open Classical
section
variable {h:History}
theorem oV {β:Type} {f:Nat→List β} {k:Nat} {e:β}:e ∈ upE f k↔∃ j:Nat,j < k∧e ∈ f j:=by
 unfold upE
 rw [List.mem_flatMap]
 constructor
 ·rintro ⟨j,h1,h2⟩; exact ⟨j,List.mem_range.1 h1,h2⟩
 ·rintro ⟨j,h1,h2⟩; exact ⟨j,List.mem_range.2 h1,h2⟩
theorem Ox {α β:Type} [Inhabited α] {g:α→List β} {l:List α}:upE (fun k=>g (idx l (k:Int))) l.length=l.flatMap g:=by
 have key:∀ k:Nat,k≤l.length→upE (fun k=>g (idx l (k:Int))) k=(l.take k).flatMap g:=by
  intro k
  induction k with
  | zero=>intro _; simp [upE]
  | succ k ih =>
   intro hk
   rw [ui,ih (by omega),iQ (by omega),List.flatMap_append]
   simp
 rw [key l.length (Nat.le_refl _),List.take_length]
structure EOk (h:History) (e:Edge):Prop where
 f0:0≤e.From
 f1:e.From < (h.Txns.length:Int)
 t0:0≤e.To
 t1:e.To < (h.Txns.length:Int)
 ne:e.From≠e.To
 sf:(idx h.Txns e.From).Status≠2
 st:(idx h.Txns e.To).Status≠2
 kd:(e.Kind=1∧e.Key = -1∧(idx h.Txns e.From).Proc=(idx h.Txns e.To).Proc∧e.From < e.To∧(idx h.Txns e.From).Status=1∧(idx h.Txns e.To).Status=1) ∨
  (e.Kind=2∧e.Key = -1∧(idx h.Txns e.From).Status=1∧(idx h.Txns e.To).Status=1∧(idx h.Txns e.From).To < (idx h.Txns e.To).From) ∨
  (e.Kind=4∧0 < (eH h e.From e.Key).length∧(idx h.Txns e.To).Status=1) ∨
  (e.Kind=8∧0 < (eH h e.From e.Key).length∧0 < (eH h e.To e.Key).length) ∨
  (e.Kind=16∧0 < (eH h e.To e.Key).length∧(idx h.Txns e.From).Status=1∧(idx h.Txns e.To).Status=1)
theorem SK {a:Nat} (ha:a < h.Txns.length) {e:Edge} (he:e ∈ soE h a):EOk h e:=by
 unfold soE at he
 split at he
 ·rename_i hd
  split at he
  ·rename_i b hb
   obtain ⟨q1,q2,q3,q4⟩:=LB (by omega) hb
   rw [List.mem_singleton] at he
   subst he;have hd:(idx h.Txns (a:Int)).Status=1:=hd;have q3:(idx h.Txns (b:Int)).Status=1:=q3;exact ⟨by dsimp only; omega,by dsimp only; omega,by dsimp only; omega,by dsimp only; omega,by dsimp only; omega,by dsimp only; omega,by dsimp only; omega,.inl ⟨rfl,rfl,q4.symm,by dsimp only; omega,hd,q3⟩⟩
  ·cases he
 ·cases he
theorem SL (hS:dB h) {a b:Nat} (ha:a < h.Txns.length) (hb:b < h.Txns.length) {e:Edge} (he:e ∈ FR h a b):EOk h e:=by
 unfold FR at he
 split at he
 ·rename_i hd
  obtain ⟨d1,d2,d3⟩:=hd
  rw [List.mem_singleton] at he
  subst he;have d1:(idx h.Txns (a:Int)).Status=1:=d1;have d2:(idx h.Txns (b:Int)).Status=1:=d2;have hne:(a:Int)≠(b:Int):=by
   intro e;have e:a=b:=by omega
   subst e;obtain ⟨⟨_,_,_,f4,f5,_⟩,_⟩:=hS.txn a ha;have:(idx h.Txns (a:Int)).To ≠ -1:=fun e=>by have:=f4 e; omega
   have:=f5 this
   omega
  exact ⟨by dsimp only; omega,by dsimp only; omega,by dsimp only; omega,by dsimp only; omega,hne,by dsimp only; omega,by dsimp only; omega,.inr (.inl ⟨rfl,rfl,d1,d2,d3⟩)⟩
 ·cases he
theorem Eh {a:Ask} (ha:a ∈ aU h h.Txns.length):0≤a.Txn∧a.Txn < (h.Txns.length:Int)∧(idx h.Txns a.Txn).Status=1:=by
 obtain ⟨t,e,h1,h2⟩:=BD ha
 rw [e]
 exact ⟨by omega,by omega,h2⟩
theorem SN (hS:dB h) (hc:az h=some 0) {a:Ask} (ha:a ∈ aU h h.Txns.length) {e:Edge} (he:e ∈ wrE h a):EOk h e:=by
 obtain ⟨t0,t1,td⟩:=Eh ha;unfold wrE at he
 split at he
 ·rename_i p hp
  split at he
  ·cases he
  ·rename_i hn
   rw [List.mem_singleton] at he
   subst he;obtain ⟨⟨q1,q2,q3,q4⟩,q5⟩:=jM.1 ((Oq hS hc ha (x:=p) (by rw [hp]; simp)).resolve_left hn);exact ⟨q1,q2,t0,t1,q5,q3,by dsimp only; omega,.inr (.inr (.inl ⟨rfl,q4,td⟩))⟩
 ·cases he
theorem SQ (hS:dB h) (hc:az h=some 0) {a:Ask} (ha:a ∈ aU h h.Txns.length) {e:Edge} (he:e ∈ wwE h a):EOk h e:=by
 obtain ⟨p1,p2,_,_⟩:=CU hS hc ha;unfold wwE at he
 split at he
 rotate_left
 ·cases he
 obtain ⟨i,hi,he⟩:=oV.1 he;have hpi:=jM.1 (p1 _ (dJ hi));obtain ⟨⟨q1,q2,q3,q4⟩,q5⟩:=hpi;unfold yQ at he
 split at he
 ·rename_i hk
  rw [List.mem_singleton] at he
  subst he;obtain ⟨⟨r1,r2,r3,r4⟩,r5⟩:=jM.1 (p1 _ (dJ hk.2));refine ⟨q1,q2,r1,r2,fun e => ?_,q3,r3,.inr (.inr (.inr (.inl ⟨rfl,q4,r4⟩)))⟩;have:=EP p2 hi hk.2 e
  omega
 ·obtain ⟨k,hk,he⟩:=oV.1 he;unfold wwT at he
  split at he
  ·cases he
  ·rename_i hn
   rw [List.mem_singleton] at he
   subst he;obtain ⟨⟨r1,r2,r3⟩,r4,r5⟩:=BF.1 (dJ hk);refine ⟨q1,q2,r1,r2,fun e => ?_,q3,by dsimp only; omega,.inr (.inr (.inr (.inl ⟨rfl,q4,r3⟩)))⟩
   dsimp only at e
   rw [← e] at hn
   exact hn (dJ hi)
theorem SS {a:Ask} (ha:a ∈ aU h h.Txns.length) {e:Edge} (he:e ∈ rwE h a):EOk h e:=by
 obtain ⟨t0,t1,td⟩:=Eh ha;unfold rwE at he;obtain ⟨k,hk,he⟩:=oV.1 he;unfold rwT at he
 split at he
 ·rw [List.mem_singleton] at he
  subst he;obtain ⟨⟨r1,r2,r3⟩,r4,r5⟩:=BF.1 (dJ hk);exact ⟨t0,t1,r1,r2,fun e=>r4 e.symm,by dsimp only; omega,by dsimp only; omega,.inr (.inr (.inr (.inr ⟨rfl,r3,td,r5⟩)))⟩
 ·cases he
theorem Jg (hS:dB h) (hc:az h=some 0) {e:Edge} (he:e ∈ gF h):EOk h e:=by
 unfold gF at he;rcases List.mem_append.1 he with he | he
 ·rcases List.mem_append.1 he with he | he
  ·obtain ⟨j,hj,he⟩:=oV.1 he;exact SK hj he
  ·obtain ⟨j,hj,he⟩:=oV.1 he;obtain ⟨k,hk,he⟩:=oV.1 he;exact SL hS hj hk he
 ·obtain ⟨a,ha,he⟩:=List.mem_flatMap.1 he;unfold DK at he;rcases List.mem_append.1 he with he | he
  ·rcases List.mem_append.1 he with he | he
   ·exact SN hS hc ha he
   ·exact SQ hS hc ha he
  ·exact SS ha he
theorem LQ {a:Ask} {p:Int}:∀ d:List Int,(d.flatMap (wwT h a p)).length=(d.filter fun t=>decide (t ∉ (pts h a).1)).length
 | []=>rfl
 | t::d=>by
  rw [List.flatMap_cons,List.length_append,LQ d]
  by_cases ht:t ∈ (pts h a).1
  ·rw [wwT,if_pos ht,List.filter_cons_of_neg (by simpa using ht)]
   simp
  ·rw [wwT,if_neg ht,List.filter_cons_of_pos (by simpa using ht)]
   simp
   omega
theorem QP (hS:dB h) (hc:az h=some 0) {a:Ask} (ha:a ∈ aU h h.Txns.length):(DK h a).length≤305:=by
 obtain ⟨p1,p2,_,p3⟩:=CU hS hc ha;have h3:=LD (h:=h) (a:=a);have h4:=Hl (h:=h) (a:=a) (k:=(dwr h a).length);have h5:=BG (h:=h) (a:=a);have h6:=hS.len;have h7:=Ha hS (a:=a);have hdn:(dwr h a).Nodup:=AB.filter _;have hsum:((pts h a).1++(dwr h a).filter fun t=>decide (t ∉ (pts h a).1)).length≤(oth h a).length:=by
  refine ql ?_ (fun x hx => ?_)
  ·rw [List.nodup_append]
   refine ⟨p2,hdn.filter _,fun x hx y hy e => ?_⟩;subst e;have:=(List.mem_filter.1 hy).2
   rw [decide_eq_true_eq] at this
   exact this hx
  ·rcases List.mem_append.1 hx with hx | hx
   ·exact p1 x hx
   ·obtain ⟨⟨r1,r2,r3⟩,r4,r5⟩:=BF.1 (List.mem_filter.1 hx).1;exact jM.2 ⟨⟨r1,r2,by rw [r5]; decide,r3⟩,r4⟩
 rw [List.length_append] at hsum
 generalize hcn:((dwr h a).filter fun t=>decide (t ∉ (pts h a).1)).length=c at hsum;have hat:∀ i,(yQ h a i).length≤c + 1:=fun i=>by
  unfold yQ
  split
  ·simp
  ·have e:=Ox (g:=wwT h a (idx (pts h a).1 (i:Int))) (l:=dwr h a)
   rw [e,LQ,hcn]
   omega
 have hw:=uS (f:=yQ h a) hat (pts h a).1.length;have hm:∀ p:Nat,p≤32→p * (33 - p)≤272:=by decide
 have h8:=hm (pts h a).1.length p3;have h9:(pts h a).1.length * (c + 1)≤(pts h a).1.length * (33 - (pts h a).1.length):=Nat.mul_le_mul_left _ (by omega);unfold DK rwE wwE
 simp only [List.length_append]
 split
 ·omega
 ·simp only [List.length_nil]; omega
theorem Gq (hS:dB h) (hc:az h=some 0):(gF h).length≤262144:=by
 obtain ⟨i1,_,_⟩:=qM hS h.Txns.length (Nat.le_refl _);have a1:=hS.len;have h1:=Ef (h:=h) (k:=h.Txns.length);have h2:=Hg hS (Nat.le_refl h.Txns.length);have key:∀ l:List Ask,(∀ a ∈ l,a ∈ aU h h.Txns.length)→(l.flatMap (DK h)).length≤305 * l.length:=by
  intro l
  induction l with
  | nil=>intro _; simp
  | cons a l ih =>
   intro hl
   rw [List.flatMap_cons,List.length_append,List.length_cons]
   have:=QP hS hc (hl a (by simp));have:=ih (fun b hb=>hl b (by simp [hb]))
   omega
 have h3:=key _ (fun a ha=>ha);unfold gF
 rw [List.length_append,List.length_append]
 omega
theorem Kz (hS:dB h) (hc:az h=some 0):Good ⟨(h.Txns.length:Int),gF h⟩:=by
 have a1:=hS.len;refine ⟨by dsimp only; omega,by dsimp only; omega,Gq hS hc,fun k hk => ?_⟩
 dsimp only at hk ⊢
 have he:=Jg hS hc (e:=idx (gF h) (k:Int)) (by rw [bS (n:=k) rfl hk]; exact List.getElem_mem _);have hkd:(idx (gF h) (k:Int)).Kind=1∨(idx (gF h) (k:Int)).Kind=2∨(idx (gF h) (k:Int)).Kind=4∨(idx (gF h) (k:Int)).Kind=8∨(idx (gF h) (k:Int)).Kind=16:=by
  rcases he.kd with h | h | h | h | h
  ·exact .inl h.1
  ·exact .inr (.inl h.1)
  ·exact .inr (.inr (.inl h.1))
  ·exact .inr (.inr (.inr (.inl h.1)))
  ·exact .inr (.inr (.inr (.inr h.1)))
 refine ⟨he.f0,he.f1,he.t0,he.t1,by omega,by omega,?_⟩
 rcases hkd with e | e | e | e | e <;> rw [e] <;> decide
end
end Go.Proofs.YtfpeabnehpclnaaGreatDoorT
namespace Go.Proofs.YtfpeabnehpclnaaGreatDoorT
open Go Go.Proofs Go.Proofs.YtfpeabnehpclnaaGreatDoorE
set_option linter.unusedVariables false
set_option linter.unusedSimpArgs false
set_option maxRecDepth 4096
def Jh (S:Nat→Nat→Prop) (l:List Nat) (j:Nat):Prop:=j ∉ l∧∀ i,S i j→i ∈ l
inductive Ord (n:Nat) (S:Nat→Nat→Prop):List Nat→Prop
 | nil:Ord n S []
 | snoc {l:List Nat} {j:Nat}:Ord n S l→j < n→Jh S l j→(∀ i,i < j → ¬ Jh S l i)→Ord n S (l++[j])
def Sb (n:Nat) (S:Nat→Nat→Prop) (r:List Int×Bool×Int):Prop :=
 (∃ l,Ord n S l∧l.length=n∧r=(l.map (fun v:Nat=>(v:Int)),true,0))∨(∃ l,Ord n S l∧l.length < n∧(∀ j,j < n → ¬ Jh S l j)∧r=([],false,0))
theorem Oy {l:List Nat} {j v:Nat}:v ∈ l++[j]↔v ∈ l∨v=j:=by simp
theorem CW {g:fU} (mask:Int) (hg:Good g):Tri (dA g mask) (Sb g.N.toNat (Sel g mask)):=by
 have a3:=hg.n0;have a2:=hg.n1;generalize hn:g.N.toNat=n;have hN:g.N=n:=by omega
 have hrt:=DL mask hg;have hS:∀ i j,Sel g mask i j→i < n∧j < n:=fun i j h=>by subst hn; exact Ow hg h
 generalize Sel g mask=S at hrt hS ⊢
 rw [hn] at hrt
 unfold dA
 rw [ES hg]
 show Tri (must (0≤g.N∧g.N≤9223372036854775807∧(8:Int) * g.N≤281474976710656) ((iP g mask).bind fun a1=>iter (vC g a1) (List.replicate g.N.toNat (default:Int),0))) _
 refine ag ⟨by omega,by omega,by omega⟩ (bU hrt (fun ws hws => ?_))
 rw [hn]
 have hwl:=hws.1;refine Ad n (fun k into=>into.length=n∧∀ j:Nat,j < n→Wd (idx into (j:Int)) (fun i=>i < k∧S i j)) ⟨by simp,fun j hj=>by rw [LY]; exact Wd.zero.congr fun i=>⟨fun h=>h.elim,fun h=>by omega⟩⟩ (fun k into hk hJ => ?_)
 obtain ⟨hil,hiw⟩:=hJ
 show Tri (bif decide ((k:Int) < (ws.length:Int)) then must (0≤(k:Int)∧(k:Int) < (ws.length:Int)) (iter (vv (k:Int)) (into,idx ws (k:Int))) else (iter (vz g into) ([],0))) _
 refine gW (fun h => ?_) (fun h => ?_)
 ·have h:(k:Int) < ws.length:=of_decide_eq_true h;have hkn:k < n:=by omega
  refine ag ⟨by omega,h⟩ ?_
  refine xP (fun s:List Int×Int=>∃ R:Nat→Prop,s.1.length=n∧Wd s.2 R∧(∀ j,R j→S k j)∧∀ j:Nat,j < n→Wd (idx s.1 (j:Int)) (fun i=>(i < k∧S i j)∨(i=k∧S k j ∧ ¬ R j))) (fun s=>s.2.toNat) ?_ ?_
  ·exact ⟨S k,hil,hws.2 k hkn,fun j h=>h,fun j hj=>(hiw j hj).congr fun i=>⟨Or.inl,fun h=>h.elim id fun h=>absurd h.2.1 h.2.2⟩⟩
  rintro ⟨l,row⟩ ⟨R,i1,i2,hR,i3⟩;have hl:l.length=n:=i1;have wR:Wd row R:=i2;have hlw:∀ j:Nat,j < n→Wd (idx l (j:Int)) (fun i=>(i < k∧S i j)∨(i=k∧S k j ∧ ¬ R j)):=i3;clear i1 i2 i3
  show Tri (bif (row != 0) then _ else _) _
  refine gW (fun h => ?_) (fun h => ?_)
  ·have h0:row≠0:=by simpa using h
   obtain ⟨b,hb,a4,f0,f1,pb,wb,dec⟩:=wR.low h0;have hsb:=hR b pb;have hbn:=(hS k b hsb).2;refine bU (R:=fun y=>y=(b:Int)) ?_ ?_
   ·unfold bits_TrailingZeros64;exact ag ⟨f0,f1⟩ ⟨_,rfl,by rw [hb]⟩
   rintro y rfl;refine ag ⟨by omega,by omega⟩ (ag ⟨by omega,by unfold far; omega⟩ ⟨_,rfl,⟨_,by simp [hl],wb,fun j h=>hR j h.1,fun j hj => ?_⟩,dec⟩)
   rw [Hu (by omega) (by omega)]
   split
   ·rename_i e
    have e:j=b:=by omega
    subst e;refine ((hlw j hbn).or (Wd.bit (n:=k) rfl (by omega))).congr fun i=>⟨?_,?_⟩
    ·rintro ((h | h) | h)
     ·exact Or.inl h
     ·exact absurd pb h.2.2
     ·exact Or.inr ⟨h,hsb,fun h=>h.2 rfl⟩
    ·rintro (h | h)
     ·exact Or.inl (Or.inl h)
     ·exact Or.inr h.1
   ·rename_i e
    refine (hlw j hj).congr fun i=>⟨?_,?_⟩
    ·rintro (h | h)
     ·exact Or.inl h
     ·exact Or.inr ⟨h.1,h.2.1,fun h'=>h.2.2 h'.1⟩
    ·rintro (h | h)
     ·exact Or.inl h
     ·exact Or.inr ⟨h.1,h.2.1,fun h'=>h.2.2 ⟨h',by omega⟩⟩
  ·have h0:row=0:=by simpa using h
   have hno:=wR.none.1 h0;refine au ⟨_,rfl,aQ (by omega),hkn,hl,fun j hj=>(hlw j hj).congr fun i=>⟨?_,?_⟩⟩
   ·rintro (h | h)
    ·exact ⟨by omega,h.2⟩
    ·rw [h.1]; exact ⟨by omega,h.2.1⟩
   ·rintro ⟨h1,h2⟩
    by_cases e:i=k
    ·subst e; exact Or.inr ⟨rfl,h2,hno j⟩
    ·exact Or.inl ⟨by omega,h2⟩
 ·have h:¬ (k:Int) < ws.length:=of_decide_eq_false h;have hkn:k=n:=by omega
  subst hkn;have hiw:∀ j:Nat,j < k→Wd (idx into (j:Int)) (fun i=>S i j):=fun j hj=>(hiw j hj).congr fun i=>⟨fun h=>h.2,fun h=>⟨(hS i j h).1,h⟩⟩;refine xP (fun s:List Int×Int=>∃ l,s.1=l.map (fun v:Nat=>(v:Int))∧Ord k S l∧l.length≤k∧Wd s.2 (fun v=>v ∈ l)) (fun s=>k - s.1.length) ⟨[],rfl,.nil,by simp,Wd.zero.congr fun v=>by simp⟩ ?_
  rintro ⟨li,told⟩ ⟨l,i1,hl,hlk,i2⟩;have e1:li=l.map (fun v:Nat=>(v:Int)):=i1;have wt:Wd told (fun v=>v ∈ l):=i2;clear i1 i2;have hll:li.length=l.length:=by rw [e1]; simp
  show Tri (bif decide ((li.length:Int) < g.N) then iter (vw into li told) 0 else (out (out (some (li,true,0))))) _
  refine gW (fun h => ?_) (fun h => ?_)
  ·have h:(li.length:Int) < g.N:=of_decide_eq_true h;refine Ht k (fun j=>∀ i,i < j → ¬ Jh S l i) (fun i hi=>by omega) (fun j hj hJ => ?_)
   show Tri (bif decide ((j:Int) < (into.length:Int)) then _ else _) _
   refine gW (fun h' => ?_) (fun h' => ?_)
   ·have h':(j:Int) < into.length:=of_decide_eq_true h';have hjk:j < k:=by omega
    have next:∀ {Q:(List Int×Int) ⊕ ((List Int×Int) ⊕ (List Int×Bool×Int))→Prop},¬ Jh S l j→Tri (om li told (j:Int) false) (Up k j (fun j=>∀ i,i < j → ¬ Jh S l i) Q):=fun hn'=>⟨_,rfl,aQ (by omega),hjk,fun i hi=>by
     by_cases e:i=j
     ·rw [e]; exact hn'
     ·exact hJ i (by omega)⟩
    refine ag ⟨by omega,h'⟩ (ag ⟨by omega,by unfold far; omega⟩ ?_)
    rcases wt.look (n:=j) rfl (by omega) with ⟨e,hm⟩ | ⟨e,hm⟩
    ·rw [e,show ((1:Int) == 0)=false from rfl,cond_false]
     exact next fun hf=>hf.1 hm
    ·rw [e,show ((0:Int) == 0)=true from rfl,cond_true]
     have wx:=(hiw j hjk).andNot wt
     by_cases hz:lK .u64 (idx into (j:Int)) told=0
     ·rw [show (lK .u64 (idx into (j:Int)) told == 0)=true by simp [hz]]
      have hno:=wx.none.1 hz;have hf:Jh S l j:=⟨hm,fun i hs=>Classical.byContradiction fun hni=>hno i ⟨hs,hni⟩⟩;unfold om
      rw [cond_true]
      refine ag ⟨by omega,by unfold far; omega⟩ ?_
      refine ag ⟨by omega,by omega⟩ ?_
      refine au ⟨_,rfl,?_⟩;refine ⟨⟨l++[j],by rw [e1]; simp,.snoc hl hjk hf hJ,by simp; omega,?_⟩,?_⟩
      ·refine (wt.or (Wd.bit (n:=j) rfl (by omega))).congr fun v => ?_
       rw [Oy]
      ·show k - (li++[(j:Int)]).length < k - li.length
       rw [List.length_append,List.length_singleton]
       omega
     ·rw [show (lK .u64 (idx into (j:Int)) told == 0)=false by simp [hz]]
      exact next fun hf=>hz (wx.none.2 fun i hi=>hi.2 (hf.2 i hi.1))
   ·have h':¬ (j:Int) < into.length:=of_decide_eq_false h';refine au (au (au ⟨_,rfl,Or.inr ⟨l,hl,by omega,fun i hi=>hJ i (by omega),rfl⟩⟩))
  ·have h:¬ (li.length:Int) < g.N:=of_decide_eq_false h;refine au (au ⟨_,rfl,Or.inl ⟨l,hl,by omega,by rw [e1]⟩⟩)
end Go.Proofs.YtfpeabnehpclnaaGreatDoorT
namespace Go.Proofs.YtfpeabnehpclnaaGreatDoorT
open Go Go.Proofs Go.Proofs.YtfpeabnehpclnaaGreatDoorE
set_option linter.unusedVariables false
set_option linter.unusedSimpArgs false
section
variable {h:History} {l:List Int}
end
end Go.Proofs.YtfpeabnehpclnaaGreatDoorT
namespace Go.Proofs.YtfpeabnehpclnaaGreatDoorT
open Go Go.Proofs Go.Proofs.YtfpeabnehpclnaaGreatDoorE
set_option linter.unusedVariables false
set_option linter.unusedSimpArgs false
section
variable {h:History} {x:Exec}
structure sQ (h:History) (x:Exec):Prop where
 sp:jK h h.Txns.length=[]
 ord:oC h x.Order
 len:x.Picks.length=(aU h h.Txns.length).length
 sess:Oj h x.Order
 pick:∀ i,i < (aU h h.Txns.length).length→xO h x.Order (idx (aU h h.Txns.length) (i:Int)) (idx x.Picks (i:Int))=0
theorem Hm {r:Int} (hw:Why h x r):r=0↔sQ h x:=by
 constructor
 ·intro e;cases hw with
  | bad=>cases e
  | order=>cases e
  | picks=>cases e
  | sess=>cases e
  | pick h1 h2 h3 h4 h5 =>
   rcases h5 with ⟨_,h5⟩ | ⟨_,_,_,n,_⟩
   ·exact ⟨h1,h2,h3,h4,h5⟩
   ·exact absurd e n
 ·intro hf;exact Why.det hw (.pick hf.sp hf.ord hf.len hf.sess (.inl ⟨rfl,hf.pick⟩))
theorem CX {l:List Int} {a:Ask} {p:Int}:xO h l a p=0↔(p = -1∨Ahead h l a p)∧ver h l a p=a.Base:=by
 unfold xO
 by_cases h1:p ≠ -1 ∧ ¬ Ahead h l a p
 ·rw [if_pos h1]
  exact ⟨fun e=>(nomatch e),fun h2=>absurd h2.1 (fun h3=>h3.elim h1.1 h1.2)⟩
 ·rw [if_neg h1]
  have h1':p = -1∨Ahead h l a p:=by
   by_cases hp:p = -1
   ·exact .inl hp
   ·exact .inr (Classical.byContradiction fun h2=>h1 ⟨hp,h2⟩)
  by_cases h2:ver h l a p≠a.Base
  ·rw [if_pos h2]
   exact ⟨fun e=>(nomatch e),fun h3=>absurd h3.2 h2⟩
  ·rw [if_neg h2]
   exact ⟨fun _=>⟨h1',Classical.byContradiction h2⟩,fun _=>rfl⟩
theorem Oz (hs:qE h) (hl:x.Order.length < 2 ^ 50) (hpl:x.Picks.length < 2 ^ 50):Tri (gy h x) (fun r=>(r=(0,1)∧az h=some 1)∨(r.2=0∧dB h∧az h=some 0∧Why h x r.1)):=by
 obtain ⟨v,hv,hv',a1,hiff⟩:=EB hs;rcases a1 with rfl | rfl
 ·exact eX (Ol hs (hiff.1 rfl) hv hl hpl) (fun r hr => .inr ⟨hr.1,hiff.1 rfl,hv,hr.2⟩)
 ·exact LZ (QK hv) (.inl ⟨rfl,hv⟩)
theorem OA {a b:List Int} (hb:0 < b.length):(a++b).drop ((a++b).length - 1)=b.drop (b.length - 1):=by
 rw [List.length_append,List.drop_append,List.drop_eq_nil_of_le (by omega),List.nil_append]
 congr 1
 omega
end
end Go.Proofs.YtfpeabnehpclnaaGreatDoorT
namespace Go.Proofs.YtfpeabnehpclnaaGreatDoorT
open Go Go.Proofs Go.Proofs.YtfpeabnehpclnaaGreatDoorE
set_option linter.unusedVariables false
set_option linter.unusedSimpArgs false
theorem AA.one {O:List Int} {W:Int→List Int} (hP:Parts O W):∀ {m n:List Int},(∀ t ∈ m,t ∈ O)→(∀ t ∈ n,t ∈ O)→m.flatMap W=n.flatMap W→m=n
 | [],[],_,_,_=>rfl
 | [],u::n,_,h2,e=>by
  have:=hP.ne u (h2 u (by simp));have e2:=congrArg List.length e
  rw [List.flatMap_nil,List.flatMap_cons,List.length_append,List.length_nil] at e2
  omega
 | u::m,[],h1,_,e=>by
  have:=hP.ne u (h1 u (by simp));have e2:=congrArg List.length e
  rw [List.flatMap_nil,List.flatMap_cons,List.length_append,List.length_nil] at e2
  omega
 | u::m,v::n,h1,h2,e=>by
  have hu:=hP.ne u (h1 u (by simp));have hv:=hP.ne v (h2 v (by simp))
  rw [List.flatMap_cons,List.flatMap_cons] at e
  have e0:(W u)[0]=(W v)[0]:=by
   have:=congrArg (fun l=>l[0]?) e
   simp only [List.getElem?_append_left hu,List.getElem?_append_left hv] at this
   rw [List.getElem?_eq_getElem hu,List.getElem?_eq_getElem hv] at this
   exact Option.some.inj this
  have huv:u=v:=hP.ap u (h1 u (by simp)) v (h2 v (by simp)) (W u)[0] (List.getElem_mem _) (by rw [e0]; exact List.getElem_mem _);subst huv
  rw [List.append_cancel_left_eq] at e
  rw [AA.one hP (fun t ht=>h1 t (by simp [ht])) (fun t ht=>h2 t (by simp [ht])) e]
section
variable {h:History} {x:Exec}
theorem QQ (hS:dB h) (hc:az h=some 0) {a:Ask} {t p:Nat} (hk:BB h a t p):xN h a (typ (opAt h (t:Int) (p:Int)).Kind) (oz h a):=by
 obtain ⟨s,h1,_,h3⟩:=yB hS hc hk;have e:oz h a=s:=by unfold oz; rw [h1]; rfl
 rw [e]
 exact h3
theorem OB {W:Int→List Int} {l m:List Int} (hp:l.Perm m):(l.flatMap W).sum=(m.flatMap W).sum:=by
 induction hp with
 | nil=>rfl
 | cons y _ ih=>rw [List.flatMap_cons,List.flatMap_cons,List.sum_append,List.sum_append,ih]
 | swap y z l=>simp only [List.flatMap_cons,List.sum_append]; omega
 | trans _ _ h1 h2=>exact h1.trans h2
theorem Gr {O M:List Int} {W:Int→List Int}:∀ k:Nat,k≤O.length→rT O W (fun j=>decide (idx O (j:Int) ∈ M)) k=w64 (((O.take k).filter (fun u=>decide (u ∈ M))).flatMap W).sum
 | 0,_=>by simp [rT,oD]
 | k + 1,hk=>by
  rw [xM,Gr k (by omega),iQ (by omega),List.filter_append]
  by_cases hm:idx O (k:Int) ∈ M
  ·rw [if_pos (decide_eq_true hm)]
   have e:[idx O (k:Int)].filter (fun u=>decide (u ∈ M))=[idx O (k:Int)]:=by simp [hm]
   rw [e,CR,RL,NZ,List.flatMap_append,List.sum_append]
   simp
  ·rw [if_neg (by simp [hm])]
   have e:[idx O (k:Int)].filter (fun u=>decide (u ∈ M))=[]:=by simp [hm]
   rw [e,List.append_nil]
def upto (h:History) (l:List Int) (a:Ask) (p:Int):List Int:=(l.take (pos l p + 1)).filter (fun u=>decide (0 < (eH h u a.Key).length))
theorem Gs {l:List Int} {a:Ask} {p:Int}:(upto h l a p).flatMap (wro h a)=wrs h (l.take (pos l p + 1)) a.Key:=by
 unfold upto wrs;generalize l.take (pos l p + 1)=m
 induction m with
 | nil=>rfl
 | cons y m ih =>
  by_cases hy:0 < (eH h y a.Key).length
  ·rw [List.filter_cons_of_pos (by simpa using hy),List.flatMap_cons,List.flatMap_cons,ih]
  ·rw [List.filter_cons_of_neg (by simpa using hy),List.flatMap_cons,ih]
   have:eH h y a.Key=[]:=List.length_eq_zero_iff.1 (by omega)
   rw [this]; rfl
theorem Gt {l:List Int} {a:Ask} {p:Int} (hp:Ahead h l a p):∃ m,upto h l a p=m++[p]:=by
 obtain ⟨h1,h2,h3⟩:=hp;unfold upto
 rw [iQ (nE.2 h1),qo h1,List.filter_append]
 exact ⟨_,congrArg _ (by simp [h3])⟩
theorem Ji {l:List Int} {a:Ask} {p:Int} (ho:oC h l) (ha:a ∈ aU h h.Txns.length) (hp:Ahead h l a p):(∀ u ∈ upto h l a p,u ∈ oth h a)∧(upto h l a p).Nodup∧p ∈ upto h l a p:=by
 obtain ⟨m,hm⟩:=Gt hp;refine ⟨fun u hu => ?_,(ho.nd.sublist (List.take_sublist _ _)).filter _,by rw [hm]; simp⟩
 unfold upto at hu
 rw [List.mem_filter,decide_eq_true_eq] at hu
 obtain ⟨h1,h2⟩:=hu;obtain ⟨j,hj,hjl,e⟩:=EQ.1 h1;have hul:u ∈ l:=by rw [← e]; exact dJ hjl
 have hr:=ho.rg u hul;refine jM.2 ⟨⟨hr.1,hr.2.1,hr.2.2,h2⟩,fun e2 => ?_⟩;have h3:=Og ho.nd hjl e;have h4:=hp.2.1
 rw [← e2] at h4
 omega
theorem ET (hS:dB h) (hc:az h=some 0) (ho:oC h x.Order) {a:Ask} (ha:a ∈ aU h h.Txns.length) {p:Int} (hp:p = -1∨Ahead h x.Order a p) (hv:ver h x.Order a p=a.Base):p ∈ oz h a:=by
 classical
 obtain ⟨t,pl,hk⟩:=yx hS ha;have hs:=QQ hS hc hk;have hP:=fun a1=>zz (a:=a) hS hk a1;have hks:1≤typ (opAt h (t:Int) (pl:Int)).Kind∧typ (opAt h (t:Int) (pl:Int)).Kind≤4:=by
  obtain ⟨k1,k8⟩:=Aa hS hk.tl hk.pl;unfold typ
  omega
 unfold ver at hv
 rw [LA hk] at hv
 generalize typ (opAt h (t:Int) (pl:Int)).Kind=ty at hs hv hP hks;generalize oz h a=s at hs;unfold xN at hs;rcases hp with rfl | hp
 ·have e0:qG h x.Order a.Key (-1)=[]:=by unfold qG; rw [if_neg (by decide)]
  rw [e0] at hv
  by_cases h4:ty=4
  ·subst h4
   rw [if_pos rfl] at hs
   have:idx a.Base 0=0:=by rw [← hv]; rfl
   rw [if_pos this] at hs
   rw [hs]; simp
  ·rw [if_neg h4] at hs
   have:a.Base.length=0:=by
    rw [← hv]
    unfold fin
    rw [if_neg h4]
    split
    ·rfl
    ·split
     ·simp [srt]
     ·rfl
   rw [if_pos this] at hs
   rw [hs]; simp
 ·obtain ⟨u1,u2,u3⟩:=Ji ho ha hp;obtain ⟨m,hm⟩:=Gt hp;have hfl:=Gs (h:=h) (l:=x.Order) (a:=a) (p:=p);have h0p:0≤p:=(ho.rg p hp.1).1;have ea:qG h x.Order a.Key p=(upto h x.Order a p).flatMap (wro h a):=by unfold qG; rw [if_pos h0p,hfl]
  rw [ea] at hv
  generalize upto h x.Order a p=M at u1 u2 u3 hm hv;clear hfl ea;have hpo:=u1 p u3;have hwp:0 < (wro h a p).length:=hp.2.2;have hlen:0 < (M.flatMap (wro h a)).length:=by
   rw [hm,List.flatMap_append,List.length_append]
   simp only [List.flatMap_cons,List.flatMap_nil,List.append_nil]
   omega
  by_cases h4:ty=4
  ·rw [if_pos h4] at hs
   subst h4;have hb:idx a.Base 0=w64 (M.flatMap (wro h a)).sum:=by rw [← hv]; rfl
   rw [hs]
   refine List.mem_append_right _ ?_;unfold picks
   simp only [List.mem_map,List.mem_filter,List.mem_range,decide_eq_true_eq]
   obtain ⟨j,hj,ej⟩:=oU hpo;refine ⟨j,⟨hj,?_⟩,ej⟩;have hw:=Ed (O:=oth h a) (W:=wro h a) (want:=idx a.Base 0) (fun _=>false) (oth h a).length 0 j (fun _=>false) (fun _=>False) (by omega) (fun a=>by simp)
   rw [List.drop_zero] at hw
   refine hw.2 ⟨fun j=>decide (idx (oth h a) (j:Int) ∈ M),fun a h=>absurd h (Nat.not_lt_zero _),?_,hj,by dsimp only; rw [ej]; exact decide_eq_true u3⟩
   rw [Gr _ (Nat.le_refl _),List.take_length,hb]
   congr 1
   refine OB ((List.perm_ext_iff_of_nodup (rR.filter _) u2).2 fun u => ?_)
   rw [List.mem_filter,decide_eq_true_eq]
   exact ⟨fun h=>h.2,fun h=>⟨u1 u h,h⟩⟩
  ·rw [if_neg h4] at hs
   by_cases e1:ty=1
   ·subst e1;have hb:a.Base=(wro h a p).drop ((wro h a p).length - 1):=by
     rw [← hv]
     unfold fin
     rw [if_pos rfl,hm,List.flatMap_append]
     simp only [List.flatMap_cons,List.flatMap_nil,List.append_nil]
     exact OA hwp
    have hbl:a.Base.length≠0:=by rw [hb,List.length_drop]; omega
    rw [if_neg hbl,if_pos rfl] at hs
    rw [hs]
    unfold lasts
    rw [List.mem_filter]
    refine ⟨hpo,decide_eq_true ?_⟩;unfold wS
    rw [hb,bS (n:=(wro h a p).length - 1) rfl (by omega),show (0:Int)=((0:Nat):Int) from rfl,bS (n:=0) rfl (by rw [List.length_drop]; omega),List.getElem_drop]
    rfl
   ·by_cases e2:ty=2
    ·subst e2;have hb:M.flatMap (wro h a)=a.Base:=hv;have hbl:a.Base.length≠0:=by rw [← hb]; omega
     rw [if_neg hbl,if_neg (by decide),if_pos rfl] at hs
     obtain ⟨r,hr,rfl⟩:=hs;have hmk:AA (oth h a) (wro h a) a.Base M:=⟨u1,u2,hb.symm⟩;rcases hr with ⟨p1,p2,p3,p4⟩ | ⟨_,p2⟩
     ·rw [if_pos p1,AA.one (hP (.inl rfl)) p2 u1 (p4.symm.trans hb.symm),hm]
      rw [List.mem_singleton]
      unfold wS
      rw [bS (n:=(m++[p]).length - 1) rfl (by simp)]
      simp
     ·exact absurd hmk (p2 _)
    ·have e3:ty=3:=by omega
     subst e3;have hb:srt (M.flatMap (wro h a))=a.Base:=hv;have hpm:(M.flatMap (wro h a)).Perm a.Base:=by rw [← hb]; exact (List.mergeSort_perm _ _).symm
     have hbl:a.Base.length≠0:=by rw [← hpm.length_eq]; omega
     rw [if_neg hbl,if_neg (by decide),if_neg (by decide)] at hs
     obtain ⟨r,hr,rfl⟩:=hs;have full:∀ u ∈ M,cnt a.Base (wro h a u)=(wro h a u).length:=fun u hu=>by
      unfold cnt
      rw [List.filter_eq_self.2 (fun v hv=>decide_eq_true (hpm.mem_iff.1 (List.mem_flatMap.2 ⟨u,hu,hv⟩)))]
     have hW:Whole (oth h a) (wro h a) a.Base:=by
      refine ⟨fun u hu => ?_,fun v hv => ?_⟩
      ·by_cases huM:u ∈ M
       ·exact .inr (full u huM)
       ·left
        unfold cnt
        rw [List.length_eq_zero_iff,List.filter_eq_nil_iff]
        intro v hv hvb;obtain ⟨w,hw,hvw⟩:=List.mem_flatMap.1 (hpm.mem_iff.2 (of_decide_eq_true hvb));exact huM ((hP (.inr rfl)).ap u hu w (u1 w hw) v hv hvw ▸ hw)
      ·obtain ⟨w,hw,hvw⟩:=List.mem_flatMap.1 (hpm.mem_iff.2 hv);exact ⟨w,u1 w hw,hvw⟩
     rcases hr with ⟨rfl,_⟩ | ⟨_,p2⟩
     ·dsimp only
      unfold vU
      rw [List.mem_filter]
      exact ⟨hpo,decide_eq_true (by rw [full p u3]; exact hwp)⟩
     ·exact absurd hW p2
end
end Go.Proofs.YtfpeabnehpclnaaGreatDoorT
namespace Go.Proofs.YtfpeabnehpclnaaGreatDoorT
open Go Go.Proofs Go.Proofs.YtfpeabnehpclnaaGreatDoorE
set_option linter.unusedVariables false
set_option linter.unusedSimpArgs false
theorem wrap_u32 {n:Nat} (h:n < 2 ^ 32):IntKind.wrap .u32 (n:Int)=(n:Int):=by
 unfold IntKind.wrap
 simp only [IntKind.bits,IntKind.signed,Bool.false_and]
 have:((n:Int) % (2 ^ 32:Int))=n:=Int.emod_eq_of_lt (by omega) (by omega)
 simp only [this]
 simp
theorem Jj {a b:Nat} (ha:a < 2 ^ 32) (hb:b < 2 ^ 32):cz .u32 (a:Int) (b:Int)=((a &&& b:Nat):Int):=by
 unfold cz;have h:a &&& b < 2 ^ 32:=Nat.and_lt_two_pow _ hb
 rw [show IntKind.bits .u32=32 from rfl,BitVec.ofInt_natCast,BitVec.ofInt_natCast,BitVec.toNat_and,BitVec.toNat_ofNat,BitVec.toNat_ofNat,Nat.mod_eq_of_lt ha,Nat.mod_eq_of_lt hb]
 exact wrap_u32 h
theorem QR {a b:Nat} (ha:a < 2 ^ 32) (hb:b < 2 ^ 32):bOr .u32 (a:Int) (b:Int)=((a ||| b:Nat):Int):=by
 unfold bOr;have h:a ||| b < 2 ^ 32:=Nat.or_lt_two_pow ha hb
 rw [show IntKind.bits .u32=32 from rfl,BitVec.ofInt_natCast,BitVec.ofInt_natCast,BitVec.toNat_or,BitVec.toNat_ofNat,BitVec.toNat_ofNat,Nat.mod_eq_of_lt ha,Nat.mod_eq_of_lt hb]
 exact wrap_u32 h
def Ho (a b:Nat):Nat:=a &&& (2 ^ 32 - 1 - b)
theorem Jk {a b i:Nat} (ha:a < 2 ^ 32) (hb:b < 2 ^ 32):(Ho a b).testBit i=(a.testBit i && !b.testBit i):=by
 unfold Ho
 rw [Nat.testBit_and]
 have e:2 ^ 32 - 1 - b=2 ^ 32 - (b + 1):=by omega
 rw [e,Nat.testBit_two_pow_sub_succ hb]
 by_cases hi:i < 32
 ·simp [hi]
 ·have:a.testBit i=false:=Nat.testBit_lt_two_pow (Nat.lt_of_lt_of_le ha (Nat.pow_le_pow_right (by decide) (by omega)))
  simp [this]
theorem Jl {a b:Nat} (ha:a < 2 ^ 32) (hb:b < 2 ^ 32):lK .u32 (a:Int) (b:Int)=((Ho a b:Nat):Int):=by
 unfold lK
 rw [show IntKind.bits .u32=32 from rfl,BitVec.ofInt_natCast,BitVec.ofInt_natCast,BitVec.toNat_and,BitVec.toNat_not,BitVec.toNat_ofNat,BitVec.toNat_ofNat,Nat.mod_eq_of_lt ha,Nat.mod_eq_of_lt hb]
 exact wrap_u32 (Nat.lt_of_le_of_lt Nat.and_le_left ha)
theorem OC {n:Nat} (h:n < 32):jH .u32 1 (n:Int)=((2 ^ n:Nat):Int):=by
 unfold jH
 rw [show IntKind.bits .u32=32 from rfl,Int.toNat_natCast,Nat.min_eq_left (by omega)]
 have:(1:Int) * 2 ^ n=((2 ^ n:Nat):Int):=by rw [Int.one_mul]; exact (Int.natCast_pow 2 n).symm
 rw [this]
 exact wrap_u32 (Nat.pow_lt_pow_right (by decide) h)
theorem EU {a n:Nat} (h:n < 32):ed .u32 (a:Int) (n:Int)=((a >>> n:Nat):Int):=by
 unfold ed
 rw [show IntKind.bits .u32=32 from rfl,Int.toNat_natCast,Nat.min_eq_left (by omega),Nat.shiftRight_eq_div_pow]
 have:(2:Int) ^ n=((2 ^ n:Nat):Int):=(Int.natCast_pow 2 n).symm
 rw [this,Int.fdiv_eq_ediv_of_nonneg _ (Int.natCast_nonneg _)]
 exact (Int.natCast_ediv a (2 ^ n)).symm
def Wh (x:Int) (p:Nat→Prop):Prop:=∃ a:Nat,x=a∧a < 2 ^ 32∧∀ j,a.testBit j=true↔p j
theorem Wh.zero:Wh 0 (fun _=>False):=⟨0,rfl,by decide,by simp⟩
theorem Wh.congr {x:Int} {p q:Nat→Prop} (h:Wh x p) (e:∀ j,p j↔q j):Wh x q:=by
 obtain ⟨a,rfl,h1,h2⟩:=h;exact ⟨a,rfl,h1,fun j=>(h2 j).trans (e j)⟩
theorem Wh.lt {x:Int} {p:Nat→Prop} (h:Wh x p) {j:Nat} (hj:p j):j < 32:=by
 obtain ⟨a,rfl,h1,h2⟩:=h
 apply Nat.lt_of_not_le
 intro hle;have:=(h2 j).2 hj
 rw [Nat.testBit_lt_two_pow (Nat.lt_of_lt_of_le h1 (Nat.pow_le_pow_right (by decide) hle))] at this
 cases this
theorem Wh.or {x y:Int} {p q:Nat→Prop} (h:Wh x p) (h':Wh y q):Wh (bOr .u32 x y) (fun j=>p j∨q j):=by
 obtain ⟨a,rfl,h1,h2⟩:=h;obtain ⟨b,rfl,h3,h4⟩:=h';refine ⟨a ||| b,QR h1 h3,Nat.or_lt_two_pow h1 h3,fun j => ?_⟩
 rw [Nat.testBit_or,Bool.or_eq_true,h2,h4]
theorem Wh.and {x y:Int} {p q:Nat→Prop} (h:Wh x p) (h':Wh y q):Wh (cz .u32 x y) (fun j=>p j∧q j):=by
 obtain ⟨a,rfl,h1,h2⟩:=h;obtain ⟨b,rfl,h3,h4⟩:=h';refine ⟨a &&& b,Jj h1 h3,Nat.and_lt_two_pow _ h3,fun j => ?_⟩
 rw [Nat.testBit_and,Bool.and_eq_true,h2,h4]
theorem Wh.minus {x y:Int} {p q:Nat→Prop} (h:Wh x p) (h':Wh y q):Wh (lK .u32 x y) (fun j=>p j ∧ ¬ q j):=by
 obtain ⟨a,rfl,h1,h2⟩:=h;obtain ⟨b,rfl,h3,h4⟩:=h';refine ⟨_,Jl h1 h3,Nat.lt_of_le_of_lt Nat.and_le_left h1,fun j => ?_⟩;have e:=h4 j
 rw [Jk h1 h3,Bool.and_eq_true,h2,Bool.not_eq_true']
 show (p j∧b.testBit j=false)↔(p j ∧ ¬ q j)
 rw [← e]
 simp
theorem Wh.bit {n:Nat} (h:n < 32):Wh (jH .u32 1 (n:Int)) (fun j=>j=n):=by
 refine ⟨_,OC h,Nat.pow_lt_pow_right (by decide) h,fun j => ?_⟩
 rw [Nat.testBit_two_pow]
 simp [eq_comm]
theorem Wh.none {x:Int} {p:Nat→Prop} (h:Wh x p):x=0↔∀ j,¬ p j:=by
 obtain ⟨a,rfl,h1,h2⟩:=h
 constructor
 ·intro e j hj;have:a=0:=by omega
  subst this;have:=(h2 j).2 hj
  simp at this
 ·intro hn;have:a=0:=by
   apply Nat.eq_of_testBit_eq
   intro i
   rw [Nat.zero_testBit]
   cases hb:a.testBit i
   ·rfl
   ·exact absurd ((h2 i).1 hb) (hn i)
  subst this
  rfl
theorem Wh.det {x y:Int} {p:Nat→Prop} (h:Wh x p) (h':Wh y p):x=y:=by
 obtain ⟨a,rfl,h1,h2⟩:=h;obtain ⟨b,rfl,h3,h4⟩:=h'
 congr 1
 apply Nat.eq_of_testBit_eq
 intro i
 rw [Bool.eq_iff_iff,h2,h4]
theorem Wh.look {x:Int} {p:Nat→Prop} {n:Nat} (h:Wh x p) (hn:n < 32):(cz .u32 (ed .u32 x (n:Int)) 1 == 1)=true↔p n:=by
 obtain ⟨a,rfl,h1,h2⟩:=h
 rw [EU hn,show (1:Int)=((1:Nat):Int) from rfl,Jj (Nat.lt_of_le_of_lt (Nat.shiftRight_le _ _) h1) (by decide),Hw,← h2 n]
 cases a.testBit n <;> simp
theorem Wh.rf {x:Int} {p:Nat→Prop} {n:Nat} (h:Wh x p) (hn:n < 32):Rf (cz .u32 (ed .u32 x (n:Int)) 1 == 1) (p n):=⟨h.look hn⟩
theorem Wh.big {x:Int} {p:Nat→Prop} (h:Wh x p):0≤x∧x < 2 ^ 32:=by
 obtain ⟨a,rfl,h1,h2⟩:=h
 omega
theorem Wh.next {x:Int} {p:Nat→Prop} (h:Wh x p):Wh (ed .u32 x 1) (fun j=>p (j + 1)):=by
 obtain ⟨a,rfl,h1,h2⟩:=h;refine ⟨a >>> 1,EU (n:=1) (by decide),Nat.lt_of_le_of_lt (Nat.shiftRight_le _ _) h1,fun j => ?_⟩
 rw [Nat.testBit_shiftRight,Nat.add_comm]
 exact h2 _
theorem Wh.odd {x:Int} {p:Nat→Prop} (h:Wh x p):(cz .u32 x 1 == 1)=true↔p 0:=by
 have:=h.look (n:=0) (by decide);obtain ⟨a,rfl,h1,h2⟩:=h
 rwa [EU (by decide:0 < 32)] at this
theorem Nc {σ:Type} {Y:σ→Int→Option (Bool×σ)} {x:Int} {p:Nat→Prop} (h:Wh x p) (I:Nat→σ→Prop) {s0:σ} (h0:I 0 s0)
  (hs:∀ (t:Nat) (s:σ),t < 32→I t s→p t→Tri (Y s (t:Int)) (fun r=>r.1=true∧I (t + 1) r.2)) (hn:∀ (t:Nat) (s:σ),t < 32→I t s → ¬ p t→I (t + 1) s)
  {Q:σ→Prop} (hq:∀ (t:Nat) (s:σ),t≤32→I t s→(∀ u,t≤u → ¬ p u)→Q s):Tri (eB Y x s0) Q:=by
 unfold eB;refine bN (k0:=0) 32 (fun t s=>s.2.1=(t:Int)∧Wh s.1 (fun j=>p (j + t))∧I t s.2.2) (Nat.zero_le _) ⟨rfl,h,h0⟩ ?_;rintro t ⟨y,z,s⟩ ht ⟨e,hw,hi⟩
 dsimp only at e hw hi
 subst e;have a4:w64 ((t:Int) + 1)=((t + 1:Nat):Int):=aQ (by omega);unfold uA qh
 dsimp only
 have a3:y=0→Q s:=fun e=>hq t s ht hi (fun u hu hp=>hw.none.1 e (u - t) (by rw [Nat.sub_add_cancel hu]; exact hp));refine ai (fun h1 => ?_) (fun h1=>au (af (a3 (Classical.byContradiction h1))));have a1:t < 32:=by
  apply Nat.lt_of_not_le
  intro hle;have:t=32:=by omega
  subst this;exact h1 (hw.none.2 (fun j hj=>by have:=h.lt hj; omega))
 have nx:∀ s',I (t + 1) s'→Tri (bif false then out (some s') else (must (0≤(1:Int)∧(1:Int) < (far:Int)) (some (.inl (ed .u32 y (1:Int),((t + 1:Nat):Int),s')))))
   (Upm 32 t (fun t s=>s.2.1=(t:Int)∧Wh s.1 (fun j=>p (j + t))∧I t s.2.2) Q):=fun s' hs'=>by
  rw [cond_false]
  refine ag (by decide) (af ⟨a1,rfl,?_,hs'⟩);exact hw.next.congr (fun j=>by rw [Nat.add_right_comm,Nat.add_assoc])
 have a2:(cz .u32 y 1 == 1)=true↔p t:=by simpa using hw.odd
 rw [a4]
 cases hb:(cz .u32 y 1 == 1) with
 | true =>
  rw [cond_true]
  refine bU (hs t s a1 hi (a2.1 hb)) (fun r hr => ?_)
  rw [hr.1,Bool.not_true]
  exact nx _ hr.2
 | false =>
  rw [cond_false]
  exact nx _ (hn t s a1 hi (fun hp=>by rw [a2.2 hp] at hb; cases hb))
theorem Dq {Y:(Int ⊕ Unit)→Int→Option (Bool×(Int ⊕ Unit))} {W:Nat→Int} (hY:∀ (x:Int) (t:Nat),t < 32→Y (.inl x) (t:Int)=some (true,.inl (bOr .u32 x (W t))))
  {x:Int} {p:Nat→Prop} (h:Wh x p) {q:Nat→Nat→Prop} (hW:∀ t,t < 32→p t→Wh (W t) (q t)) :
  Tri (eB Y x (.inl x)) (fun s=>∃ z,s = .inl z∧Wh z (fun j=>p j∨∃ t,p t∧q t j)∧x.toNat≤z.toNat∧(z=x∨x.toNat < z.toNat)):=by
 refine Nc h (fun t s=>∃ z,s = .inl z∧Wh z (fun j=>p j∨∃ u,u < t∧p u∧q u j)) ⟨x,rfl,h.congr (fun j=>⟨.inl,fun h=>h.elim id (fun ⟨u,hu,_⟩=>absurd hu (Nat.not_lt_zero _))⟩)⟩ ?_ ?_ ?_
 ·rintro t s ht ⟨z,rfl,hz⟩ hp;refine LZ (hY z t ht) ⟨rfl,_,rfl,(hz.or (hW t ht hp)).congr (fun j => ?_)⟩
  constructor
  ·rintro ((h1 | ⟨u,h1,h2⟩) | h1)
   ·exact .inl h1
   ·exact .inr ⟨u,by omega,h2⟩
   ·exact .inr ⟨t,by omega,hp,h1⟩
  ·rintro (h1 | ⟨u,h1,h2,h3⟩)
   ·exact .inl (.inl h1)
   ·rcases Nat.lt_or_ge u t with h4 | h4
    ·exact .inl (.inr ⟨u,h4,h2,h3⟩)
    ·have:u=t:=by omega
     exact .inr (this ▸ h3)
 ·rintro t s ht ⟨z,rfl,hz⟩ hp;refine ⟨z,rfl,hz.congr (fun j => ?_)⟩
  constructor
  ·rintro (h1 | ⟨u,h1,h2⟩)
   ·exact .inl h1
   ·exact .inr ⟨u,by omega,h2⟩
  ·rintro (h1 | ⟨u,h1,h2,h3⟩)
   ·exact .inl h1
   ·refine .inr ⟨u,?_,h2,h3⟩;have:u≠t:=fun e=>hp (e ▸ h2)
    omega
 ·rintro t s ht ⟨z,rfl,hz⟩ hno;have hz':Wh z (fun j=>p j∨∃ t,p t∧q t j):=hz.congr (fun j=>⟨fun h=>h.elim .inl (fun ⟨u,_,h2⟩ => .inr ⟨u,h2⟩),fun h=>h.elim .inl (fun ⟨u,h2,h3⟩ => .inr ⟨u,Nat.lt_of_not_le (fun hle=>hno u hle h2),h2,h3⟩)⟩);refine ⟨z,rfl,hz',?_⟩;obtain ⟨a,rfl,a1,a2⟩:=h;obtain ⟨b,rfl,b1,b2⟩:=hz';have hsub:a ||| b=b:=Nat.eq_of_testBit_eq (fun i=>by
   rw [Nat.testBit_or]
   cases ha:a.testBit i
   ·simp
   ·rw [(b2 i).2 (.inl ((a2 i).1 ha))]; rfl)
  have hle:a≤b:=by rw [← hsub]; exact Nat.left_le_or
  simp only [Int.toNat_natCast]
  exact ⟨hle,by omega⟩
end Go.Proofs.YtfpeabnehpclnaaGreatDoorT
namespace Go.Proofs.YtfpeabnehpclnaaGreatDoorT
open Go Go.Proofs Go.Proofs.YtfpeabnehpclnaaGreatDoorE
set_option linter.unusedVariables false
set_option linter.unusedSimpArgs false
section
variable {h:History} {x:Exec} {l:List Int}
def Wr (h:History) (l:List Int) (k:Int) (u:Nat):Prop:=0≤k∧k < (h.Keys.length:Int)∧(u:Int) ∈ l∧0 < (eH h (u:Int) k).length
def zF (h:History) (x:Exec) (t u:Nat):Prop:=((t:Int) ∈ x.Order∧pos x.Order (u:Int) < pos x.Order (t:Int)∧(idx h.Txns (u:Int)).Proc=(idx h.Txns (t:Int)).Proc) ∨
 ∃ q:Nat,q < (aU h h.Txns.length).length∧(idx (aU h h.Txns.length) (q:Int)).Txn=(t:Int)∧idx x.Picks (q:Int)=(u:Int)
structure zG (h:History) (x:Exec) (w:dh):Prop where
 eh:w.h=h
 ex:w.x=x
 ea:w.asks=aU h h.Txns.length
 at_:∀ t:Nat,t < 32→idx w.at_ (t:Int)=if (t:Int) ∈ x.Order then (pos x.Order (t:Int):Int) + 1 else 0
 bh:∀ t:Nat,t < 32→Wh (idx w.behind (t:Int)) (fun u=>(t:Int) ∈ x.Order∧pos x.Order (u:Int) < pos x.Order (t:Int))
 nr:∀ t:Nat,t < 32→Wh (idx w.near (t:Int)) (zF h x t)
 nd:(sJ w.writes).Nodup
 wv:∀ k,Wh (mat w.writes k) (Wr h x.Order k)
 wk:∀ k u,Wr h x.Order k u→k ∈ sJ w.writes
theorem BJ {p:Nat→Prop} (h:∀ u,¬ p u):Wh 0 p:=Wh.zero.congr fun u=>⟨fun h=>h.elim,fun h2=>h u h2⟩
theorem KA (ho:oC h l) {k:Nat} (hk:k < l.length):∃ n:Nat,idx l (k:Int)=(n:Int)∧n < h.Txns.length∧pos l (n:Int)=k:=by
 have hr:=ho.rg _ (dJ hk);have e:((idx l (k:Int)).toNat:Int)=idx l (k:Int):=by omega
 exact ⟨(idx l (k:Int)).toNat,e.symm,by omega,by rw [e]; exact He ho.nd hk⟩
theorem CY {t:Int} {k:Nat} (hk:k < l.length) (e:pos l t=k):t=idx l (k:Int):=by
 have:=qo (nE.1 (by omega:pos l t < l.length))
 rw [e] at this
 exact this.symm
theorem Nf {j k:Nat} (hj:j < k) (hk:k≤l.length):idx (l.take k) (j:Int)=idx l (j:Int):=by
 rw [bS (n:=j) rfl (by rw [List.length_take]; omega),bS (n:=j) rfl (by omega),List.getElem_take]
theorem QS (ho:oC h x.Order) (a3:h.Txns.length≤32) {at_ beh near:List Int} {wd:Int} {k n:Nat} (hk:k < x.Order.length) (hn:idx x.Order (k:Int)=(n:Int)) (hnl:n < h.Txns.length) (hp:pos x.Order (n:Int)=k)
  (hN:∀ t:Nat,t < 32→Wh (idx near (t:Int)) (fun u=>pos x.Order (t:Int) < k∧pos x.Order (u:Int) < pos x.Order (t:Int)∧(idx h.Txns (u:Int)).Proc=(idx h.Txns (t:Int)).Proc))
  {Q:(List Int×List Int×List Int×Int×Int) ⊕ (dh×Int)→Prop} (hq:∀ near',(∀ t:Nat,t < 32→Wh (idx near' (t:Int)) (fun u=>pos x.Order (t:Int) < k + 1∧pos x.Order (u:Int) < pos x.Order (t:Int)∧(idx h.Txns (u:Int)).Proc=(idx h.Txns (t:Int)).Proc)) →
   Q (.inl (uG 32 at_ (n:Int) ((k + 1:Nat):Int),uG 32 beh (n:Int) wd,near',bOr .u32 wd (jH .u32 1 (n:Int)),((k + 1:Nat):Int)))) :
  Tri (iter (qc h x at_ beh wd (k:Int)) (near,0)) Q:=by
 have hol:=ho.len;refine bN (k0:=0) k (fun j s=>s.2=(j:Int)∧∀ t:Nat,t < 32→Wh (idx s.1 (t:Int)) (fun u=>(pos x.Order (t:Int) < k∧pos x.Order (u:Int) < pos x.Order (t:Int)∧(idx h.Txns (u:Int)).Proc=(idx h.Txns (t:Int)).Proc)∨(t=n∧pos x.Order (u:Int) < j∧(idx h.Txns (u:Int)).Proc=(idx h.Txns (n:Int)).Proc)))
  (Nat.zero_le _) ⟨rfl,fun t ht=>(hN t ht).congr (fun u=>⟨.inl,fun h=>h.elim id (fun h2=>absurd h2.2.1 (Nat.not_lt_zero _))⟩)⟩ ?_
 rintro j ⟨nr,z⟩ hj ⟨e,hi⟩
 dsimp only at e hi
 subst e;have hw:w64 ((j:Int) + 1)=((j + 1:Nat):Int):=aQ (by omega);have a2:w64 ((k:Int) + 1)=((k + 1:Nat):Int):=aQ (by omega);unfold qc qb
 dsimp only
 rw [hw,a2,lm (by omega),List.length_take,Nat.min_eq_left (by omega),hn]
 refine ai (fun h1 => ?_) (fun h1 => ?_)
 ·have a1:j < k:=by omega
  rw [Nf a1 (by omega)]
  obtain ⟨m,em,hml,hmp⟩:=KA ho (by omega:j < x.Order.length)
  rw [em]
  refine ag (by omega) (ag (by omega) (ag (by omega) ?_));refine ai (fun h2 => ?_) (fun h2 => ?_)
  ·refine ag ⟨by omega,by unfold far; omega⟩ (af ⟨a1,rfl,fun t ht => ?_⟩)
   dsimp only
   rw [zO ht]
   by_cases htn:(t:Int)=(n:Int)
   ·rw [if_pos htn]
    have:t=n:=by omega
    subst this;refine ((hi t ht).or (Wh.bit (by omega:m < 32))).congr (fun u => ?_)
    constructor
    ·rintro ((⟨h3,_⟩ | ⟨_,h3,h4⟩) | rfl)
     ·omega
     ·exact .inr ⟨rfl,by omega,h4⟩
     ·exact .inr ⟨rfl,by omega,h2⟩
    ·rintro (⟨h3,_⟩ | ⟨_,h3,h4⟩)
     ·omega
     ·by_cases h5:pos x.Order (u:Int)=j
      ·right
       have:=CY (by omega) h5
       omega
      ·exact .inl (.inr ⟨rfl,by omega,h4⟩)
   ·rw [if_neg htn]
    refine (hi t ht).congr (fun u => ?_);have htn':t≠n:=fun e=>htn (by rw [e])
    constructor
    ·rintro (h3 | ⟨h3,_⟩)
     ·exact .inl h3
     ·exact absurd h3 htn'
    ·rintro (h3 | ⟨h3,_⟩)
     ·exact .inl h3
     ·exact absurd h3 htn'
  ·refine af ⟨a1,rfl,fun t ht=>(hi t ht).congr (fun u => ?_)⟩
   constructor
   ·rintro (h3 | ⟨h3,h4,h5⟩)
    ·exact .inl h3
    ·exact .inr ⟨h3,by omega,h5⟩
   ·rintro (h3 | ⟨h3,h4,h5⟩)
    ·exact .inl h3
    ·refine .inr ⟨h3,?_,h5⟩;have:pos x.Order (u:Int)≠j:=fun e=>by
      have h6:=CY (by omega) e
      rw [em] at h6
      exact h2 (h6 ▸ h5)
     omega
 ·have:j=k:=by omega
  subst this;refine ag ⟨by omega,by unfold far; omega⟩ (au (af (hq nr (fun t ht=>(hi t ht).congr (fun u => ?_)))))
  constructor
  ·rintro (⟨h3,h4,h5⟩ | ⟨rfl,h4,h5⟩)
   ·exact ⟨by omega,h4,h5⟩
   ·exact ⟨by omega,by omega,h5⟩
  ·rintro ⟨h3,h4,h5⟩
   by_cases h6:pos x.Order (t:Int)=j
   ·have h7:=CY hk h6;have:t=n:=by omega
    subst this;exact .inr ⟨rfl,by omega,h5⟩
   ·exact .inl ⟨by omega,h4,h5⟩
theorem QT {m:List (Int×Int)} (hn:(sJ m).Nodup) {p:Int×Int} (hp:p ∈ m):p.2=mat m p.1:=by
 obtain ⟨j,hj⟩:=List.getElem?_of_mem hp;refine (Cm (x:=p.1) (y:=p.2) (j:=j) hj (fun i k hij hk e => ?_)).1.symm;subst e;have h1:(sJ m)[j]? = some p.1:=by rw [List.getElem?_map,hj]; rfl
 have hi:=(List.getElem?_eq_some_iff.1 hk).1;have hjl:=(List.getElem?_eq_some_iff.1 h1).1;have:=(List.getElem_inj (h₀:=hi) (h₁:=hjl) hn).1 (by
  have h2:=(List.getElem?_eq_some_iff.1 hk).2;have h3:=(List.getElem?_eq_some_iff.1 h1).2
  rw [h2,h3])
 omega
structure WrM (S:Int→Nat→Prop) (m:List (Int×Int)):Prop where
 nd:(sJ m).Nodup
 wv:∀ k,Wh (mat m k) (S k)
 wk:∀ k u,S k u→k ∈ sJ m
theorem WrM.congr {S T:Int→Nat→Prop} {m:List (Int×Int)} (hm:WrM S m) (e:∀ k u,S k u↔T k u):WrM T m:=⟨hm.nd,fun k=>(hm.wv k).congr (e k),fun k u hu=>hm.wk k u ((e k u).2 hu)⟩
theorem WrM.put {S:Int→Nat→Prop} {m:List (Int×Int)} (hm:WrM S m) {k:Int} {n:Nat} (hn:n < 32):WrM (fun c u=>S c u∨(c=k∧u=n)) (gG m k (bOr .u32 (mat m k) (jH .u32 1 (n:Int)))):=by
 refine ⟨?_,fun c => ?_,fun c u hu => ?_⟩
 ·rw [vV]
  split
  ·exact hm.nd
  ·rename_i hx
   rw [List.nodup_append]
   exact ⟨hm.nd,by simp,by intro a ha b hb; rw [List.mem_singleton.1 hb]; intro e; exact hx (e ▸ ha)⟩
 ·rw [qp]
  split
  ·rename_i e
   subst e;exact ((hm.wv c).or (Wh.bit hn)).congr (fun u=>⟨fun h=>h.elim .inl (fun e => .inr ⟨rfl,e⟩),fun h=>h.elim .inl (fun e => .inr e.2)⟩)
  ·rename_i e
   exact (hm.wv c).congr (fun u=>⟨.inl,fun h=>h.elim id (fun e2=>absurd e2.1 e)⟩)
 ·rw [vV]
  split
  ·rename_i hx
   rcases hu with hu | ⟨rfl,_⟩
   ·exact hm.wk c u hu
   ·exact hx
  ·rcases hu with hu | ⟨rfl,_⟩
   ·exact List.mem_append_left _ (hm.wk c u hu)
   ·exact List.mem_append_right _ (List.mem_singleton_self _)
theorem Jm (hs:qE h) (hl:x.Order.length < 2 ^ 50) (hpl:x.Picks.length < 2 ^ 50) :
  Tri (aS h x) (fun r=>(r.2=1 ∧ ¬ (dB h∧sQ h x))∨(r.2=0∧dB h∧az h=some 0∧sQ h x∧zG h x r.1)):=by
 obtain ⟨v,hv,hv',a8,hiff⟩:=EB hs;unfold aS qg;refine bU (Oz hs hl hpl) (fun y hy => ?_);rcases hy with ⟨rfl,hc⟩ | ⟨h0,hS,hc,hw⟩
 ·refine ai (fun _=>af (.inl ⟨rfl,fun hq => ?_⟩)) (fun h=>absurd (by decide) h)
  rw [hv] at hc
  have:=hiff.2 hq.1;cases hc;cases this
 refine ai (fun h=>absurd h0 h) (fun _ => ?_);refine ai (fun h1=>af (.inl ⟨rfl,fun hq=>h1 ((Hm hw).2 hq.2)⟩)) (fun h1 => ?_);have hf:sQ h x:=(Hm hw).1 (Classical.byContradiction h1);have ho:=hf.ord;have a7:=hS.len;have hol:=ho.len;have hA:gm h=some (aU h h.Txns.length,0):=by unfold gm; rw [zq hs hS hc]; rfl
 obtain ⟨n1,n2,_⟩:=qM hS h.Txns.length (Nat.le_refl _);refine aZ hA ?_;refine bN (k0:=0) x.Order.length (fun k s=>s.2.2.2.2=(k:Int)∧(∀ t:Nat,t < 32→idx s.1 (t:Int)=if pos x.Order (t:Int) < k then (pos x.Order (t:Int):Int) + 1 else 0) ∧
  (∀ t:Nat,t < 32→Wh (idx s.2.1 (t:Int)) (fun u=>pos x.Order (t:Int) < k∧pos x.Order (u:Int) < pos x.Order (t:Int))) ∧
  (∀ t:Nat,t < 32→Wh (idx s.2.2.1 (t:Int)) (fun u=>pos x.Order (t:Int) < k∧pos x.Order (u:Int) < pos x.Order (t:Int)∧(idx h.Txns (u:Int)).Proc=(idx h.Txns (t:Int)).Proc)) ∧
  Wh s.2.2.2.1 (fun u=>pos x.Order (u:Int) < k)) (Nat.zero_le _)
  ⟨rfl,fun t ht=>(by rw [if_neg (Nat.not_lt_zero _)]; rfl),by exact fun t ht=>BJ fun u h=>Nat.not_lt_zero _ h.1,by exact fun t ht=>BJ fun u h=>Nat.not_lt_zero _ h.1,by exact BJ fun u h=>Nat.not_lt_zero _ h⟩ ?_
 rintro k ⟨at_,beh,near,wd,z⟩ hk ⟨e,iA,iB,iN,iW⟩
 dsimp only at e iA iB iN iW
 subst e;unfold uz
 dsimp only
 refine ai (fun h2 => ?_) (fun h2 => ?_)
 ·have a2:k < x.Order.length:=by omega
  obtain ⟨n,en,hnl,hnp⟩:=KA ho a2;refine ag (by omega) (ag (by rw [en]; omega) (ag (by omega) ?_));refine QS ho a7 a2 en hnl hnp iN (fun near' hN'=>⟨a2,rfl,fun t ht => ?_,fun t ht => ?_,hN',?_⟩)
  ·dsimp only
   rw [zO ht,iA t ht]
   by_cases e:(t:Int)=(n:Int)
   ·rw [if_pos e,e,hnp,if_pos (by omega)]; omega
   ·rw [if_neg e]
    have:pos x.Order (t:Int)≠k:=fun h5=>e (by rw [CY a2 h5,en])
    by_cases h6:pos x.Order (t:Int) < k
    ·rw [if_pos h6,if_pos (by omega)]
    ·rw [if_neg h6,if_neg (by omega)]
  ·dsimp only
   rw [zO ht]
   by_cases e:(t:Int)=(n:Int)
   ·rw [if_pos e,e,hnp]
    exact iW.congr (fun u=>⟨fun h=>⟨by omega,h⟩,fun h=>h.2⟩)
   ·rw [if_neg e]
    refine (iB t ht).congr (fun u => ?_);have:pos x.Order (t:Int)≠k:=fun h5=>e (by rw [CY a2 h5,en])
    constructor
    ·exact fun h=>⟨by omega,h.2⟩
    ·exact fun h=>⟨by omega,h.2⟩
  ·refine (iW.or (Wh.bit (by omega:n < 32))).congr (fun u => ?_)
   constructor
   ·rintro (h3 | rfl)
    ·omega
    ·omega
   ·intro h3
    by_cases h4:pos x.Order (u:Int)=k
    ·right
     have:=CY a2 h4
     omega
    ·left; omega
 ·have:k=x.Order.length:=by omega
  subst this;generalize hAs:aU h h.Txns.length=aL at n1 ⊢;refine bN (k0:=0) aL.length (fun i s=>s.2=(i:Int)∧∀ t:Nat,t < 32→Wh (idx s.1 (t:Int)) (fun u=>(pos x.Order (t:Int) < x.Order.length∧pos x.Order (u:Int) < pos x.Order (t:Int)∧(idx h.Txns (u:Int)).Proc=(idx h.Txns (t:Int)).Proc) ∨
   ∃ q:Nat,q < i∧(idx aL (q:Int)).Txn=(t:Int)∧idx x.Picks (q:Int)=(u:Int))) (Nat.zero_le _) ⟨rfl,fun t ht=>(iN t ht).congr (fun u=>⟨.inl,fun h=>h.elim id (fun ⟨q,hq,_⟩=>absurd hq (Nat.not_lt_zero _))⟩)⟩ ?_
  rintro i ⟨nr,z⟩ hi ⟨e,iM⟩
  dsimp only at e iM
  subst e;have hwi:w64 ((i:Int) + 1)=((i + 1:Nat):Int):=aQ (by omega);unfold uy qd
  dsimp only
  rw [hwi]
  have hple:=hf.len
  rw [hAs] at hple
  refine ai (fun h3 => ?_) (fun h3 => ?_)
  ·have a3:i < aL.length:=by omega
   obtain ⟨a,ea,hal,_⟩:=BD (h:=h) (by rw [hAs]; exact uh a3);have hpk:=(CX.1 (hf.pick i (by rw [hAs]; exact a3))).1
   rw [hAs] at hpk
   refine ag (by omega) (ag (by omega) ?_)
   rw [ea]
   refine ai (fun h4 => ?_) (fun h4 => ?_)
   ·have hin:idx x.Picks (i:Int) ∈ x.Order:=by
     rcases hpk with h5 | h5
     ·omega
     ·exact h5.1
    have hr:=ho.rg _ hin;obtain ⟨b,eb⟩:∃ b:Nat,idx x.Picks (i:Int)=(b:Int):=⟨(idx x.Picks (i:Int)).toNat,by omega⟩
    rw [eb] at hr ⊢
    refine ag (by omega) (ag ⟨by omega,by unfold far; omega⟩ (af ⟨a3,rfl,fun t ht => ?_⟩))
    dsimp only
    rw [zO ht]
    by_cases e:(t:Int)=(a:Int)
    ·rw [if_pos e]
     have:t=a:=by omega
     subst this;refine ((iM t ht).or (Wh.bit (by omega:b < 32))).congr (fun u => ?_)
     constructor
     ·rintro ((h5 | ⟨q,h5,h6⟩) | rfl)
      ·exact .inl h5
      ·exact .inr ⟨q,by omega,h6⟩
      ·exact .inr ⟨i,by omega,ea,eb⟩
     ·rintro (h5 | ⟨q,h5,h6,h7⟩)
      ·exact .inl (.inl h5)
      ·by_cases h8:q=i
       ·right
        rw [h8,eb] at h7
        omega
       ·exact .inl (.inr ⟨q,by omega,h6,h7⟩)
    ·rw [if_neg e]
     refine (iM t ht).congr (fun u => ?_)
     constructor
     ·rintro (h5 | ⟨q,h5,h6⟩)
      ·exact .inl h5
      ·exact .inr ⟨q,by omega,h6⟩
     ·rintro (h5 | ⟨q,h5,h6,h7⟩)
      ·exact .inl h5
      ·refine .inr ⟨q,?_,h6,h7⟩;have:q≠i:=fun e2=>e (by rw [← h6,e2,ea])
       omega
   ·refine af ⟨a3,rfl,fun t ht=>(iM t ht).congr (fun u => ?_)⟩
    constructor
    ·rintro (h5 | ⟨q,h5,h6⟩)
     ·exact .inl h5
     ·exact .inr ⟨q,by omega,h6⟩
    ·rintro (h5 | ⟨q,h5,h6,h7⟩)
     ·exact .inl h5
     ·refine .inr ⟨q,?_,h6,h7⟩;have:q≠i:=fun e2=>h4 (by rw [← e2,h7]; omega)
      omega
  ·have:i=aL.length:=by omega
   subst this;have hkl:=hS.names;have b0:h.Keys.length≤32:=hkl.1;refine bN (k0:=0) h.Keys.length (fun c s=>s.2=(c:Int)∧WrM (fun k u=>k < (c:Int)∧Wr h x.Order k u) s.1) (Nat.zero_le _) ⟨rfl,by exact ⟨List.nodup_nil,fun k=>BJ fun u h5=>by have:=h5.2.1; omega,fun k u h5=>by have:=h5.2.1; omega⟩⟩ ?_
   rintro c ⟨m,z⟩ a9 ⟨e,iK⟩
   dsimp only at e iK
   subst e;unfold uw
   dsimp only
   refine ai (fun h4 => ?_) (fun h4 => ?_)
   ·have a5:c < h.Keys.length:=by omega
    refine aZ (yw hS hc) ?_;have hwl:=mV (h:=h) (key:=(c:Int)) (k:=h.Txns.length);have hwm:=fun t=>ug (h:=h) (key:=(c:Int)) (k:=h.Txns.length) (t:=t);generalize gq h (c:Int) h.Txns.length=wl at hwl hwm;refine bN (k0:=0) wl.length (fun j s=>s.2=(j:Int)∧WrM (fun k u=>(k < (c:Int)∧Wr h x.Order k u)∨(k=(c:Int)∧(u:Int) ∈ x.Order∧∃ q:Nat,q < j∧idx wl (q:Int)=(u:Int))) s.1) (Nat.zero_le _)
     ⟨rfl,iK.congr (fun k u=>⟨.inl,fun h5=>h5.elim id (fun ⟨_,_,q,hq,_⟩=>absurd hq (Nat.not_lt_zero _))⟩)⟩ ?_
    rintro j ⟨m2,z⟩ hj ⟨e,iJ⟩
    dsimp only at e iJ
    subst e;have hwj:w64 ((j:Int) + 1)=((j + 1:Nat):Int):=aQ (by omega);have hwc:w64 ((c:Int) + 1)=((c + 1:Nat):Int):=aQ (by omega);unfold uu qf
    dsimp only
    rw [hwj,hwc]
    refine ai (fun h5 => ?_) (fun h5 => ?_)
    ·have a4:j < wl.length:=by omega
     have hmm:=(hwm _).1 (dJ a4);obtain ⟨b,eb⟩:∃ b:Nat,idx wl (j:Int)=(b:Int):=⟨(idx wl (j:Int)).toNat,by omega⟩
     rw [eb] at hmm ⊢
     refine ag (by omega) (ag (by omega) ?_);have hat:(idx at_ (b:Int) > 0)↔(b:Int) ∈ x.Order:=by
      rw [iA b (by omega),← nE]
      split
      ·rename_i h6; exact ⟨fun _=>h6,fun _=>by omega⟩
      ·rename_i h6; exact ⟨fun h7=>absurd h7 (by omega),fun h7=>absurd h7 h6⟩
     refine ai (fun h6 => ?_) (fun h6 => ?_)
     ·refine ag ⟨by omega,by unfold far; omega⟩ (af ⟨a4,rfl,(iJ.put (k:=(c:Int)) (by omega:b < 32)).congr (fun k u => ?_)⟩)
      constructor
      ·rintro ((h7 | ⟨h7,h8,q,h9,a1⟩) | ⟨h7,rfl⟩)
       ·exact .inl h7
       ·exact .inr ⟨h7,h8,q,by omega,a1⟩
       ·exact .inr ⟨h7,hat.1 h6,j,by omega,eb⟩
      ·rintro (h7 | ⟨h7,h8,q,h9,a1⟩)
       ·exact .inl (.inl h7)
       ·by_cases a6:q=j
        ·refine .inr ⟨h7,?_⟩
         rw [a6,eb] at a1
         omega
        ·exact .inl (.inr ⟨h7,h8,q,by omega,a1⟩)
     ·refine af ⟨a4,rfl,iJ.congr (fun k u => ?_)⟩
      constructor
      ·rintro (h7 | ⟨h7,h8,q,h9,a1⟩)
       ·exact .inl h7
       ·exact .inr ⟨h7,h8,q,by omega,a1⟩
      ·rintro (h7 | ⟨h7,h8,q,h9,a1⟩)
       ·exact .inl h7
       ·refine .inr ⟨h7,h8,q,?_,a1⟩;have:q≠j:=fun e=>h6 (hat.2 (by rw [← eb,← e,a1]; exact h8))
        omega
    ·have:j=wl.length:=by omega
     subst this;refine au (af ⟨a5,rfl,iJ.congr (fun k u => ?_)⟩)
     constructor
     ·rintro (⟨h7,h8⟩ | ⟨h7,h8,q,h9,a1⟩)
      ·exact ⟨by omega,h8⟩
      ·subst h7;have:=(hwm _).1 (a1 ▸ dJ h9);exact ⟨by omega,by omega,by omega,h8,this.2.2.2⟩
     ·rintro ⟨h7,h8⟩
      by_cases h9:k=(c:Int)
      ·subst h9;obtain ⟨w1,w2,w3,w4⟩:=h8;have hr:=ho.rg _ w3;obtain ⟨q,hq,hqe⟩:=oU ((hwm _).2 ⟨hr.1,hr.2.1,hr.2.2,w4⟩);exact .inr ⟨rfl,w3,q,hq,hqe⟩
      ·exact .inl ⟨by omega,h8⟩
   ·have:c=h.Keys.length:=by omega
    subst this;refine au (au (au (af (.inr ⟨rfl,hS,hc,hf,?_⟩))));refine ⟨rfl,rfl,hAs.symm,fun t ht => ?_,fun t ht => ?_,fun t ht => ?_,iK.nd,fun k=>(iK.wv k).congr (fun u=>⟨fun h=>h.2,fun h=>⟨h.2.1,h⟩⟩),fun k u hu=>iK.wk k u ⟨hu.2.1,hu⟩⟩
    ·dsimp only
     rw [iA t ht]
     by_cases h5:(t:Int) ∈ x.Order
     ·rw [if_pos h5,if_pos (nE.2 h5)]
     ·rw [if_neg h5,if_neg (fun h6=>h5 (nE.1 h6))]
    ·exact (iB t ht).congr (fun u=>⟨fun h=>⟨nE.1 h.1,h.2⟩,fun h=>⟨nE.2 h.1,h.2⟩⟩)
    ·refine (iM t ht).congr (fun u => ?_);unfold zF
     rw [hAs,← nE]
end
end Go.Proofs.YtfpeabnehpclnaaGreatDoorT
namespace Go.Proofs.YtfpeabnehpclnaaGreatDoorT
open Go Go.Proofs Go.Proofs.YtfpeabnehpclnaaGreatDoorE
set_option linter.unusedVariables false
set_option linter.unusedSimpArgs false
section
variable {h:History} {x:Exec} {w:dh}
abbrev kY (h:History):List Ask:=aU h h.Txns.length
abbrev rY (h:History) (i:Nat):Ask:=idx (kY h) (i:Int)
abbrev uj (h:History) (i:Nat):Nat:=(rY h i).Txn.toNat
def FU (x:Exec) (t u:Nat):Prop:=(t:Int) ∈ x.Order∧pos x.Order (u:Int) < pos x.Order (t:Int)
def LU (h:History) (x:Exec) (i u:Nat):Prop:=∃ k:Nat,k < (kY h).length∧(rY h k).Txn=(rY h i).Txn∧(rY h k).Place < (rY h i).Place∧idx x.Picks (k:Int)=(u:Int)
def Sc (x:Exec) (p:Nat→Prop) (u:Nat):Prop:=p u∨∃ t,p t∧FU x t u
def SV (h:History) (x:Exec) (t u:Nat):Prop:=∃ k,Wr h x.Order k t∧Wr h x.Order k u∧FU x t u
inductive Gu (N:Nat→Nat→Prop) (t:Nat):Nat→Prop
 | one {u:Nat}:N t u→Gu N t u
 | more {u v:Nat}:Gu N t v→N v u→Gu N t u
def OD (h:History) (x:Exec) (level:Int) (i u:Nat):Prop :=
 if level=1 then LU h x i u else if level=2 then (Wr h x.Order (rY h i).Key (uj h i)∧FU x (uj h i) u)∨(¬ Wr h x.Order (rY h i).Key (uj h i)∧LU h x i u)
 else if level=3 then zF h x (uj h i) u else if level=4 then Gu (zF h x) (uj h i) u else if level=5 then Sc x (zF h x (uj h i)) u
 else if level=6 then Sc x (fun v=>zF h x (uj h i) v∨SV h x (uj h i) v) u else FU x (uj h i) u
theorem zG.eA (hw:zG h x w):w.asks=kY h:=hw.ea
theorem sQ.lA (hf:sQ h x):x.Picks.length=(kY h).length:=hf.len
theorem OE (hS:dB h):(kY h).length≤16 * h.Txns.length:=(qM hS h.Txns.length (Nat.le_refl _)).1
theorem BK (hf:sQ h x) {i:Nat} (hi:i < (kY h).length):(rY h i).Txn=(uj h i:Int)∧uj h i < h.Txns.length∧(uj h i:Int) ∈ x.Order:=by
 obtain ⟨t,et,ht,hst⟩:=BD (uh hi);have e:uj h i=t:=by unfold uj; rw [et]; rfl
 rw [e]
 exact ⟨et,ht,hf.ord.dn t ht hst⟩
theorem LV (hf:sQ h x) {i:Nat} (hi:i < (kY h).length):idx x.Picks (i:Int) = -1∨∃ b:Nat,idx x.Picks (i:Int)=(b:Int)∧b < h.Txns.length∧FU x (uj h i) b∧0 < (eH h (b:Int) (rY h i).Key).length∧(b:Int) ∈ x.Order:=by
 rcases (CX.1 (hf.pick i hi)).1 with h1 | h1
 ·exact .inl h1
 ·right
  obtain ⟨h2,h3,h4⟩:=h1;have hr:=hf.ord.rg _ h2;obtain ⟨b,eb⟩:∃ b:Nat,idx x.Picks (i:Int)=(b:Int):=⟨(idx x.Picks (i:Int)).toNat,by omega⟩
  obtain ⟨q1,q2,q3⟩:=BK hf hi;refine ⟨b,eb,by omega,⟨q3,?_⟩,?_,?_⟩
  ·rw [← q1,← eb]; exact h3
  ·rw [← eb]; exact h4
  ·rw [← eb]; exact h2
theorem Hq (hS:dB h) (hf:sQ h x) (hw:zG h x w) {i:Nat} (hi:i < (kY h).length):Tri (bM w (i:Int)) (fun r=>Wh r (LU h x i)):=by
 have n1:=OE hS;have a2:=hS.len;have hpl:=hf.lA;unfold bM;refine bN (k0:=0) (kY h).length (fun k s=>s.2=(k:Int)∧Wh s.1 (fun u=>∃ q:Nat,q < k∧(rY h q).Txn=(rY h i).Txn∧(rY h q).Place < (rY h i).Place∧idx x.Picks (q:Int)=(u:Int))) (Nat.zero_le _)
  ⟨rfl,by exact BJ fun u ⟨q,hq,_⟩=>Nat.not_lt_zero _ hq⟩ ?_
 rintro k ⟨o,z⟩ hk ⟨e,hW⟩
 dsimp only at e hW
 subst e;have hwk:w64 ((k:Int) + 1)=((k + 1:Nat):Int):=aQ (by omega);unfold nZ iX kT
 dsimp only
 rw [hwk,hw.eA,hw.ex]
 refine ai (fun h1 => ?_) (fun h1 => ?_)
 ·have a1:k < (kY h).length:=by omega
  have nx:¬ ((rY h k).Txn=(rY h i).Txn∧(rY h k).Place < (rY h i).Place∧0≤idx x.Picks (k:Int)) →
    Upm (kY h).length k (fun k s=>s.2=(k:Int)∧Wh s.1 (fun u=>∃ q:Nat,q < k∧(rY h q).Txn=(rY h i).Txn∧(rY h q).Place < (rY h i).Place∧idx x.Picks (q:Int)=(u:Int))) (fun r=>Wh r (LU h x i)) (.inl (o,((k + 1:Nat):Int))):=fun hn=>by
   refine ⟨a1,rfl,hW.congr (fun u => ?_)⟩
   constructor
   ·rintro ⟨q,h5,h6⟩;exact ⟨q,by omega,h6⟩
   ·rintro ⟨q,h5,h6,h7,h8⟩;refine ⟨q,?_,h6,h7,h8⟩;have:q≠k:=fun e=>hn (by subst e; exact ⟨h6,h7,by omega⟩)
    omega
  refine ag (by omega) (ag (by omega) ?_);refine ai (fun h2 => ?_) (fun h2 => ?_)
  ·refine ai (fun h3 => ?_) (fun h3 => ?_)
   ·refine ag (by omega) ?_;refine ai (fun h4 => ?_) (fun h4=>af (nx (fun h5=>h4 h5.2.2)));rcases LV hf a1 with h5 | ⟨b,eb,hb,_⟩
    ·omega
    rw [eb]
    refine ag (by omega) (ag ⟨by omega,by unfold far; omega⟩ (af ⟨a1,rfl,(hW.or (Wh.bit (by omega:b < 32))).congr (fun u => ?_)⟩))
    constructor
    ·rintro (⟨q,h5,h6⟩ | rfl)
     ·exact ⟨q,by omega,h6⟩
     ·exact ⟨k,by omega,h2,h3,eb⟩
    ·rintro ⟨q,h5,h6,h7,h8⟩
     by_cases h9:q=k
     ·right
      rw [h9,eb] at h8
      omega
     ·exact .inl ⟨q,by omega,h6,h7,h8⟩
   ·exact ai (fun h4=>absurd h4 (by simp)) (fun h4=>af (nx (fun h5=>h3 h5.2.1)))
  ·exact ai (fun h4=>absurd h4 (by simp)) (fun h4=>af (nx (fun h5=>h2 h5.1)))
 ·have:k=(kY h).length:=by omega
  subst this;exact au (af hW)
theorem EW (hw:zG h x w) {a:Int} {p:Nat→Prop} (ha:Wh a p):Tri (dX w a) (fun r=>Wh r (Sc x p)):=by
 unfold dX og;refine aZ rfl ?_;refine bU (Dq (W:=fun t=>idx w.behind (t:Int)) (fun y t ht => ?_) ha (q:=FU x) (fun t ht _=>hw.bh t ht)) ?_
 ·show (must _ _:Option _)=_
  rw [iL _ ⟨by omega,by omega⟩]
 ·rintro s ⟨z,rfl,hz,_⟩;exact af hz
theorem Ng (hw:zG h x w) {t:Nat} (ht:t < 32):Tri (dN w (t:Int)) (fun r=>Wh r (Gu (zF h x) t)):=by
 unfold dN;refine ag (by omega) ?_;refine xP (fun s=>∃ p,Wh s p∧(∀ u,zF h x t u→p u)∧∀ u,p u→Gu (zF h x) t u) (fun s=>2 ^ 32 - s.toNat) ⟨_,hw.nr t ht,fun u h=>h,fun u h => .one h⟩ ?_;rintro s ⟨p,hp,h1,h2⟩;unfold rA og;refine aZ rfl ?_;refine bU (Dq (W:=fun t=>idx w.near (t:Int)) (fun y t ht => ?_) hp (q:=zF h x) (fun t ht _=>hw.nr t ht)) ?_
 ·show (must _ _:Option _)=_
  rw [iL _ ⟨by omega,by omega⟩]
 ·rintro r ⟨z,rfl,hz,hle,hor⟩;unfold rz
  dsimp only
  refine ai (fun h3 => ?_) (fun h3=>af ?_)
  ·refine au (af ?_);subst h3;have hcl:∀ u v,p v→zF h x v u→p u:=fun u v hv hn=>by
    obtain ⟨a,ea,_,a2⟩:=hp;obtain ⟨b,eb,_,b2⟩:=hz;have:a=b:=by omega
    subst this;exact (a2 u).1 ((b2 u).2 (.inr ⟨v,hv,hn⟩))
   refine hp.congr (fun u=>⟨h2 u,fun hu => ?_⟩)
   induction hu with
   | one h=>exact h1 _ h
   | more _ h ih=>exact hcl _ _ ih h
  ·have hb:=hz.big;have a1:=hp.big;refine ⟨⟨_,hz,fun u hu => .inl (h1 u hu),fun u hu => ?_⟩,?_⟩
   ·rcases hu with hu | ⟨v,hv,hn⟩
    ·exact h2 u hu
    ·exact .more (h2 v hv) hn
   ·rcases hor with h4 | h4
    ·exact absurd h4 h3
    ·show 2 ^ 32 - z.toNat < 2 ^ 32 - s.toNat
     omega
theorem BL (hw:zG h x w) {t:Nat} (ht:t < 32):∀ (l:List (Int×Int)) (s:Int) (q:Nat→Prop),(∀ e ∈ l,Wh e.2 (Wr h x.Order e.1))→Wh s q →
  Tri (l.foldlM (fw.m1 w (t:Int)) s) (fun r=>Wh r (fun u=>q u∨∃ e ∈ l,Wr h x.Order e.1 t∧Wr h x.Order e.1 u∧FU x t u))
 | [],s,q,_,hs=>af (hs.congr (fun u=>⟨.inl,fun h=>h.elim id (fun ⟨e,he,_⟩=>nomatch he)⟩))
 | e::l,s,q,hl,hs=>by
  rw [List.foldlM_cons]
  have he:=hl e List.mem_cons_self;have hr:=he.rf ht
  show Tri ((fw.m1 w (t:Int) s e).bind fun s'=>l.foldlM (fw.m1 w (t:Int)) s') _
  unfold fw.m1;refine dF (ag ⟨by omega,by unfold far; omega⟩ ?_);refine dH (ai (r:=hr) (fun h1 => ?_) (fun h1 => ?_))
  ·refine dF (ag (by omega) (cZ ?_));refine eX (BL hw ht l _ _ (fun e he=>hl e (List.mem_cons_of_mem _ he)) (hs.or (he.and (hw.bh t ht)))) (fun r hr=>hr.congr (fun u => ?_))
   constructor
   ·rintro ((h2 | ⟨h2,h3⟩) | ⟨e',h2,h3⟩)
    ·exact .inl h2
    ·exact .inr ⟨e,List.mem_cons_self,h1,h2,h3⟩
    ·exact .inr ⟨e',List.mem_cons_of_mem _ h2,h3⟩
   ·rintro (h2 | ⟨e',h2,h3,h4,h5⟩)
    ·exact .inl (.inl h2)
    ·rcases List.mem_cons.1 h2 with rfl | h2
     ·exact .inl (.inr ⟨h4,h5⟩)
     ·exact .inr ⟨e',h2,h3,h4,h5⟩
  ·refine cZ ?_;refine eX (BL hw ht l _ _ (fun e he=>hl e (List.mem_cons_of_mem _ he)) hs) (fun r hr=>hr.congr (fun u => ?_))
   constructor
   ·rintro (h2 | ⟨e',h2,h3⟩)
    ·exact .inl h2
    ·exact .inr ⟨e',List.mem_cons_of_mem _ h2,h3⟩
   ·rintro (h2 | ⟨e',h2,h3,h4⟩)
    ·exact .inl h2
    ·rcases List.mem_cons.1 h2 with rfl | h2
     ·exact absurd h3 h1
     ·exact .inr ⟨e',h2,h3,h4⟩
theorem Jn (hw:zG h x w) {t:Nat} (ht:t < 32):Tri (fw w (t:Int)) (fun r=>Wh r (SV h x t)):=by
 have hall:∀ e ∈ w.writes,Wh e.2 (Wr h x.Order e.1):=fun e he=>by rw [QT hw.nd he]; exact hw.wv e.1
 obtain ⟨R,hR,hW⟩:=BL hw ht w.writes 0 (fun _=>False) hall Wh.zero;unfold fw;refine aZ (KH (R:=R) (fun l hl => ?_)) (af (hW.congr (fun u => ?_)))
 ·obtain ⟨R',hR',hW'⟩:=BL hw ht l 0 (fun _=>False) (fun e he=>hall e (hl.mem_iff.1 he)) Wh.zero
  rw [hR']
  congr 1
  refine Wh.det hW' (hW.congr (fun u => ?_))
  constructor
  ·rintro (h1 | ⟨e,h1,h2⟩)
   ·exact .inl h1
   ·exact .inr ⟨e,hl.mem_iff.2 h1,h2⟩
  ·rintro (h1 | ⟨e,h1,h2⟩)
   ·exact .inl h1
   ·exact .inr ⟨e,hl.mem_iff.1 h1,h2⟩
 ·constructor
  ·rintro (h1 | ⟨e,h1,h2⟩)
   ·exact h1.elim
   ·exact ⟨e.1,h2⟩
  ·rintro ⟨k,h2⟩;obtain ⟨e,he,rfl⟩:=List.mem_map.1 (hw.wk k t h2.1);exact .inr ⟨e,he,h2⟩
theorem KC (hS:dB h) (hf:sQ h x) (hw:zG h x w) {i:Nat} (hi:i < (kY h).length) (level:Int):Tri (oh w level (i:Int)) (fun r=>Wh r (OD h x level i)):=by
 have a1:=hS.len;obtain ⟨et,htl,hto⟩:=BK hf hi;have he:=Hq hS hf hw hi;unfold oh OD
 rw [hw.eA]
 have et':(idx (kY h) (i:Int)).Txn=(uj h i:Int):=et
 rw [et']
 refine ag (by omega) ?_;refine ai (fun h1 => ?_) (fun h1 => ?_)
 ·simp only [if_pos h1]
  exact bU he (fun r hr=>af hr)
 simp only [if_neg h1]
 refine ai (fun h2 => ?_) (fun h2 => ?_)
 ·simp only [if_pos h2]
  refine ag ⟨by omega,by unfold far; omega⟩ ?_
  refine ai (r:=(hw.wv _).rf (by omega:uj h i < 32)) (fun h3 => ?_) (fun h3 => ?_)
  ·exact ag (by omega) (af ((hw.bh _ (by omega:uj h i < 32)).congr (fun u=>⟨fun h4 => .inl ⟨h3,h4⟩,fun h4=>h4.elim (fun h5=>h5.2) (fun h5=>absurd h3 h5.1)⟩)))
  ·exact bU he (fun r hr=>af (hr.congr (fun u=>⟨fun h4 => .inr ⟨h3,h4⟩,fun h4=>h4.elim (fun h5=>absurd h5.1 h3) (fun h5=>h5.2)⟩)))
 simp only [if_neg h2]
 refine ai (fun h3 => ?_) (fun h3 => ?_)
 ·simp only [if_pos h3]
  exact ag (by omega) (af (hw.nr _ (by omega)))
 simp only [if_neg h3]
 refine ai (fun h4 => ?_) (fun h4 => ?_)
 ·simp only [if_pos h4]
  exact bU (Ng hw (by omega:uj h i < 32)) (fun r hr=>af hr)
 simp only [if_neg h4]
 refine ai (fun h5 => ?_) (fun h5 => ?_)
 ·simp only [if_pos h5]
  exact ag (by omega) (bU (EW hw (hw.nr _ (by omega:uj h i < 32))) (fun r hr=>af hr))
 simp only [if_neg h5]
 refine ai (fun h6 => ?_) (fun h6 => ?_)
 ·simp only [if_pos h6]
  refine ag (by omega) (bU (Jn hw (by omega:uj h i < 32)) (fun r hr => ?_));exact bU (EW hw ((hw.nr _ (by omega:uj h i < 32)).or hr)) (fun r hr=>af hr)
 simp only [if_neg h6]
 exact ag (by omega) (af (hw.bh _ (by omega)))
def EX (h:History) (x:Exec) (level:Int) (i u:Nat):Prop:=OD h x level i u∧Wr h x.Order (rY h i).Key u∧u≠uj h i ∧ ¬ (0≤idx x.Picks (i:Int)∧((u:Int)=idx x.Picks (i:Int)∨FU x (idx x.Picks (i:Int)).toNat u))
def Brk (h:History) (x:Exec) (level:Int) (r:(Int×Int×Int)×Bool):Prop :=
 (r=((0,0,0),false)∧∀ i u,i < (kY h).length → ¬ EX h x level i u) ∨
 ∃ i k u:Nat,i < (kY h).length∧k < x.Order.length∧idx x.Order (k:Int)=(u:Int)∧(∀ j v,j < i → ¬ EX h x level j v)∧EX h x level i u∧(∀ q v:Nat,q < k→idx x.Order (q:Int)=(v:Int) → ¬ EX h x level i v)∧r=(((u:Int),idx x.Picks (i:Int),(i:Int)),true)
theorem Jo (hS:dB h) (hf:sQ h x) (hw:zG h x w) (level:Int):Tri (aY w level) (Brk h x level):=by
 have a5:=hS.len;have n1:=OE hS;have hpl:=hf.lA;have hol:=hf.ord.len;unfold aY;refine bN (k0:=0) (kY h).length (fun i s=>s=(i:Int)∧∀ j v,j < i → ¬ EX h x level j v) (Nat.zero_le _) ⟨rfl,fun j v hj=>absurd hj (Nat.not_lt_zero _)⟩ ?_;rintro i s hi ⟨rfl,hno⟩;have hwi:w64 ((i:Int) + 1)=((i + 1:Nat):Int):=aQ (by omega);unfold pG pF
 dsimp only
 rw [hw.eA,hw.ex]
 refine ai (fun h1 => ?_) (fun h1 => ?_)
 ·have a2:i < (kY h).length:=by omega
  obtain ⟨et,htl,hto⟩:=BK hf a2;have et':(idx (kY h) (i:Int)).Txn=(uj h i:Int):=et;refine ag (by omega) (ag (by omega) ?_);refine bU (KC hS hf hw a2 level) (fun y hy => ?_)
  rw [et']
  refine ag ⟨by omega,by unfold far; omega⟩ ?_
  have a4:=(hy.and (hw.wv (rY h i).Key)).minus (Wh.bit (by omega:uj h i < 32));have fin:∀ b,Wh b (EX h x level i)→Tri (jm w (i:Int) b) (Upm (kY h).length i (fun i s=>s=(i:Int)∧∀ j v,j < i → ¬ EX h x level j v) (Brk h x level)):=fun b hb=>by
   unfold jm;refine ai (fun h2 => ?_) (fun h2 => ?_)
   ·unfold lG
    rw [hwi]
    refine af ⟨a2,rfl,fun j v hj => ?_⟩
    by_cases e:j=i
    ·rw [e]; exact hb.none.1 h2 v
    ·exact hno j v (by omega)
   ·refine bN (k0:=0) x.Order.length (fun k s=>s=(k:Int)∧∀ q v:Nat,q < k→idx x.Order (q:Int)=(v:Int) → ¬ EX h x level i v) (Nat.zero_le _) ⟨rfl,fun q v hq=>absurd hq (Nat.not_lt_zero _)⟩ ?_;rintro k s hk ⟨rfl,hnk⟩;have hwk:w64 ((k:Int) + 1)=((k + 1:Nat):Int):=aQ (by omega);unfold pE
    dsimp only
    rw [hw.ex,hwk]
    refine ai (fun h3 => ?_) (fun h3 => ?_)
    ·have a3:k < x.Order.length:=by omega
     obtain ⟨n,en,hnl,hnp⟩:=KA hf.ord a3
     rw [en]
     refine ag (by omega) (ag ⟨by omega,by unfold far; omega⟩ ?_);refine ai (r:=hb.rf (by omega:n < 32)) (fun h4 => ?_) (fun h4 => ?_)
     ·exact au (au (af (.inr ⟨i,k,n,a2,a3,en,hno,h4,hnk,rfl⟩)))
     ·refine af ⟨a3,rfl,fun q v hq e => ?_⟩
      by_cases e2:q=k
      ·rw [e2,en] at e
       have:n=v:=by omega
       exact this ▸ h4
      ·exact hnk q v (by omega) e
    ·have:k=x.Order.length:=by omega
     subst this;refine absurd ?_ h2;refine hb.none.2 (fun u hu => ?_);obtain ⟨q,hq,e⟩:=oU hu.2.1.2.2.1;exact hnk q u hq e hu
  refine ai (fun h2 => ?_) (fun h2 => ?_)
  ·rcases LV hf a2 with h5 | ⟨b,eb,hbl,_⟩
   ·omega
   rw [eb]
   refine ag ⟨by omega,by unfold far; omega⟩ (ag (by omega) (fin _ ?_))
   refine (a4.minus ((Wh.bit (by omega:b < 32)).or (hw.bh b (by omega)))).congr (fun u => ?_);unfold EX FU
   rw [eb,Int.toNat_natCast]
   constructor
   ·rintro ⟨⟨⟨h6,h7⟩,h8⟩,h9⟩;exact ⟨h6,h7,h8,fun a1=>h9 (a1.2.elim (fun e => .inl (by omega)) .inr)⟩
   ·rintro ⟨h6,h7,h8,h9⟩;exact ⟨⟨⟨h6,h7⟩,h8⟩,fun a1=>h9 ⟨by omega,a1.elim (fun e => .inl (by omega)) .inr⟩⟩
  ·refine fin _ (a4.congr (fun u => ?_));unfold EX
   constructor
   ·rintro ⟨⟨h6,h7⟩,h8⟩;exact ⟨h6,h7,h8,fun a1=>h2 a1.1⟩
   ·rintro ⟨h6,h7,h8,h9⟩;exact ⟨⟨h6,h7⟩,h8⟩
 ·have:i=(kY h).length:=by omega
  subst this;exact au (af (.inl ⟨rfl,fun j v hj=>hno j v hj⟩))
def AC (h:History) (x:Exec) (b c:Nat):Prop:=(idx h.Txns (b:Int)).Status=1∧(idx h.Txns (b:Int)).To < (idx h.Txns (c:Int)).From∧(b:Int) ∈ x.Order∧pos x.Order (c:Int) < pos x.Order (b:Int)
def Lat (h:History) (x:Exec) (r:(Int×Int×Int)×Bool):Prop :=
 (r=((0,0,0),false)∧∀ b c,b < h.Txns.length→c < h.Txns.length → ¬ AC h x b c) ∨
 ∃ b c:Nat,b < h.Txns.length∧c < h.Txns.length∧AC h x b c∧(∀ b' c',b' < b→c' < h.Txns.length → ¬ AC h x b' c')∧(∀ c',c' < c → ¬ AC h x b c')∧r=(((b:Int),(c:Int),-1),true)
theorem Nh (hS:dB h) (hf:sQ h x) (hw:zG h x w):Tri (dz w) (Lat h x):=by
 have a3:=hS.len;unfold dz;refine bN (k0:=0) h.Txns.length (fun b s=>s=(b:Int)∧∀ b' c',b' < b→c' < h.Txns.length → ¬ AC h x b' c') (Nat.zero_le _) ⟨rfl,fun b' c' hb=>absurd hb (Nat.not_lt_zero _)⟩ ?_;rintro b s hb ⟨rfl,hno⟩;have hwb:w64 ((b:Int) + 1)=((b + 1:Nat):Int):=aQ (by omega);unfold rD
 dsimp only
 rw [hw.eh]
 refine ai (fun h1 => ?_) (fun h1 => ?_)
 ·have a2:b < h.Txns.length:=by omega
  refine ag (by omega) ?_;refine bN (k0:=0) h.Txns.length (fun c s=>s=(c:Int)∧∀ c',c' < c → ¬ AC h x b c') (Nat.zero_le _) ⟨rfl,fun c' hc=>absurd hc (Nat.not_lt_zero _)⟩ ?_;rintro c s hc ⟨rfl,hnc⟩;have hwc:w64 ((c:Int) + 1)=((c + 1:Nat):Int):=aQ (by omega);unfold rC jb
  dsimp only
  rw [hw.eh,hwb,hwc]
  refine ai (fun h2 => ?_) (fun h2 => ?_)
  ·have a1:c < h.Txns.length:=by omega
   have nx:¬ AC h x b c→Upm h.Txns.length c (fun c s=>s=(c:Int)∧∀ c',c' < c → ¬ AC h x b c') (Upm h.Txns.length b (fun b s=>s=(b:Int)∧∀ b' c',b' < b→c' < h.Txns.length → ¬ AC h x b' c') (Lat h x)) (.inl ((c + 1:Nat):Int)):=fun hn=>by
    refine ⟨a1,rfl,fun c' hc' => ?_⟩
    by_cases e:c'=c
    ·rw [e]; exact hn
    ·exact hnc c' (by omega)
   refine ag (by omega) ?_;refine ai (fun h3 => ?_) (fun h3=>ai (fun h4=>absurd h4 (by simp)) (fun _=>af (nx (fun h5=>h3 h5.1))));refine ai (fun h4 => ?_) (fun h4=>ai (fun h5=>absurd h5 (by simp)) (fun _=>af (nx (fun h5=>h4 h5.2.1))));refine ag (by omega) ?_;have hcA:=hw.at_ c (by omega);have hbA:=hw.at_ b (by omega);refine ai (fun h5 => ?_) (fun h5=>ai (fun h6=>absurd h6 (by simp)) (fun _=>af (nx (fun h6 => ?_))))
   ·refine ag (by omega) ?_;refine ai (fun h6 => ?_) (fun h6=>af (nx (fun h7 => ?_)))
    ·have hcm:(c:Int) ∈ x.Order:=Classical.byContradiction fun h7=>by rw [if_neg h7] at hcA; omega
     have hbm:(b:Int) ∈ x.Order:=Classical.byContradiction fun h7=>by rw [if_neg h7] at hbA; omega
     rw [if_pos hcm] at hcA
     rw [if_pos hbm] at hbA
     exact au (au (af (.inr ⟨b,c,a2,a1,⟨h3,h4,hbm,by omega⟩,hno,hnc,rfl⟩)))
    ·obtain ⟨_,_,h8,h9⟩:=h7;have hcm:(c:Int) ∈ x.Order:=nE.1 (Nat.lt_trans h9 (nE.2 h8))
     rw [if_pos hcm] at hcA
     rw [if_pos h8] at hbA
     omega
   ·obtain ⟨_,_,h8,h9⟩:=h6;have hcm:(c:Int) ∈ x.Order:=nE.1 (Nat.lt_trans h9 (nE.2 h8))
    rw [if_pos hcm] at hcA
    omega
  ·have:c=h.Txns.length:=by omega
   subst this;refine au (af ⟨a2,rfl,fun b' c' h3 h4 => ?_⟩)
   by_cases e:b'=b
   ·rw [e]; exact hnc c' h4
   ·exact hno b' c' (by omega) h4
 ·have:b=h.Txns.length:=by omega
  subst this;exact au (af (.inl ⟨rfl,fun b c h2 h3=>hno b c h2 h3⟩))
inductive zH (h:History) (x:Exec) (level:Int):(Int×Int×Int)×Bool×Int→Prop
 | no:¬ (dB h∧sQ h x∧1≤level∧level≤8)→zH h x level ((0,0,0),false,1)
 | brk {b:(Int×Int×Int)×Bool}:dB h→sQ h x→1≤level→level≤8→Brk h x level b→(b.2=true∨level≠8)→zH h x level (b.1,b.2,0)
 | late {b c:(Int×Int×Int)×Bool}:dB h→sQ h x→level=8→Brk h x 8 b→b.2=false→Lat h x c→zH h x level (c.1,c.2,0)
theorem Jp (hs:qE h) (hl:x.Order.length < 2 ^ 50) (hpl:x.Picks.length < 2 ^ 50) (level:Int):Tri (dM h x level) (zH h x level):=by
 unfold dM kH;refine bU (Jm hs hl hpl) (fun r hr => ?_);rcases hr with ⟨h1,h2⟩ | ⟨h0,hS,hc,hf,hw⟩
 ·have hno:zH h x level ((0,0,0),false,1) := .no (fun h3=>h2 ⟨h3.1,h3.2.1⟩);refine ai (fun _ => ?_) (fun h3=>absurd (by omega) h3);exact ai (fun _=>af hno) (fun h=>absurd trivial h)
 refine ai (fun h=>absurd h0 h) (fun _ => ?_);refine ai (fun h1 => ?_) (fun h1 => ?_)
 ·exact ai (fun _=>af (.no (fun h3=>by omega))) (fun h=>absurd trivial h)
 refine ai (fun h2=>af (.no (fun h3=>by omega))) (fun h2 => ?_);refine bU (Jo hS hf hw level) (fun b hb => ?_);unfold qj qi;refine ai (fun h3 => ?_) (fun h3 => ?_)
 ·refine ai (fun h4 => ?_) (fun h4 => ?_)
  ·subst h4;exact bU (Nh hS hf hw) (fun c hc=>af (.late hS hf rfl hb (by simpa using h3) hc))
  ·exact af (.brk hS hf (by omega) (by omega) hb (.inr h4))
 ·exact ai (fun h=>absurd h (by simp)) (fun _=>af (.brk hS hf (by omega) (by omega) hb (.inl (by simpa using h3))))
end
end Go.Proofs.YtfpeabnehpclnaaGreatDoorT
namespace Go.Proofs.YtfpeabnehpclnaaGreatDoorT
open Go Go.Proofs Go.Proofs.YtfpeabnehpclnaaGreatDoorE
set_option linter.unusedVariables false
set_option linter.unusedSimpArgs false
section
variable {h:History} {x:Exec}
def LW (h:History) (x:Exec) (level:Int):Prop:=∀ i u,i < (kY h).length → ¬ EX h x level i u
def OH (h:History) (x:Exec):Prop:=∀ b c,b < h.Txns.length→c < h.Txns.length → ¬ AC h x b c
def KD (h:History) (x:Exec) (level:Int):Prop:=LW h x level∧(level=8→OH h x)
theorem EY (hs:qE h) (hl:x.Order.length < 2 ^ 50) (hpl:x.Picks.length < 2 ^ 50) (level:Int) :
  Tri (qK h x level) (fun r=>(r=(false,1) ∧ ¬ (dB h∧sQ h x∧1≤level∧level≤8))∨(r.2=0∧(dB h∧sQ h x∧1≤level∧level≤8)∧(r.1=true↔KD h x level))):=by
 unfold qK;refine bU (Jp hs hl hpl level) (fun r hr => ?_);have fin:∀ b:(Int×Int×Int)×Bool,dB h∧sQ h x∧1≤level∧level≤8→(b.2=false↔KD h x level) →
   Tri (bif ((b.1,b.2,(0:Int)).2.2 == 0) then some (!(b.1,b.2,(0:Int)).2.1,(b.1,b.2,(0:Int)).2.2) else (some (false,(b.1,b.2,(0:Int)).2.2)))
    (fun r=>(r=(false,1) ∧ ¬ (dB h∧sQ h x∧1≤level∧level≤8))∨(r.2=0∧(dB h∧sQ h x∧1≤level∧level≤8)∧(r.1=true↔KD h x level))):=fun b h1 h2=>by
  refine ai (fun _=>af (.inr ⟨rfl,h1,?_⟩)) (fun h=>absurd rfl h)
  dsimp only
  rw [Bool.not_eq_true',h2]
 cases hr with
 | no h1=>exact ai (fun h=>absurd h (by decide)) (fun _=>af (.inl ⟨rfl,h1⟩))
 | @brk b hS hf l1 l8 hb h8 =>
  refine fin b ⟨hS,hf,l1,l8⟩ ?_;rcases hb with ⟨rfl,hno⟩ | ⟨i,k,u,hi,_,_,_,hbad,_,rfl⟩
  ·exact ⟨fun _=>⟨hno,fun e=>by rcases h8 with h8 | h8; cases h8; exact absurd e h8⟩,fun _=>rfl⟩
  ·exact ⟨fun e=>(nomatch e),fun hh=>absurd hbad (hh.1 i u hi)⟩
 | @late b c hS hf e hb a3 hc =>
  subst e;refine fin c ⟨hS,hf,by decide,by decide⟩ ?_
  have hno:LW h x 8:=by
   rcases hb with ⟨_,hno⟩ | ⟨i,k,u,_,_,_,_,_,_,rfl⟩
   ·exact hno
   ·cases a3
  rcases hc with ⟨rfl,hn⟩ | ⟨b1,c1,a2,a1,hlt,_,_,rfl⟩
  ·exact ⟨fun _=>⟨hno,fun _=>hn⟩,fun _=>rfl⟩
  ·exact ⟨fun e=>(nomatch e),fun hh=>absurd hlt (hh.2 rfl b1 c1 a2 a1)⟩
end
end Go.Proofs.YtfpeabnehpclnaaGreatDoorT
namespace Go.Proofs.YtfpeabnehpclnaaGreatDoorT
open Go Go.Proofs Go.Proofs.YtfpeabnehpclnaaGreatDoorE
set_option linter.unusedVariables false
set_option linter.unusedSimpArgs false
section
variable {h:History} {x:Exec}
def Kept (x:Exec) (u v:Int):Prop:=u ∈ x.Order∧v ∈ x.Order∧pos x.Order u < pos x.Order v
theorem OI (hS:dB h) {i:Nat} (hi:i < (kY h).length):0≤(rY h i).Key∧(rY h i).Key < (h.Keys.length:Int):=by
 obtain ⟨t,p,hk⟩:=yx hS (uh hi);have e3:(rY h i).Key=(opAt h (t:Int) (p:Int)).Key:=hk.e3
 rw [e3]
 exact (hS.txn t hk.tl).2.1 p hk.pl
theorem Ei (hf:sQ h x) {a:Ask} (ha:a ∈ kY h):∃ i:Nat,i < (kY h).length∧rY h i=a∧(idx x.Picks (i:Int) = -1∨Ahead h x.Order a (idx x.Picks (i:Int)))∧ver h x.Order a (idx x.Picks (i:Int))=a.Base:=by
 obtain ⟨i,hi,e⟩:=List.mem_iff_getElem.1 ha;have e2:rY h i=a:=by rw [← e]; exact bS rfl hi
 have:=CX.1 (hf.pick i hi);exact ⟨i,hi,e2,e2 ▸ this.1,e2 ▸ this.2⟩
theorem BN {l:List Int} (hn:l.Nodup) {a:Ask} {p u:Int} (hp:p ∈ l):u ∈ upto h l a p↔u ∈ l∧pos l u≤pos l p∧0 < (eH h u a.Key).length:=by
 unfold upto
 rw [List.mem_filter,decide_eq_true_eq,EQ]
 constructor
 ·rintro ⟨⟨j,h1,h2,e⟩,h3⟩;have h4:=Og hn h2 e;exact ⟨e ▸ dJ h2,by omega,h3⟩
 ·rintro ⟨h1,h2,h3⟩;exact ⟨⟨pos l u,by omega,nE.2 h1,qo h1⟩,h3⟩
theorem Jq {l:List Int} (hn:l.Nodup) {a:Ask} {p:Int}:∀ i j:Nat,i < j→j < (upto h l a p).length→pos l (idx (upto h l a p) (i:Int)) < pos l (idx (upto h l a p) (j:Int)):=by
 have hw:l.Pairwise (fun u v=>pos l u < pos l v):=by
  rw [List.pairwise_iff_getElem]
  intro i j hi hj hij;have e1:=He hn hi;have e2:=He hn hj
  rw [bS (n:=i) rfl hi] at e1
  rw [bS (n:=j) rfl hj] at e2
  omega
 have hu:(upto h l a p).Pairwise (fun u v=>pos l u < pos l v):=(hw.sublist (List.take_sublist _ _)).filter _;intro i j hij hj
 rw [bS (n:=i) rfl (by omega),bS (n:=j) rfl hj]
 exact List.pairwise_iff_getElem.1 hu i j (by omega) hj hij
theorem EZ (hS:dB h) (hc:az h=some 0) (hf:sQ h x) {a:Ask} (ha:a ∈ kY h) (hm:made h a) {p:Int} (hp:p = -1∨Ahead h x.Order a p) (hv:ver h x.Order a p=a.Base) :
  Ahead h x.Order a p∧(kd h a=2→(pts h a).1=upto h x.Order a p)∧∀ u,u ∈ (pts h a).1↔u ∈ upto h x.Order a p:=by
 have ho:=hf.ord;obtain ⟨t,pl,hk⟩:=yx hS ha;obtain ⟨_,hps⟩:=Oo hS hc hk;obtain ⟨_,_,a1,_⟩:=CU hS hc ha;have a1:=a1 hm.1;have hkd:=LA hk;have hP:=zz (a:=a) hS hk
 rw [← hkd] at hps hP
 have hP:=hP a1;obtain ⟨h2,h3,_⟩:=hps;have a2:=hm.2;have hpa:Ahead h x.Order a p:=by
  rcases hp with rfl | hp
  ·exfalso
   have e0:qG h x.Order a.Key (-1)=[]:=by unfold qG; rw [if_neg (by decide)]
   unfold ver at hv
   rw [e0] at hv
   rw [← hv] at a2
   unfold fin at a2;rcases a1 with e | e <;> rw [e] at a2 <;> simp [srt] at a2
  ·exact hp
 obtain ⟨u1,u2,u3⟩:=Ji ho ha hpa;have hfl:=Gs (h:=h) (l:=x.Order) (a:=a) (p:=p);have h0p:0≤p:=(ho.rg p hpa.1).1;have ea:qG h x.Order a.Key p=(upto h x.Order a p).flatMap (wro h a):=by unfold qG; rw [if_pos h0p,hfl]
 unfold ver at hv
 rw [ea] at hv
 refine ⟨hpa,?_⟩;generalize upto h x.Order a p=M at u1 u2 u3 hv;rcases a1 with e | e
 ·rw [e] at hv
  have hb:M.flatMap (wro h a)=a.Base:=hv;have hmk:AA (oth h a) (wro h a) a.Base M:=⟨u1,u2,hb.symm⟩;rcases h2 e with ⟨p1,p2,p3,p4⟩ | ⟨p1,p2⟩
  ·have:(pts h a).1=M:=AA.one hP p2 u1 (p4.symm.trans hb.symm);exact ⟨fun _=>this,fun u=>by rw [this]⟩
  ·exact absurd hmk (p2 _)
 ·refine ⟨fun e2=>by omega,fun u => ?_⟩
  rw [e] at hv
  have hb:srt (M.flatMap (wro h a))=a.Base:=hv;have hpm:(M.flatMap (wro h a)).Perm a.Base:=by rw [← hb]; exact (List.mergeSort_perm _ _).symm
  rcases h3 e with ⟨p1,p2⟩ | ⟨p1,p2⟩
  ·rw [p1]
   dsimp only
   unfold vU
   rw [List.mem_filter,decide_eq_true_eq]
   constructor
   ·rintro ⟨h4,h5⟩;unfold cnt at h5;obtain ⟨v,a3⟩:=List.exists_mem_of_length_pos h5
    rw [List.mem_filter,decide_eq_true_eq] at a3
    obtain ⟨w,hw,hvw⟩:=List.mem_flatMap.1 (hpm.mem_iff.2 a3.2);exact hP.ap u h4 w (u1 w hw) v a3.1 hvw ▸ hw
   ·intro hu;refine ⟨u1 u hu,?_⟩;unfold cnt
    rw [List.filter_eq_self.2 (fun v hv=>decide_eq_true (hpm.mem_iff.1 (List.mem_flatMap.2 ⟨u,hu,hv⟩)))]
    exact hP.ne u (u1 u hu)
  ·have:=hm.1
   rw [p1] at this
   cases this
theorem wT (hf:sQ h x) {t:Int} (h0:0≤t) (h1:t < (h.Txns.length:Int)) (hst:(idx h.Txns t).Status=1):t ∈ x.Order:=by
 obtain ⟨n,rfl⟩:∃ n:Nat,t=(n:Int):=⟨t.toNat,by omega⟩
 exact hf.ord.dn n (by omega) hst
theorem QU (hS:dB h) (hc:az h=some 0) (hf:sQ h x) {a:Ask} (ha:a ∈ kY h) {e:Edge} (he:e ∈ wrE h a):Kept x e.From e.To:=by
 obtain ⟨i,hi,ei,hp,hv⟩:=Ei hf ha;have hsp:=ET hS hc hf.ord ha hp hv;obtain ⟨t0,t1,td⟩:=Eh ha;unfold wrE at he
 split at he
 ·rename_i p hps
  split at he
  ·cases he
  ·rename_i hn
   rw [List.mem_singleton] at he
   subst he
   rw [hps,List.mem_singleton] at hsp
   have hA:=hp.resolve_left (by rw [hsp]; exact hn)
   rw [hsp] at hA
   exact ⟨hA.1,wT hf t0 t1 td,hA.2.1⟩
 ·cases he
theorem QV (hS:dB h) (hc:az h=some 0) (hf:sQ h x) {a:Ask} (ha:a ∈ kY h) {e:Edge} (he:e ∈ wwE h a):Kept x e.From e.To:=by
 have ho:=hf.ord;obtain ⟨i,hi,ei,hp,hv⟩:=Ei hf ha;unfold wwE at he
 split at he
 rotate_left
 ·cases he
 rename_i hm
 obtain ⟨hA,hl,hmem⟩:=EZ hS hc hf ha hm hp hv;generalize idx x.Picks (i:Int)=p at hp hv hA hl hmem;obtain ⟨k,hk,he⟩:=oV.1 he;have hu:=(BN ho.nd hA.1).1 ((hmem _).1 (dJ hk));unfold yQ at he
 split at he
 ·rename_i a1
  rw [List.mem_singleton] at he
  subst he;have a3:=(BN ho.nd hA.1).1 ((hmem _).1 (dJ a1.2));refine ⟨hu.1,a3.1,?_⟩;have e:=hl a1.1;have a2:=a1.2
  dsimp only
  rw [e] at a2 ⊢
  exact Jq ho.nd k (k + 1) (by omega) a2
 ·obtain ⟨q,hq,he⟩:=oV.1 he;unfold wwT at he
  split at he
  ·cases he
  ·rename_i hn
   rw [List.mem_singleton] at he
   subst he;obtain ⟨⟨r1,r2,r3⟩,r4,r5⟩:=BF.1 (dJ hq);have hin:=wT hf r1 r2 r5;refine ⟨hu.1,hin,?_⟩;have:¬ pos x.Order (idx (dwr h a) (q:Int))≤pos x.Order p:=fun hle=>hn ((hmem _).2 ((BN ho.nd hA.1).2 ⟨hin,hle,r3⟩))
   dsimp only
   omega
theorem QW (hS:dB h) (hc:az h=some 0) (hf:sQ h x) (hno:LW h x 7) {a:Ask} (ha:a ∈ kY h) {e:Edge} (he:e ∈ rwE h a):Kept x e.From e.To:=by
 have ho:=hf.ord;obtain ⟨i,hi,ei,hp,hv⟩:=Ei hf ha;have hsp:=ET hS hc ho ha hp hv;obtain ⟨t0,t1,td⟩:=Eh ha;have hta:=wT hf t0 t1 td;unfold rwE at he;obtain ⟨k,hk,he⟩:=oV.1 he;unfold rwT at he
 split at he
 rotate_left
 ·cases he
 rename_i hov
 rw [List.mem_singleton] at he
 subst he;obtain ⟨⟨r1,r2,r3⟩,r4,r5⟩:=BF.1 (dJ hk);generalize idx (dwr h a) (k:Int)=t at hov r1 r2 r3 r4 r5;have hin:=wT hf r1 r2 r5;refine ⟨hta,hin,?_⟩
 show pos x.Order a.Txn < pos x.Order t
 apply Classical.byContradiction
 intro hle;have hlt:pos x.Order t < pos x.Order a.Txn:=by
  rcases Nat.lt_trichotomy (pos x.Order t) (pos x.Order a.Txn) with h1 | h1 | h1
  ·exact h1
  ·exact absurd (by rw [← qo hin,h1,qo hta]) r4
  ·exact absurd h1 hle
 have hat:0≤idx x.Picks (i:Int)∧(t=idx x.Picks (i:Int)∨pos x.Order t < pos x.Order (idx x.Picks (i:Int))):=by
  apply Classical.byContradiction
  intro hq;obtain ⟨n,rfl⟩:∃ n:Nat,t=(n:Int):=⟨t.toNat,by omega⟩
  obtain ⟨q1,q2,q3⟩:=BK hf hi
  rw [ei] at q1
  have hkr:=OI hS hi
  rw [ei] at hkr
  refine hno i n hi ⟨?_,⟨?_,?_,hin,?_⟩,fun e => ?_,fun h5=>hq ⟨h5.1,h5.2.imp id (fun h6 => ?_)⟩⟩
  ·show FU x (uj h i) n
   exact ⟨q3,by rw [← q1]; exact hlt⟩
  ·rw [ei]; exact hkr.1
  ·rw [ei]; exact hkr.2
  ·rw [ei]; exact r3
  ·rw [e,← q1] at r4
   exact r4 rfl
  ·have h7:=h6.2
   rw [show (((idx x.Picks (i:Int)).toNat:Nat):Int)=idx x.Picks (i:Int) by omega] at h7
   exact h7
 have hA:=hp.resolve_left (by omega);rcases hov with h1 | ⟨hm,hnp⟩ | ⟨_,_,s,hs,hst,b,hb,a1,a2,hbs⟩
 ·rw [h1,List.mem_singleton] at hsp
  omega
 ·obtain ⟨_,_,hmem⟩:=EZ hS hc hf ha hm hp hv;refine hnp ((hmem t).2 ((BN ho.nd hA.1).2 ⟨hin,?_,r3⟩));rcases hat.2 with h2 | h2
  ·rw [h2]; exact Nat.le_refl _
  ·omega
 ·rw [hs,List.mem_singleton] at hsp
  rw [hsp] at hat hA
  obtain ⟨j,hj,ej,hpb,hvb⟩:=Ei hf hb;have hsb:=ET hS hc ho hb hpb hvb
  rw [hbs,List.mem_singleton] at hsb
  rw [hsb] at hpb
  have hAb:=hpb.resolve_left (by omega);have h3:=hAb.2.1
  rw [a1] at h3
  rcases hat.2 with h4 | h4
  ·exact hst h4.symm
  ·omega
theorem Ni (hS:dB h) (hc:az h=some 0) (hf:sQ h x) {e:Edge} (he:e ∈ gF h) (a1:e.Kind=16→LW h x 7) (h2:e.Kind=2→OH h x):Kept x e.From e.To:=by
 have ho:=hf.ord;obtain ⟨f0,f1,t0,t1,ne,sf,st,kd⟩:=Jg hS hc he;have asks:e.Kind≠1→e.Kind≠2→Kept x e.From e.To:=fun n1 n2=>by
  unfold gF at he;rcases List.mem_append.1 he with he | he
  ·exfalso
   rcases List.mem_append.1 he with he | he
   ·obtain ⟨j,hj,he⟩:=oV.1 he;unfold soE at he
    split at he
    ·split at he
     ·rw [List.mem_singleton] at he; subst he; exact n1 rfl
     ·cases he
    ·cases he
   ·obtain ⟨j,hj,he⟩:=oV.1 he;obtain ⟨k,hk,he⟩:=oV.1 he;unfold FR at he
    split at he
    ·rw [List.mem_singleton] at he; subst he; exact n2 rfl
    ·cases he
  ·obtain ⟨a,ha,he⟩:=List.mem_flatMap.1 he;unfold DK at he;rcases List.mem_append.1 he with he | he
   ·rcases List.mem_append.1 he with he | he
    ·exact QU hS hc hf ha he
    ·exact QV hS hc hf ha he
   ·refine QW hS hc hf (a1 ?_) ha he;unfold rwE at he;obtain ⟨k,hk,he⟩:=oV.1 he;unfold rwT at he
    split at he
    ·rw [List.mem_singleton] at he; subst he; rfl
    ·cases he
 rcases kd with ⟨q1,q2,q3,q4,q5,q6⟩ | ⟨q1,q2,q3,q4,q5⟩ | ⟨q1,_⟩ | ⟨q1,_⟩ | ⟨q1,_⟩
 ·have m1:=wT hf f0 f1 q5;have m2:=wT hf t0 t1 q6;obtain ⟨a,ea⟩:∃ a:Nat,e.From=(a:Int):=⟨e.From.toNat,by omega⟩
  obtain ⟨b,eb⟩:∃ b:Nat,e.To=(b:Int):=⟨e.To.toNat,by omega⟩
  rw [ea] at q3 m1
  rw [eb] at q3 m2
  rw [ea,eb]
  exact ⟨m1,m2,hf.sess b a (by omega) (by omega) q3.symm m2 m1⟩
 ·have m1:=wT hf f0 f1 q3;have m2:=wT hf t0 t1 q4;refine ⟨m1,m2,?_⟩
  apply Classical.byContradiction
  intro hn;have hlt:pos x.Order e.To < pos x.Order e.From:=by
   rcases Nat.lt_trichotomy (pos x.Order e.To) (pos x.Order e.From) with h3 | h3 | h3
   ·exact h3
   ·exact absurd (by rw [← qo m1,← h3,qo m2]) ne
   ·exact absurd h3 hn
  obtain ⟨a,ea⟩:∃ a:Nat,e.From=(a:Int):=⟨e.From.toNat,by omega⟩
  obtain ⟨b,eb⟩:∃ b:Nat,e.To=(b:Int):=⟨e.To.toNat,by omega⟩
  rw [ea] at q3 q5 m1 hlt
  rw [eb] at q5 hlt
  exact h2 q1 a b (by omega) (by omega) ⟨q3,q5,m1,hlt⟩
 ·exact asks (by omega) (by omega)
 ·exact asks (by omega) (by omega)
 ·exact asks (by omega) (by omega)
theorem Sd {n:Nat} {S:Nat→Nat→Prop} {f:Nat→Nat} (hS:∀ i j,S i j→i < n∧j < n∧f i < f j) {l:List Nat} (hl:Ord n S l) (hlt:l.length < n) (hno:∀ j,j < n → ¬ Jh S l j):False:=by
 have hall:∀ m j,j < n→j ∉ l→f j < m→False:=by
  intro m
  induction m with
  | zero=>intro j _ _ h; omega
  | succ m ih =>
   intro j hj hjl hm;refine hno j hj ⟨hjl,fun i hi=>Classical.byContradiction fun hil => ?_⟩;have:=hS i j hi;exact ih i this.1 hil (by omega)
 have hex:∃ j,j < n∧j ∉ l:=by
  apply Classical.byContradiction
  intro hq;have hsub:∀ v ∈ (List.range n).map (fun j:Nat=>(j:Int)),v ∈ l.map (fun j:Nat=>(j:Int)):=fun v hv=>by
   obtain ⟨j,hj,rfl⟩:=List.mem_map.1 hv;have hj:=List.mem_range.1 hj;exact List.mem_map.2 ⟨j,Classical.byContradiction fun h=>hq ⟨j,hj,h⟩,rfl⟩
  have hnd:((List.range n).map (fun j:Nat=>(j:Int))).Nodup:=by
   rw [List.nodup_iff_pairwise_ne,List.pairwise_map]
   exact List.nodup_range.imp (fun h e=>h (by omega))
  have:=ql hnd hsub
  simp at this
  omega
 obtain ⟨j,hj,hjl⟩:=hex;exact hall (f j + 1) j hj hjl (by omega)
end
end Go.Proofs.YtfpeabnehpclnaaGreatDoorT
namespace Go.Proofs.YtfpeabnehpclnaaGreatDoorT
open Go Go.Proofs Go.Proofs.YtfpeabnehpclnaaGreatDoorE
set_option linter.unusedVariables false
set_option linter.unusedSimpArgs false
theorem QX {h:History} {x:Exec} {r:Int×Int} (h1:gy h x=some r) (r2:r.2=0) (r1:r.1=0) (hl:x.Order.length < 2 ^ 50) {e:Edge}:lN h x e=some (decide (e.From ∈ x.Order∧e.To ∈ x.Order∧pos x.Order e.From < pos x.Order e.To)):=by
 refine yC.1 ?_;unfold lN;refine aZ h1 ?_;refine ai (fun h=>absurd r2 h) (fun _ => ?_)
 rw [show (r.1 != 0)=false by rw [bne_eq_false_iff_eq]; exact r1]
 unfold uO
 rw [cond_false]
 refine aZ (Gp (by omega)) (aZ (Gp (by omega)) ?_)
 by_cases m1:e.From ∈ x.Order
 ·rw [if_pos m1]
  refine ai (fun _=>af ?_) (fun h=>absurd h (by omega))
  by_cases m2:e.To ∈ x.Order
  ·rw [if_pos m2]
   simp [m1,m2]
  ·rw [if_neg m2]
   simp [m2]
 ·rw [if_neg m1]
  refine ai (fun h=>absurd h (by decide)) (fun _=>af ?_)
  simp [m1]
theorem Hr (h:History) (x:Exec) {K:ByteArray→Prop} (g:HG K h) (gx:XG x):aI h x=some true:=by
 have hs:=g.small;have g1:=gx.1.2;have g2:=gx.2.2;obtain ⟨r,hwy,hr⟩:=Oz hs (x:=x) (by omega) (by omega);refine eY.1 ?_;unfold aI
 rw [xY]
 refine cZ ?_
 rw [Bool.not_true,cond_false]
 refine aZ hwy ?_;rcases hr with ⟨rfl,hc⟩ | ⟨r0,hS,hc,hw⟩
 ·refine aZ (Nb hc) ?_;refine ai (fun _ => ?_) (fun h=>absurd (by decide) h);exact ai (fun _=>af rfl) (fun h=>absurd rfl h)
 have a3:=hS.len;have hG:=Kz hS hc;have hlen:=Gq hS hc;refine aZ (Ky hs hS hc) ?_;refine ai (fun h=>absurd r0 h) (fun _ => ?_);refine ai (fun h=>absurd rfl h) (fun _ => ?_);refine aZ (ES hG) ?_;unfold je;refine ai (fun h=>absurd h (by simp)) (fun _ => ?_);refine ai (fun _=>af rfl) (fun h1 => ?_);have r1:r.1=0:=Classical.byContradiction h1;have hf:=(Hm hw).1 r1;have ho:=hf.ord;have hol:=ho.len;refine bU (EY hs (x:=x) (by omega) (by omega) 7) (fun a ha => ?_);refine bU (EY hs (x:=x) (by omega) (by omega) 8) (fun b hb => ?_);rcases ha with ⟨_,hq⟩ | ⟨a0,_,ha⟩
 ·exact absurd ⟨hS,hf,by omega,by omega⟩ hq
 rcases hb with ⟨_,hq⟩ | ⟨b0,_,hb⟩
 ·exact absurd ⟨hS,hf,by omega,by omega⟩ hq
 refine ai (fun h=>absurd a0 h) (fun _ => ?_);unfold jd;refine ai (fun h=>absurd b0 (by simpa using h)) (fun _ => ?_);have kept:∀ {e:Edge},e ∈ gF h→((e.Kind≠16∧e.Kind≠2)∨(a.1=true∧e.Kind=16)∨b.1=true)→e.From ∈ x.Order∧e.To ∈ x.Order∧pos x.Order e.From < pos x.Order e.To:=fun {e} he hm=>by
  refine Ni hS hc hf he (fun a2 => ?_) (fun e2 => ?_)
  ·rcases hm with h2 | h2 | h2
   ·exact absurd a2 h2.1
   ·exact (ha.1 h2.1).1
   ·exact fun i u hi hbad=>(hb.1 h2).1 i u hi hbad
  ·rcases hm with h2 | h2 | h2
   ·exact absurd e2 h2.2
   ·omega
   ·exact (hb.1 h2).2 rfl
 refine bN (k0:=0) (gF h).length (fun k s=>s=(k:Int)) (Nat.zero_le _) rfl ?_;rintro k s hk rfl;have hwk:w64 ((k:Int) + 1)=((k + 1:Nat):Int):=aQ (by omega);unfold lT
 dsimp only
 refine ai (fun h2 => ?_) (fun h2 => ?_)
 ·have a1:k < (gF h).length:=by omega
  have hmem:idx (gF h) (k:Int) ∈ gF h:=by rw [bS (n:=k) rfl a1]; exact List.getElem_mem _
  refine ag (by omega) ?_;have yes:∀ c:Bool,(c=true→((idx (gF h) (k:Int)).Kind≠16∧(idx (gF h) (k:Int)).Kind≠2)∨(a.1=true∧(idx (gF h) (k:Int)).Kind=16)∨b.1=true) →
    Tri (dL h x (⟨(h.Txns.length:Int),gF h⟩,0) (k:Int) c) (Upm (gF h).length k (fun k s=>s=(k:Int)) (fun b:Bool=>b=true)):=fun c hcc=>by
   unfold dL jc
   dsimp only
   rw [hwk]
   refine ai (fun h3 => ?_) (fun _=>ai (fun h=>absurd h (by simp)) (fun _=>af ⟨a1,rfl⟩));refine ag (by omega) (aZ (QX hwy r0 r1 (by omega)) ?_)
   rw [decide_eq_true (kept hmem (hcc h3))]
   exact ai (fun h=>absurd h (by simp)) (fun _=>af ⟨a1,rfl⟩)
  refine ai (fun h3 => ?_) (fun h3 => ?_)
  ·refine ai (fun h4=>yes true (fun _ => .inl ⟨h3,h4⟩)) (fun h4 => ?_);refine ai (fun h5 => ?_) (fun h5=>yes _ (fun h6 => .inr (.inr h6)));exact ai (fun h6=>absurd h6 h3) (fun _=>yes _ (fun h6 => .inr (.inr h6)))
  ·refine ai (fun h5 => ?_) (fun h5=>yes _ (fun h6 => .inr (.inr h6)));exact ai (fun h6=>yes true (fun _ => .inr (.inl ⟨h5,h6⟩))) (fun _=>yes _ (fun h6 => .inr (.inr h6)))
 ·refine bU (CW 13 hG) (fun o hout => ?_);have hup:∀ i j,Sel ⟨(h.Txns.length:Int),gF h⟩ 13 i j→i < h.Txns.length∧j < h.Txns.length∧pos x.Order (i:Int) < pos x.Order (j:Int):=fun i j hij=>by
   have hlt:=Ow hG hij;obtain ⟨q,hq,hmask,e1,e2⟩:=hij
   dsimp only at hq hmask e1 e2
   have hmem:idx (gF h) (q:Int) ∈ gF h:=by rw [bS (n:=q) rfl hq]; exact List.getElem_mem _
   have hk:=kept hmem (.inl ⟨fun e=>hmask (by rw [e]; decide),fun e=>hmask (by rw [e]; decide)⟩)
   rw [e1,e2] at hk
   have e3:(⟨(h.Txns.length:Int),gF h⟩:fU).N.toNat=h.Txns.length:=by simp
   rw [e3] at hlt
   exact ⟨hlt.1,hlt.2,hk.2.2⟩
  have e3:(⟨(h.Txns.length:Int),gF h⟩:fU).N.toNat=h.Txns.length:=by simp
  rw [e3] at hout
  rcases hout with ⟨l,_,_,rfl⟩ | ⟨l,q1,q2,q3,rfl⟩
  ·exact ai (fun _=>au (af rfl)) (fun h=>absurd rfl h)
  ·exact (Sd (f:=fun i=>pos x.Order (i:Int)) hup q1 q2 q3).elim
end Go.Proofs.YtfpeabnehpclnaaGreatDoorT
