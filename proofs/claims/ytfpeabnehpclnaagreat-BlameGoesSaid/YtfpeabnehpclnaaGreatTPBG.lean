import Derived.Test.YtfpeabnehpclnaaGreatTPBL
import Derived.Test.YtfpeabnehpclnaaGreatI
namespace Go.Proofs.YtfpeabnehpclnaaGreatT
open Go Go.Proofs Go.Proofs.YtfpeabnehpclnaaGreatE
set_option linter.unusedVariables false
set_option linter.unusedSimpArgs false
section
variable {h:History}
theorem KC {k:Int} {b:bY} (hb:b ∈ sj h k):b.Kind=k∧0 < (lH (gr h) k).length∧b.Cycle=lH (gr h) k:=by
 unfold sj at hb
 split at hb
 ·rw [List.mem_singleton] at hb; rw [hb]; exact ⟨rfl,by assumption,rfl⟩
 ·cases hb
theorem Ns {b:bY} (hb:b ∈ inB h):b.Kind=1∧b.Cycle=[]:=by
 unfold inB at hb
 split at hb
 ·rw [List.mem_singleton] at hb; rw [hb]; exact ⟨rfl,rfl⟩
 ·cases hb
theorem Nt {b:bY} (hb:b ∈ gaB h):b.Kind=2∧b.Cycle=[]:=by
 unfold gaB at hb
 split at hb
 ·rw [List.mem_singleton] at hb; rw [hb]; exact ⟨rfl,rfl⟩
 ·cases hb
theorem FT {b:bY}:b ∈ lG h↔b ∈ inB h∨b ∈ gaB h∨b ∈ sj h 3∨b ∈ sj h 4∨b ∈ sj h 5∨b ∈ sj h 6∨b ∈ sj h 7:=by
 unfold lG cyL
 simp only [List.mem_append]
theorem Ox (hg:Good (gr h)) {b:bY} (hb:b ∈ lG h):1≤b.Kind∧b.Kind≤7∧b.Cycle.length≤64:=by
 have few:∀ k:Int,3≤k→k≤7→b ∈ sj h k→1≤b.Kind∧b.Kind≤7∧b.Cycle.length≤64:=by
  intro k h3 h7 hb;obtain ⟨e1,_,e3⟩:=KC hb
  rw [e3]
  exact ⟨by omega,by omega,RN hg h3 h7⟩
 rcases FT.1 hb with hb | hb | hb | hb | hb | hb | hb
 ·have:=Ns hb; rw [this.2]; exact ⟨by omega,by omega,Nat.zero_le _⟩
 ·have:=Nt hb; rw [this.2]; exact ⟨by omega,by omega,Nat.zero_le _⟩
 ·exact few 3 (by decide) (by decide) hb
 ·exact few 4 (by decide) (by decide) hb
 ·exact few 5 (by decide) (by decide) hb
 ·exact few 6 (by decide) (by decide) hb
 ·exact few 7 (by decide) (by decide) hb
theorem Tc {k:Int} (h3:3≤k) {b:bY} (hb:b ∈ lG h) (hk:b.Kind=k):0 < (lH (gr h) k).length∧b.Cycle=lH (gr h) k:=by
 have fin:∀ q:Int,b ∈ sj h q→0 < (lH (gr h) k).length∧b.Cycle=lH (gr h) k:=by
  intro q hb;obtain ⟨e1,e2⟩:=KC hb;have:q=k:=e1.symm.trans hk;subst this;exact e2
 rcases FT.1 hb with hb | hb | hb | hb | hb | hb | hb
 ·have:=(Ns hb).1; omega
 ·have:=(Nt hb).1; omega
 all_goals exact fin _ hb
theorem Td {k:Int} (h3:3≤k) (h7:k≤7) (hp:0 < (lH (gr h) k).length):∃ b ∈ lG h,b.Kind=k∧b.Cycle=lH (gr h) k:=by
 have hm:(⟨k,(cOf k).1,⟨0,0⟩,lH (gr h) k⟩:bY) ∈ sj h k:=by unfold sj; rw [if_pos hp]; exact List.mem_singleton.2 rfl
 refine ⟨⟨k,(cOf k).1,⟨0,0⟩,lH (gr h) k⟩,FT.2 ?_,rfl,rfl⟩;rcases five h3 h7 with rfl | rfl | rfl | rfl | rfl <;> simp [hm]
theorem goes (hg:Good (gr h)):(0 < (lH (gr h) 3).length→0 < (lH (gr h) 5).length)∧(1 < (lH (gr h) 4).length→0 < (lH (gr h) 5).length) ∧
  (0 < (lH (gr h) 5).length→0 < (lH (gr h) 6).length)∧(0 < (lH (gr h) 6).length→0 < (lH (gr h) 7).length):=by
 obtain ⟨_,c3,t3⟩:=oL hg (k:=3) (by decide) (by decide);obtain ⟨_,c4,t4⟩:=oL hg (k:=4) (by decide) (by decide);obtain ⟨_,c5,t5⟩:=oL hg (k:=5) (by decide) (by decide);obtain ⟨_,c6,t6⟩:=oL hg (k:=6) (by decide) (by decide);obtain ⟨_,c7,t7⟩:=oL hg (k:=7) (by decide) (by decide);have l3:Bd (wz (gr h) 13 0 .plain) (lH (gr h) 3).length:=t3.least;have l4:Bd (wz (gr h) 5 16 .single) (lH (gr h) 4).length:=t4.least;have l5:Bd (wz (gr h) 13 16 .spaced) (lH (gr h) 5).length:=t5.least;have l6:Bd (wz (gr h) 29 0 .plain) (lH (gr h) 6).length:=t6.least;have l7:Bd (wz (gr h) 31 0 .plain) (lH (gr h) 7).length:=t7.least;have o1:∀ a b,dY (gr h) 5 a b=true→dY (gr h) 13 a b=true:=fun a b q=>by
  rw [show (13:Int)=bOr .i64 5 8 by decide]; exact EM.2 (.inl q)
 have o2:∀ a b,dY (gr h) 13 a b=true→dY (gr h) 29 a b=true:=fun a b q=>by
  rw [show (29:Int)=bOr .i64 13 16 by decide]; exact EM.2 (.inl q)
 have o3:∀ a b,dY (gr h) 16 a b=true→dY (gr h) 29 a b=true:=fun a b q=>by
  rw [show (29:Int)=bOr .i64 13 16 by decide]; exact EM.2 (.inr q)
 have o4:∀ a b,dY (gr h) 29 a b=true→dY (gr h) 31 a b=true:=fun a b q=>by
  rw [show (31:Int)=bOr .i64 29 2 by decide]; exact EM.2 (.inl q)
 refine ⟨fun q => ?_,fun q => ?_,fun q => ?_,fun q => ?_⟩
 ·obtain ⟨c,hc⟩:=Ar l3 q;refine (Cs (fun k hk=>yL hk) l5 (k:=(lH (gr h) 3).length) ⟨c,hc.pos,hc.per,hc.node,fun i => ?_⟩).1;rcases hc.edge i with h1 | h1
  ·exact .inl h1
  ·rw [Dz] at h1; cases h1.1
 ·have h1:=GJ (Ar l4 (by omega)) q;exact (Cs (fun k hk=>yL hk) l5 (Eg rfl o1 (fun _ _ q=>q) h1)).1
 ·obtain ⟨c,hc⟩:=Ar l5 q;refine (Cs (fun k hk=>yL hk) l6 (k:=(lH (gr h) 5).length) ⟨c,hc.pos,hc.per,hc.node,fun i => .inl ?_⟩).1;rcases hc.edge i with h1 | h1
  ·exact o2 _ _ h1
  ·exact o3 _ _ h1.1
 ·exact (Cs (fun k hk=>yL hk) l7 (Eg rfl o4 (fun _ _ q=>q) (Ar l6 q))).1
theorem GK (h:History) {K:ByteArray→Prop} (g:HG K h):aU h=some true:=by
 have hs:=g.small;obtain ⟨v,hv,hv',a5,hiff⟩:=Lt hs;refine eQ.1 ?_;unfold aU
 rw [yw]
 refine bX ?_
 rw [Bool.not_true,cond_false]
 rcases a5 with rfl | rfl
 rotate_left
 ·refine bK (Qr hv) ?_;exact az (fun _=>ag rfl) (fun h=>absurd (show (1:Int)≠0 by decide) h)
 have hS:=hiff.1 rfl;have hg:=FH hS hv;refine bK (Ov hs hS hv) ?_;refine az (fun h=>absurd rfl h) (fun _ => ?_);have hl:=Ow (h:=h);refine dH (k0:=0) (lG h).length (fun k s=>s.2=(k:Int)∧∀ q:Nat,q < 8→((∀ j:Nat,j < k→(idx (lG h) (j:Int)).Kind≠(q:Int))→idx s.1 (q:Int)=0)∧(∀ j:Nat,j < k→(idx (lG h) (j:Int)).Kind=(q:Int)→idx s.1 (q:Int)=1 + ((idx (lG h) (j:Int)).Cycle.length:Int))) (Nat.zero_le _) ⟨rfl,fun q _=>⟨fun _=>rfl,fun j hj=>absurd hj (Nat.not_lt_zero _)⟩⟩ ?_;rintro k ⟨l,s⟩ hk ⟨a4,hK⟩
 dsimp only at a4 hK
 subst a4;have hw:w64 ((k:Int) + 1)=((k + 1:Nat):Int):=aZ (by omega);unfold lq
 dsimp only
 refine az (fun h1 => ?_) (fun h1 => ?_)
 ·have a3:k < (lG h).length:=by omega
  have hm:idx (lG h) (k:Int) ∈ lG h:=by rw [dm (n:=k) rfl a3]; exact List.getElem_mem _
  obtain ⟨k1,k7,kc⟩:=Ox hg hm;have up:∀ j:Nat,j < k→(idx (lG h) (j:Int)).Kind < (idx (lG h) (k:Int)).Kind:=fun j hj=>by
   have hp:=List.pairwise_iff_getElem.1 (RQ (h:=h)) j k (by omega) a3 hj
   rw [dm (n:=k) rfl a3,dm (n:=j) rfl (by omega)]
   exact hp
  generalize hb:idx (lG h) (k:Int)=b at k1 k7 kc up;refine ah (by omega) ?_;refine az (fun q=>absurd q (by omega)) (fun _ => ?_)
  rw [show decide (b.Kind > 7)=false from decide_eq_false (by omega)]
  unfold iX
  dsimp only
  rw [cond_false]
  simp only [hb]
  refine ah (by omega) (ah (by omega) (ag ⟨a3,hw,fun q hq => ?_⟩))
  dsimp only
  rw [KF hq,bA (by omega) (by omega)]
  constructor
  ·intro hno;have h2:=hno k (by omega)
   rw [hb] at h2
   rw [if_neg (fun e=>h2 e.symm)]
   exact (hK q hq).1 fun j hj=>hno j (by omega)
  ·intro j hj e
   by_cases hjk:j=k
   ·subst hjk
    rw [hb] at e
    rw [if_pos e.symm,hb]
   ·have h3:=up j (by omega)
    rw [if_neg (by omega)]
    exact (hK q hq).2 j (by omega) e
 ·have hkl:k=(lG h).length:=by omega
  have val:∀ q:Nat,3≤q→q≤7→idx l (q:Int)=if 0 < (lH (gr h) (q:Int)).length then 1 + ((lH (gr h) (q:Int)).length:Int) else 0:=by
   intro q h3 h7;obtain ⟨a1,a2⟩:=hK q (by omega)
   split
   ·rename_i hp
    obtain ⟨b,hb,e1,e2⟩:=Td (h:=h) (k:=(q:Int)) (by omega) (by omega) hp;obtain ⟨j,hj,e⟩:=List.getElem_of_mem hb;have:=a2 j (by omega) (by rw [dm (n:=j) rfl hj,e]; exact e1)
    rw [this,dm (n:=j) rfl hj,e,e2]
   ·rename_i hp
    refine a1 fun j hj e=>hp ?_;have a6:j < (lG h).length:=by omega
    exact (Tc (h:=h) (k:=(q:Int)) (by omega) (b:=idx (lG h) (j:Int)) (by rw [dm (n:=j) rfl a6]; exact List.getElem_mem _) e).1
  have v3:idx l (3:Int)=_:=val 3 (by decide) (by decide);have v4:idx l (4:Int)=_:=val 4 (by decide) (by decide);have v5:idx l (5:Int)=_:=val 5 (by decide) (by decide);have v6:idx l (6:Int)=_:=val 6 (by decide) (by decide);have v7:idx l (7:Int)=_:=val 7 (by decide) (by decide);obtain ⟨g1,g2,g3,g4⟩:=goes hg;have two:∀ (q:Int) (n:Nat),idx l q=(if 0 < n then 1 + (n:Int) else 0)→(n=0∧idx l q=0)∨(0 < n∧idx l q=1 + (n:Int)):=by
   intro q n e
   split at e
   ·exact .inr ⟨by assumption,e⟩
   ·exact .inl ⟨by omega,e⟩
  have w3:=two 3 _ v3;have w4:=two 4 _ v4;have w5:=two 5 _ v5;have w6:=two 6 _ v6;have w7:=two 7 _ v7;clear val v3 v4 v5 v6 v7 two;generalize (lH (gr h) 3).length=n3 at g1 w3;generalize (lH (gr h) 4).length=n4 at g2 w4;generalize (lH (gr h) 5).length=n5 at g1 g2 g3 w5;generalize (lH (gr h) 6).length=n6 at g3 g4 w6;generalize (lH (gr h) 7).length=n7 at g4 w7;have fin:∀ c:Bool,c=false→Tri (ed l c) (Upm (lG h).length k (fun k s=>s.2=(k:Int)∧∀ q:Nat,q < 8→((∀ j:Nat,j < k→(idx (lG h) (j:Int)).Kind≠(q:Int))→idx s.1 (q:Int)=0)∧(∀ j:Nat,j < k→(idx (lG h) (j:Int)).Kind=(q:Int)→idx s.1 (q:Int)=1 + ((idx (lG h) (j:Int)).Cycle.length:Int))) (fun b:Bool=>b=true)):=by
   rintro c rfl;unfold ed
   rw [cond_false]
   repeat' (first | refine az (fun _ => ?_) (fun _ => ?_) | refine ax (ag ?_))
   all_goals first | rfl | exact decide_eq_true (by omega) | (exfalso; omega)
  have c5:∀ p:Prop,p→(p→0 < n5)→(idx l (5:Int) == 0)=false:=by
   intro p hp h5;have:=h5 hp
   rw [beq_eq_false_iff_ne]
   omega
  refine az (fun q3 => ?_) (fun q3 => ?_)
  ·refine az (fun q5 => ?_) (fun q5 => ?_)
   ·exfalso
    omega
   ·refine az (fun q4 => ?_) (fun q4=>fin _ rfl);exact fin _ (c5 True trivial fun _=>by omega)
  ·refine az (fun q4 => ?_) (fun q4=>fin _ rfl);exact fin _ (c5 True trivial fun _=>by omega)
end
end Go.Proofs.YtfpeabnehpclnaaGreatT
