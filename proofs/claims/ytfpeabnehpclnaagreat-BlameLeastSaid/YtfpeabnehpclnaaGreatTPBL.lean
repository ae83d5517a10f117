import Derived.Test.YtfpeabnehpclnaaGreatTPDG
import Derived.Test.YtfpeabnehpclnaaGreatTPRQ
import Derived.Test.YtfpeabnehpclnaaGreatTF
namespace Go.Proofs.YtfpeabnehpclnaaGreatT
open Go Go.Proofs Go.Proofs.YtfpeabnehpclnaaGreatE
set_option linter.unusedVariables false
set_option linter.unusedSimpArgs false
section
variable {h:History}
def cOf (k:Int):Int×Int×Int×Int:=if k=3 then (1,13,0,1) else if k=4 then (4,5,16,2) else if k=5 then (6,13,16,3) else if k=6 then (7,29,0,1) else (8,31,0,1)
noncomputable abbrev gr (h:History):bL:=⟨(h.Txns.length:Int),qy h⟩
noncomputable abbrev Iw (h:History):List Ask:=empties h (bA h h.Txns.length)
structure Mw (h:History) (b:bM):Prop where
 lo:3≤b.Kind
 hi:b.Kind≤7
 lv:b.Level=(cOf b.Kind).1
 sp:b.Spot=⟨0,0⟩
 fit:Bz (gr h) b.Cycle (cOf b.Kind).2.1 (cOf b.Kind).2.2.1 (cOf b.Kind).2.2.2
def KT (h:History) (b:bM):Prop :=
 (b.Kind=1∧b.Level=1∧b.Cycle=[]∧b.Spot ∈ nK h h.Txns.length) ∨
 (b.Kind=2∧b.Level=1∧b.Cycle=[]∧∃ a ∈ Iw h,a.Txn=b.Spot.Txn∧a.Place=b.Spot.Place)∨Mw h b
theorem Gg (hs:pG h) (hS:eF h) (hv:aC h=some 0):pY h=some (Iw h,0):=by
 have a1:=hS.len;obtain ⟨i1,_,_⟩:=rG hS h.Txns.length (Nat.le_refl _);have hA:jJ h=some (bA h h.Txns.length,0):=by unfold jJ; rw [Cy hs hS hv]; rfl
 unfold pY
 rw [hA]
 show (bB _ h).bind _=_
 rw [Kn hS hv (fun a ha=>ha) (by omega)]
 rfl
theorem OW (hS:eF h):(Iw h).length≤512:=by
 have a1:=hS.len;obtain ⟨i1,_,_⟩:=rG hS h.Txns.length (Nat.le_refl _);exact Nat.le_trans (List.length_filter_le _ _) (by omega)
theorem KU (hs:pG h) (hS:eF h) (hv:aC h=some 0):uj h=some (nK h h.Txns.length,0):=by unfold uj; rw [Cy hs hS hv]; rfl
theorem OX (hS:eF h):(nK h h.Txns.length).length≤512:=by
 have a1:=hS.len;obtain ⟨_,i1,_⟩:=rG hS h.Txns.length (Nat.le_refl _)
 omega
theorem NL {a b:Spot}:(a.Txn=b.Txn∧a.Place=b.Place)↔a=b:=by
 obtain ⟨a1,a2⟩:=a;obtain ⟨b1,b2⟩:=b
 simp
theorem KV {l:List Spot} {j:Nat} (hj:j < l.length):idx l (j:Int) ∈ l:=by rw [dA (n:=j) rfl hj]; exact List.getElem_mem _
theorem KW {l:List Spot} {v:Spot} (hl:l.length < 2 ^ 60):Tri (jv l v) (fun r=>r=true↔v ∈ l):=by
 have h1:Tri (gy l v) (fun r=>0≤r↔v ∈ l):=by
  unfold gy;refine dI (k0:=0) l.length (fun k s=>s=(k:Int)∧∀ j:Nat,j < k→v≠idx l (j:Int)) (Nat.zero_le _) ⟨rfl,fun j h=>absurd h (Nat.not_lt_zero _)⟩ ?_;rintro k s hk ⟨rfl,hno⟩;have hw:w64 ((k:Int) + 1)=((k + 1:Nat):Int):=bf (by omega);unfold oV
  dsimp only
  rw [hw]
  refine az (fun h1 => ?_) (fun h1 => ?_)
  ·have a1:k < l.length:=by omega
   refine ah (by omega) ?_;refine az (fun h2 => ?_) (fun h2 => ?_)
   ·refine av (af ⟨fun _ => ?_,fun _=>by omega⟩)
    rw [NL.1 ⟨h2.1,h2.2.1⟩]
    exact KV a1
   ·refine af ⟨a1,rfl,fun j hj => ?_⟩;rcases Nat.lt_or_ge j k with h3 | h3
    ·exact hno j h3
    ·have:j=k:=by omega
     subst this;exact fun e=>h2 (by rw [e]; exact ⟨rfl,rfl,trivial⟩)
  ·have:k=l.length:=by omega
   subst this;refine av (af ⟨fun h=>absurd h (by decide),fun h => ?_⟩);obtain ⟨j,hj,e⟩:=List.getElem_of_mem h;exact absurd (e.symm.trans (dA rfl hj).symm) (hno j hj)
 unfold jv;refine dE h1 (fun r hr=>af ?_)
 rw [decide_eq_true_iff]
 exact hr
theorem Mx {l:List Ask} {b:bM} (hl:l.length < 2 ^ 60):Tri (eu l b) (fun r=>r=true↔∃ a ∈ l,a.Txn=b.Spot.Txn∧a.Place=b.Spot.Place):=by
 have h1:Tri (cK l b) (fun r=>0≤r↔∃ a ∈ l,a.Txn=b.Spot.Txn∧a.Place=b.Spot.Place):=by
  unfold cK;refine dI (k0:=0) l.length (fun k s=>s=(k:Int)∧∀ j:Nat,j < k → ¬ ((idx l (j:Int)).Txn=b.Spot.Txn∧(idx l (j:Int)).Place=b.Spot.Place)) (Nat.zero_le _) ⟨rfl,fun j h=>absurd h (Nat.not_lt_zero _)⟩ ?_;rintro k s hk ⟨rfl,hno⟩;have hw:w64 ((k:Int) + 1)=((k + 1:Nat):Int):=bf (by omega);unfold gV vN
  dsimp only
  rw [hw]
  refine az (fun h1 => ?_) (fun h1 => ?_)
  ·have a1:k < l.length:=by omega
   refine ah (by omega) (bU ?_);refine az (fun h2 => ?_) (fun h2 => ?_)
   ·exact av (af ⟨fun _=>⟨_,uX a1,h2.1,h2.2.1⟩,fun _=>by omega⟩)
   ·refine af ⟨a1,rfl,fun j hj => ?_⟩;rcases Nat.lt_or_ge j k with h3 | h3
    ·exact hno j h3
    ·have:j=k:=by omega
     subst this;exact fun e=>h2 ⟨e.1,e.2,trivial⟩
  ·have:k=l.length:=by omega
   subst this;refine av (af ⟨fun h=>absurd h (by decide),?_⟩);rintro ⟨a,ha,q⟩;obtain ⟨j,hj,e⟩:=List.getElem_of_mem ha;exact absurd (by rw [dA (n:=j) rfl hj,e]; exact q) (hno j hj)
 unfold eu;refine dE h1 (fun r hr=>af ?_)
 rw [decide_eq_true_iff]
 exact hr
theorem Uq {b:bM} {s:eX} (hk:s.kind≠b.Kind):jl h b (.inl ()) s=some (true,.inl ()):=by
 unfold jl
 dsimp only
 rw [show (s.kind == b.Kind)=false by rw [beq_eq_false_iff_ne]; exact hk]
 rfl
theorem Gh (hs:pG h) (hS:eF h) (hc:aC h=some 0) {b:bM} (hb:b.Cycle.length < 2 ^ 62) {s:eX} (hk:s.kind=b.Kind) :
  ∃ r,jl h b (.inl ()) s=some (false,.inr r)∧(r=true↔b.Level=s.level∧b.Spot=⟨0,0⟩∧Bz (gr h) b.Cycle s.d s.r s.rule):=by
 suffices hT:Tri (jl h b (.inl ()) s) (fun z=>∃ r,z=(false,.inr r)∧(r=true↔b.Level=s.level∧b.Spot=⟨0,0⟩∧Bz (gr h) b.Cycle s.d s.r s.rule)) by
  obtain ⟨z,e,r,rfl,hr⟩:=hT;exact ⟨r,e,hr⟩
 unfold jl
 dsimp only
 refine az (fun _ => ?_) (fun h=>absurd hk h);refine aX (BO hs hS hc) ?_;refine az (fun _ => ?_) (fun h=>absurd rfl h);refine az (fun q1 => ?_) (fun q1=>af ⟨_,rfl,fun h=>(nomatch h),fun h=>absurd h.1 q1⟩);have e0:(b.Spot.Txn=0∧b.Spot.Place=0∧True)↔b.Spot=⟨0,0⟩:=by rw [and_true]; exact NL (b:=⟨0,0⟩)
 refine az (fun q2 => ?_) (fun q2=>af ⟨_,rfl,fun h=>(nomatch h),fun h=>absurd (e0.2 h.2.1) q2⟩);refine dE (Gc _ _ _ _ _ hb) (fun r hr=>af ⟨r,rfl,hr.trans ⟨fun h=>⟨q1,e0.1 q2,h⟩,fun h=>h.2.2⟩⟩)
theorem Mw.of {b:bM} {l d r u:Int} {v:Bool} (h3:3≤b.Kind) (h7:b.Kind≤7) (hc:cOf b.Kind=(l,d,r,u)) (hr:v=true↔b.Level=l∧b.Spot=⟨0,0⟩∧Bz (gr h) b.Cycle d r u):v=true↔KT h b:=by
 refine hr.trans ⟨fun ⟨q1,q2,q3⟩ => .inr (.inr ⟨h3,h7,by rw [hc]; exact q1,q2,by rw [hc]; exact q3⟩),?_⟩;rintro (q | q | q)
 ·have:=q.1; omega
 ·have:=q.1; omega
 ·have h1:=q.lv;have h2:=q.fit
  rw [hc] at h1 h2
  exact ⟨h1,q.sp,h2⟩
theorem OY (hs:pG h) (hS:eF h) (hc:aC h=some 0) {b:bM} (hb:b.Cycle.length < 2 ^ 62):Tri (fC h b) (fun r=>r=true↔KT h b):=by
 unfold fC;refine aX hc ?_;refine az (fun h=>absurd rfl h) (fun _ => ?_);have h1:=OX hS;have h2:=OW hS;refine az (fun k1 => ?_) (fun k1 => ?_)
 ·have no:¬ (b.Level=1∧b.Cycle=[]) → ¬ KT h b:=by
   rintro hn (q | q | q)
   ·exact hn ⟨q.2.1,q.2.2.1⟩
   ·have:=q.1; omega
   ·have:=q.lo; omega
  refine aX (KU hs hS hc) ?_;refine az (fun l1 => ?_) (fun l1=>af ⟨fun h=>(nomatch h),fun h=>absurd h (no fun q=>l1 q.1)⟩);refine az (fun c0 => ?_) (fun c0=>af ⟨fun h=>(nomatch h),fun h=>absurd h (no fun q=>c0 (by rw [q.2]; rfl))⟩);refine dE (KW (by dsimp only; omega)) (fun r hr=>af (hr.trans ?_));refine ⟨fun m => .inl ⟨k1,l1,List.eq_nil_of_length_eq_zero (by omega),m⟩,?_⟩;rintro (q | q | q)
  ·exact q.2.2.2
  ·have:=q.1; omega
  ·have:=q.lo; omega
 refine az (fun k2 => ?_) (fun k2 => ?_)
 ·have no:¬ (b.Level=1∧b.Cycle=[]) → ¬ KT h b:=by
   rintro hn (q | q | q)
   ·have:=q.1; omega
   ·exact hn ⟨q.2.1,q.2.2.1⟩
   ·have:=q.lo; omega
  refine aX (Gg hs hS hc) ?_;refine az (fun l1 => ?_) (fun l1=>af ⟨fun h=>(nomatch h),fun h=>absurd h (no fun q=>l1 q.1)⟩);refine az (fun c0 => ?_) (fun c0=>af ⟨fun h=>(nomatch h),fun h=>absurd h (no fun q=>c0 (by rw [q.2]; rfl))⟩);refine dE (Mx (by dsimp only; omega)) (fun r hr=>af (hr.trans ?_));refine ⟨fun m => .inr (.inl ⟨k2,l1,List.eq_nil_of_length_eq_zero (by omega),m⟩),?_⟩;rintro (q | q | q)
  ·have:=q.1; omega
  ·exact q.2.2.2
  ·have:=q.lo; omega
 have fin:∀ v:Bool,(v=true↔KT h b)→Tri (Br (.inr v)) (fun r=>r=true↔KT h b):=fun v hv=>af hv;have no {s:eX} (hk:s.kind≠b.Kind):=Uq (h:=h) hk
 by_cases k3:b.Kind=3
 ·obtain ⟨r,e,hr⟩:=Gh hs hS hc hb (s:=⟨3,1,13,0,1,81⟩) k3.symm;refine aX (a := .inr r) ?_ (fin r (Mw.of (by omega) (by omega) (by rw [k3]; rfl) hr));unfold iE
  simp only [e,Option.bind_some,Bool.not_false,cond_true]
 by_cases k4:b.Kind=4
 ·obtain ⟨r,e,hr⟩:=Gh hs hS hc hb (s:=⟨4,4,5,16,2,54⟩) k4.symm;refine aX (a := .inr r) ?_ (fin r (Mw.of (by omega) (by omega) (by rw [k4]; rfl) hr));unfold iE
  simp only [no (s:=⟨3,1,13,0,1,81⟩) (by dsimp only; omega),e,Option.bind_some,Bool.not_false,cond_true,Bool.not_true,cond_false]
 by_cases k5:b.Kind=5
 ·obtain ⟨r,e,hr⟩:=Gh hs hS hc hb (s:=⟨5,6,13,16,3,55⟩) k5.symm;refine aX (a := .inr r) ?_ (fin r (Mw.of (by omega) (by omega) (by rw [k5]; rfl) hr));unfold iE
  simp only [no (s:=⟨3,1,13,0,1,81⟩) (by dsimp only; omega),no (s:=⟨4,4,5,16,2,54⟩) (by dsimp only; omega),e,Option.bind_some,Bool.not_false,cond_true,Bool.not_true,cond_false]
 by_cases k6:b.Kind=6
 ·obtain ⟨r,e,hr⟩:=Gh hs hS hc hb (s:=⟨6,7,29,0,1,81⟩) k6.symm;refine aX (a := .inr r) ?_ (fin r (Mw.of (by omega) (by omega) (by rw [k6]; rfl) hr));unfold iE
  simp only [no (s:=⟨3,1,13,0,1,81⟩) (by dsimp only; omega),no (s:=⟨4,4,5,16,2,54⟩) (by dsimp only; omega),no (s:=⟨5,6,13,16,3,55⟩) (by dsimp only; omega),e,Option.bind_some,Bool.not_false,cond_true,Bool.not_true,cond_false]
 by_cases k7:b.Kind=7
 ·obtain ⟨r,e,hr⟩:=Gh hs hS hc hb (s:=⟨7,8,31,0,1,81⟩) k7.symm;refine aX (a := .inr r) ?_ (fin r (Mw.of (by omega) (by omega) (by rw [k7]; rfl) hr));unfold iE
  simp only [no (s:=⟨3,1,13,0,1,81⟩) (by dsimp only; omega),no (s:=⟨4,4,5,16,2,54⟩) (by dsimp only; omega),no (s:=⟨5,6,13,16,3,55⟩) (by dsimp only; omega),no (s:=⟨6,7,29,0,1,81⟩) (by dsimp only; omega),e,Option.bind_some,Bool.not_false,cond_true,Bool.not_true,cond_false]
 have e:iE (jl h b) (.inl ())=some (.inl ()):=by
  unfold iE
  simp only [no (s:=⟨3,1,13,0,1,81⟩) (by dsimp only; omega),no (s:=⟨4,4,5,16,2,54⟩) (by dsimp only; omega),no (s:=⟨5,6,13,16,3,55⟩) (by dsimp only; omega),no (s:=⟨6,7,29,0,1,81⟩) (by dsimp only; omega),no (s:=⟨7,8,31,0,1,81⟩) (by dsimp only; omega),Option.bind_some,Bool.not_true,cond_false]
 refine aX e ?_
 show Tri (some false) _
 refine af ⟨fun h=>(nomatch h),?_⟩;rintro (q | q | q)
 ·exact absurd q.1 k1
 ·exact absurd q.1 k2
 ·have:=q.lo; have:=q.hi; omega
end
end Go.Proofs.YtfpeabnehpclnaaGreatT
namespace Go.Proofs.YtfpeabnehpclnaaGreatT
open Go Go.Proofs Go.Proofs.YtfpeabnehpclnaaGreatE
set_option linter.unusedVariables false
set_option linter.unusedSimpArgs false
section
variable {h:History}
def Iy (k:Int):Sot:=if k=4 then .single else if k=5 then .spaced else .plain
noncomputable def QN (g:bL) (k:Int):Option (List Edge×Int):=if k=3 then ji g 13 else if k=4 then bY g 5 16 else if k=5 then cO g 13 16 else if k=6 then ji g 29 else ji g 31
noncomputable def DV (g:bL) (k:Int):List Edge:=match QN g k with | some r=>r.1 | none=>[]
theorem five {k:Int} (h3:3≤k) (h7:k≤7):k=3∨k=4∨k=5∨k=6∨k=7:=by omega
theorem tq {g:bL} (hg:Good g) {k:Int} (h3:3≤k) (h7:k≤7):QN g k=some (DV g k,0)∧∃ c,uf g (cOf k).2.1 (cOf k).2.2.1 (Iy k) (DV g k) c:=by
 have fin:∀ {es:List Edge} {c:List Int},QN g k=some (es,0)→uf g (cOf k).2.1 (cOf k).2.2.1 (Iy k) es c→QN g k=some (DV g k,0)∧∃ c,uf g (cOf k).2.1 (cOf k).2.2.1 (Iy k) (DV g k) c:=by
  intro es c e h;have:DV g k=es:=by unfold DV; rw [e]
  rw [this]
  exact ⟨e,c,h⟩
 rcases five h3 h7 with rfl | rfl | rfl | rfl | rfl
 ·obtain ⟨es,c,e,h⟩:=BR hg 13 0;exact fin e h
 ·obtain ⟨es,c,e,h⟩:=KO hg 5 16;exact fin e h
 ·obtain ⟨es,c,e,h⟩:=KM hg 13 16;exact fin e h
 ·obtain ⟨es,c,e,h⟩:=BR hg 29 0;exact fin e h
 ·obtain ⟨es,c,e,h⟩:=BR hg 31 0;exact fin e h
theorem uf.few {g:bL} (hg:Good g) {d r:Int} {s:Sot} {es:List Edge} {c:List Int} (hT:uf g d r s es c):es.length≤64:=by
 have h1:=hg.n1;have:=QM (a:=(List.range c.length).map (at3 c)) (b:=(List.range 64).map fun j:Nat=>(j:Int)) ?_ ?_
 ·rw [List.length_map,List.length_map,List.length_range,List.length_range,← hT.len] at this
  exact this
 ·unfold List.Nodup
  rw [List.pairwise_map]
  refine List.pairwise_lt_range.imp_of_mem fun {a b} ha hb h4 e => ?_;have:=hT.nd a b (List.mem_range.1 ha) (List.mem_range.1 hb) e
  omega
 ·intro v hv;obtain ⟨i,hi,rfl⟩:=List.mem_map.1 hv;have hh:=hT.node hg (List.mem_range.1 hi)
  rw [(hT.ends (List.mem_range.1 hi)).1] at hh
  exact List.mem_map.2 ⟨(at3 c i).toNat,List.mem_range.2 (by omega),by omega⟩
theorem Sy {g:bL} (hg:Good g) {k:Int} (h3:3≤k) (h7:k≤7):(DV g k).length≤64:=by
 obtain ⟨_,c,hT⟩:=tq hg h3 h7;exact hT.few hg
theorem QO {g:bL} (hg:Good g) {k:Int} (h3:3≤k) (h7:k≤7) (hne:0 < (DV g k).length):Bz g (DV g k) (cOf k).2.1 (cOf k).2.2.1 (cOf k).2.2.2:=by
 obtain ⟨_,c,hT⟩:=tq hg h3 h7;refine OV hg ?_ hT ?_ hne
 ·rcases five h3 h7 with rfl | rfl | rfl | rfl | rfl <;> exact ⟨by decide,by decide⟩
 ·rcases five h3 h7 with rfl | rfl | rfl | rfl | rfl <;> rfl
noncomputable def xq (h:History) (k:Int):List bM:=if 0 < (DV (gr h) k).length then [⟨k,(cOf k).1,⟨0,0⟩,DV (gr h) k⟩] else []
noncomputable def inB (h:History):List bM:=if 0 < (nK h h.Txns.length).length then [⟨1,1,idx (nK h h.Txns.length) 0,[]⟩] else []
noncomputable def gaB (h:History):List bM:=if 0 < (Iw h).length then [⟨2,1,⟨(idx (Iw h) 0).Txn,(idx (Iw h) 0).Place⟩,[]⟩] else []
noncomputable def cyL (h:History):List bM:=xq h 3++(xq h 4++(xq h 5++(xq h 6++xq h 7)))
noncomputable def ug (h:History):List bM:=inB h++(gaB h++cyL h)
theorem Sz:(inB h).length≤1:=by unfold inB; split <;> simp
theorem SA:(gaB h).length≤1:=by unfold gaB; split <;> simp
theorem tu {k:Int}:(xq h k).length≤1:=by unfold xq; split <;> simp
theorem KX {l:List bM} {s:eX} {k:Int} (hl:l.length≤100) (hk:IJ s.find (gr h) s.d s.r=some (DV (gr h) k,0)) (h1:s.kind=k) (h2:s.level=(cOf k).1) :
  ig (gr h,0) (.inl l) s=some (true,.inl (l++xq h k)):=by
 refine eU.1 ?_;unfold ig uK
 dsimp only
 refine aX hk ?_;unfold xq;refine az (fun q => ?_) (fun q=>af ?_)
 ·refine ah (by omega) (af ?_)
  rw [if_pos (by dsimp only at q; omega),h1,h2]
 ·rw [if_neg (by dsimp only at q; omega),List.append_nil]
theorem KY (g:bL) (d r:Int):IJ 54 g d r=bY g d r:=rfl
theorem KZ (g:bL) (d r:Int):IJ 55 g d r=cO g d r:=rfl
theorem BU (g:bL) (d r:Int):IJ 81 g d r=ji g d:=by
 show uO g d r=_
 unfold uO;cases ji g d <;> rfl
theorem QP (hg:Good (gr h)) {l:List bM} (hl:l.length≤10):iE (ig (gr h,0)) (.inl l)=some (.inl (l++cyL h)):=by
 have e3:=(tq hg (k:=3) (by decide) (by decide)).1;have e4:=(tq hg (k:=4) (by decide) (by decide)).1;have e5:=(tq hg (k:=5) (by decide) (by decide)).1;have e6:=(tq hg (k:=6) (by decide) (by decide)).1;have e7:=(tq hg (k:=7) (by decide) (by decide)).1;have n3:=tu (h:=h) (k:=3);have n4:=tu (h:=h) (k:=4);have n5:=tu (h:=h) (k:=5);have n6:=tu (h:=h) (k:=6);have i3:∀ l:List bM,l.length≤100→ig (gr h,0) (.inl l) ⟨3,1,13,0,1,81⟩=some (true,.inl (l++xq h 3)):=fun l hl=>KX hl ((BU _ _ _).trans e3) rfl rfl;have i4:∀ l:List bM,l.length≤100→ig (gr h,0) (.inl l) ⟨4,4,5,16,2,54⟩=some (true,.inl (l++xq h 4)):=fun l hl=>KX hl ((KY _ _ _).trans e4) rfl rfl;have i5:∀ l:List bM,l.length≤100→ig (gr h,0) (.inl l) ⟨5,6,13,16,3,55⟩=some (true,.inl (l++xq h 5)):=fun l hl=>KX hl ((KZ _ _ _).trans e5) rfl rfl;have i6:∀ l:List bM,l.length≤100→ig (gr h,0) (.inl l) ⟨6,7,29,0,1,81⟩=some (true,.inl (l++xq h 6)):=fun l hl=>KX hl ((BU _ _ _).trans e6) rfl rfl;have i7:∀ l:List bM,l.length≤100→ig (gr h,0) (.inl l) ⟨7,8,31,0,1,81⟩=some (true,.inl (l++xq h 7)):=fun l hl=>KX hl ((BU _ _ _).trans e7) rfl rfl;unfold iE
 rw [i3 _ (by omega),Option.bind_some]
 simp only [Bool.not_true,cond_false]
 rw [i4 _ (by rw [List.length_append]; omega),Option.bind_some]
 simp only [Bool.not_true,cond_false]
 rw [i5 _ (by simp only [List.length_append]; omega),Option.bind_some]
 simp only [Bool.not_true,cond_false]
 rw [i6 _ (by simp only [List.length_append]; omega),Option.bind_some]
 simp only [Bool.not_true,cond_false]
 rw [i7 _ (by simp only [List.length_append]; omega),Option.bind_some]
 simp only [Bool.not_true,cond_false]
 unfold cyL
 simp only [List.append_assoc]
theorem NM (hs:pG h) (hS:eF h) (hc:aC h=some 0) {l:List bM} (hl:l.length≤10):qC h l=some (l++cyL h,0):=by
 refine eU.1 ?_;unfold qC;refine aX (BO hs hS hc) ?_;refine az (fun h=>absurd rfl h) (fun _ => ?_);refine aX (QP (BP hS hc) hl) ?_;exact af rfl
theorem NN (hs:pG h) (hS:eF h) (hc:aC h=some 0) {l:List bM} (hl:l.length≤1):qD h l=some (l++(gaB h++cyL h),0):=by
 refine eU.1 ?_;unfold qD;refine aX (Gg hs hS hc) ?_;unfold gaB;refine az (fun q => ?_) (fun q => ?_)
 ·dsimp only at q
  refine ah (by dsimp only; omega) (ah (by omega) ?_)
  rw [if_pos (by omega)]
  refine Fa (NM hs hS hc (by rw [List.length_append]; simp; omega)) ?_
  rw [List.append_assoc]
 ·dsimp only at q
  rw [if_neg (by omega),List.nil_append]
  exact Fa (NM hs hS hc (by omega)) rfl
theorem OZ (hs:pG h) (hS:eF h) (hc:aC h=some 0):bX h=some (ug h,0):=by
 refine eU.1 ?_;unfold bX;refine aX (KU hs hS hc) ?_;refine az (fun h=>absurd rfl h) (fun _ => ?_);unfold ug inB;refine az (fun q => ?_) (fun q => ?_)
 ·dsimp only at q
  refine ah (by dsimp only; omega) (ah (by omega) ?_)
  rw [if_pos (by omega)]
  exact Fa (NN hs hS hc (by simp)) rfl
 ·dsimp only at q
  rw [if_neg (by omega)]
  exact Fa (NN hs hS hc (by simp)) rfl
theorem QQ (hc:aC h=some 1):bX h=some ([],1):=by
 unfold bX uj kW
 rw [hc]
 rfl
theorem Pb (hS:eF h) (hc:aC h=some 0) {b:bM} (hb:b ∈ ug h):KT h b∧b.Cycle.length≤64:=by
 have hg:=BP hS hc;have cy:∀ k:Int,3≤k→k≤7→b ∈ xq h k→KT h b∧b.Cycle.length≤64:=by
  intro k h3 h7 hb;unfold xq at hb
  split at hb
  ·rename_i q
   rw [List.mem_singleton] at hb
   subst hb;exact ⟨.inr (.inr ⟨h3,h7,rfl,rfl,QO hg h3 h7 q⟩),Sy hg h3 h7⟩
  ·cases hb
 unfold ug cyL at hb
 simp only [List.mem_append] at hb
 rcases hb with hb | hb | hb | hb | hb | hb | hb
 ·unfold inB at hb
  split at hb
  ·rename_i q
   rw [List.mem_singleton] at hb
   subst hb;exact ⟨.inl ⟨rfl,rfl,rfl,KV q⟩,Nat.zero_le _⟩
  ·cases hb
 ·unfold gaB at hb
  split at hb
  ·rename_i q
   rw [List.mem_singleton] at hb
   subst hb;exact ⟨.inr (.inl ⟨rfl,rfl,rfl,_,uX q,rfl,rfl⟩),Nat.zero_le _⟩
  ·cases hb
 ·exact cy 3 (by decide) (by decide) hb
 ·exact cy 4 (by decide) (by decide) hb
 ·exact cy 5 (by decide) (by decide) hb
 ·exact cy 6 (by decide) (by decide) hb
 ·exact cy 7 (by decide) (by decide) hb
end
end Go.Proofs.YtfpeabnehpclnaaGreatT
namespace Go.Proofs.YtfpeabnehpclnaaGreatT
open Go Go.Proofs Go.Proofs.YtfpeabnehpclnaaGreatE
set_option linter.unusedVariables false
set_option linter.unusedSimpArgs false
set_option maxRecDepth 4096
section
variable {h:History}
theorem QR (g:bL) {k:Int} (h3:3≤k) (h7:k≤7):mJ g k=QN g k:=by
 have e:∀ o:Option (List Edge×Int),(o.bind fun y=>some (y.1,y.2))=o:=fun o=>by cases o <;> rfl
 unfold mJ
 simp only [e]
 rcases five h3 h7 with rfl | rfl | rfl | rfl | rfl <;> rfl
theorem MB {g:bL} (hg:Good g) {L:List bM} {i:Nat} (hi:i < L.length) (hL:L.length≤7) {es:List Edge} (he:(idx L (i:Int)).Cycle=es)
  (hT:es=[]∨∃ (k:Int) (c:List Int),(idx L (i:Int)).Kind=k∧3≤k∧k≤7∧uf g (cOf k).2.1 (cOf k).2.2.1 (Iy k) es c) :
  Tri (iter (gU (L,0) (g,0) (i:Int)) 0) (fun r=>r = .inl ((i + 1:Nat):Int)):=by
 have hwi:w64 ((i:Int) + 1)=((i + 1:Nat):Int):=bf (by omega);rcases hT with rfl | ⟨k,c,a2,h3,h7,hT⟩
 ·refine Gl 0 (fun _=>True) trivial ?_;rintro x hx _;unfold gU
  dsimp only
  rw [he]
  refine dV (fun ex => ?_) (fun _ => ?_)
  ·have ex:(x:Int) < 0:=by simpa using ex
   omega
  ·rw [hwi]
   exact av (af rfl)
 have h0:=hg.n0;have h1:=hg.n1;have hm:=hg.m;have hlen:=hT.few hg;refine Gl es.length (fun _=>True) trivial ?_;rintro x hx _;unfold gU
 dsimp only
 rw [he]
 refine dV (fun ex => ?_) (fun _=>by rw [hwi]; exact av (af rfl))
 have ex:x < es.length:=by simpa using ex
 refine ah (by omega) ?_;refine qg es.length (fun i l=>l.length=g.N.toNat∧∀ v:Int,0≤v→v < g.N→(idx l v=true↔∃ j:Nat,j < i∧j≠x∧(idx es (j:Int)).From=v)) ⟨by simp,fun v h2 h3 => ?_⟩ ?_
 ·rw [show v=(v.toNat:Int) by omega,NQ]
  exact ⟨fun h=>(nomatch h),fun ⟨j,hj,_⟩=>absurd hj (Nat.not_lt_zero _)⟩
 rintro y l a3 ⟨hll,hk⟩;unfold kR
 dsimp only
 rw [he]
 refine dV (fun ei => ?_) (fun ei => ?_)
 ·have ei:y < es.length:=by simpa using ei
  have hn:=hT.node hg (by rw [← hT.len]; exact ei);refine ah (by omega) ?_
  rw [show decide ((idx es (y:Int)).From < 0)=false by simp; omega,cond_false,show decide ((idx es (y:Int)).From ≥ g.N)=false by simp; omega]
  unfold iX
  rw [cond_false]
  dsimp only
  rw [he]
  refine ah (by omega) (ah (by omega) (af ?_))
  rw [bq (by omega) (by omega)]
  refine ⟨by omega,ei,by rw [List.length_set]; exact hll,fun v h2 h3 => ?_⟩
  rw [yC hn.1 (by omega) h2]
  have hdis:∀ j:Nat,j < y→(idx es (j:Int)).From≠(idx es (y:Int)).From:=by
   intro j hj e2
   rw [(hT.ends (by rw [← hT.len]; omega)).1,(hT.ends (by rw [← hT.len]; omega)).1] at e2
   have:=hT.nd j y (by rw [← hT.len]; omega) (by rw [← hT.len]; omega) e2
   omega
  split
  ·rename_i hv
   rw [bne_iff_ne]
   constructor
   ·intro h4;exact ⟨y,by omega,fun h5=>h4 (by rw [h5]),hv.symm⟩
   ·rintro ⟨j,h4,h5,h6⟩ h7
    by_cases h8:j=y
    ·subst h8; exact h5 (by omega)
    ·exact hdis j (by omega) (by rw [h6,hv])
  ·rename_i hv
   rw [hk v h2 h3]
   constructor
   ·rintro ⟨j,h4,h5⟩; exact ⟨j,by omega,h5⟩
   ·rintro ⟨j,h4,h5,h6⟩;refine ⟨j,?_,h5,h6⟩;have:j≠y:=fun h=>hv (by rw [← h6,h])
    omega
 ·have ei:¬ y < es.length:=by simpa using ei
  obtain rfl:y=es.length:=by omega
  refine qg g.Edges.length (fun k l'=>l'.length≤k∧∀ e ∈ l',e ∈ g.Edges∧∃ j:Nat,j < es.length∧j≠x∧(idx es (j:Int)).From=e.From) ⟨Nat.le_refl _,by simp⟩ ?_
  rintro z l' hkk ⟨hl',hmem⟩;unfold kQ
  dsimp only
  refine dV (fun ek => ?_) (fun ek => ?_)
  ·have ek:z < g.Edges.length:=by simpa using ek
   have hee:=hg.e z ek;unfold yg at hee;have hw:w64 ((z:Int) + 1)=z + 1:=bq (by omega) (by omega);have skip:Tri (fK (g,0) l' (z:Int) false) (Up2 g.Edges.length z (fun k l'=>l'.length≤k∧∀ e ∈ l',e ∈ g.Edges∧∃ j:Nat,j < es.length∧j≠x∧(idx es (j:Int)).From=e.From) (Up2 es.length es.length (fun i l=>l.length=g.N.toNat∧∀ v:Int,0≤v→v < g.N→(idx l v=true↔∃ j:Nat,j < i∧j≠x∧(idx es (j:Int)).From=v)) (Up es.length x (fun _=>True) (fun r:Int ⊕ Bool=>r = .inl ((i + 1:Nat):Int))))):=by
    unfold fK gT
    rw [cond_false,hw]
    exact af ⟨by omega,ek,by omega,hmem⟩
   refine ah (by omega) (ah (by omega) (dV (fun hq => ?_) (fun _=>skip)));refine ah (by omega) ?_;cases hb:idx l (idx g.Edges (z:Int)).To with
   | false=>exact skip
   | true =>
    unfold fK gT
    dsimp only
    rw [cond_true,hw]
    refine ah (by omega) (ah (by omega) (af ⟨by omega,ek,by simp; omega,fun e a1 => ?_⟩));rcases List.mem_append.1 a1 with a1 | a1
    ·exact hmem e a1
    ·simp only [List.mem_singleton] at a1
     subst a1;exact ⟨yE.1 ⟨z,ek,rfl⟩,(hk _ hee.1 hee.2.1).1 hq⟩
  ·have hgs:Good ⟨g.N,l'⟩:=KS.2 ⟨h0,h1,by dsimp only; omega,fun e he=>(KS.1 hg).2.2.2 e (hmem e he).1⟩
   obtain ⟨e',c',hT'⟩:=tq hgs h3 h7
   rw [a2,QR _ h3 h7,e']
   refine bU ?_
   simp only [bne_self_eq_false,cond_false]
   have hz:=OU hg hT ex (sub:=⟨g.N,l'⟩) rfl hmem hT';unfold iN
   rw [show (((DV ⟨g.N,l'⟩ k).length:Int) != 0)=false by simp [hz],cond_false]
   refine av (av (af ?_))
   rw [bq (by omega) (by omega)]
   exact ⟨by omega,ex,trivial⟩
theorem SB:(ug h).Pairwise (fun a b=>a.Kind < b.Kind):=by
 have cy:∀ {k:Int} {b:bM},b ∈ xq h k→b.Kind=k:=by
  intro k b hb;unfold xq at hb
  split at hb
  ·rw [List.mem_singleton] at hb; rw [hb]
  ·cases hb
 have one:∀ {k:Int},(xq h k).Pairwise (fun a b=>a.Kind < b.Kind):=by
  intro k;unfold xq
  split
  ·exact List.pairwise_singleton _ _
  ·exact List.Pairwise.nil
 have i1:∀ {b:bM},b ∈ inB h→b.Kind=1:=by
  intro b hb;unfold inB at hb
  split at hb
  ·rw [List.mem_singleton] at hb; rw [hb]
  ·cases hb
 have g1:∀ {b:bM},b ∈ gaB h→b.Kind=2:=by
  intro b hb;unfold gaB at hb
  split at hb
  ·rw [List.mem_singleton] at hb; rw [hb]
  ·cases hb
 unfold ug cyL
 simp only [List.pairwise_append,List.mem_append]
 refine ⟨?_,⟨?_,⟨one,⟨one,⟨one,⟨one,one,?_⟩,?_⟩,?_⟩,?_⟩,?_⟩,?_⟩
 ·unfold inB
  split
  ·exact List.pairwise_singleton _ _
  ·exact List.Pairwise.nil
 ·unfold gaB
  split
  ·exact List.pairwise_singleton _ _
  ·exact List.Pairwise.nil
 ·intro a ha b hb;have:=cy ha; have:=cy hb; omega
 ·intro a ha b hb;have:=cy ha;rcases hb with hb | hb <;> (have:=cy hb; omega)
 ·intro a ha b hb;have:=cy ha;rcases hb with hb | hb | hb <;> (have:=cy hb; omega)
 ·intro a ha b hb;have:=cy ha;rcases hb with hb | hb | hb | hb <;> (have:=cy hb; omega)
 ·intro a ha b hb;have:=g1 ha;rcases hb with hb | hb | hb | hb | hb <;> (have:=cy hb; omega)
 ·intro a ha b hb;have:=i1 ha;rcases hb with hb | hb | hb | hb | hb | hb <;> first | (have:=g1 hb; omega) | (have:=cy hb; omega)
theorem QS (hg:Good (gr h)) {b:bM} (hb:b ∈ ug h):b.Cycle=[]∨∃ (k:Int) (c:List Int),b.Kind=k∧3≤k∧k≤7∧uf (gr h) (cOf k).2.1 (cOf k).2.2.1 (Iy k) b.Cycle c:=by
 have cy:∀ k:Int,3≤k→k≤7→b ∈ xq h k→b.Cycle=[]∨∃ (k:Int) (c:List Int),b.Kind=k∧3≤k∧k≤7∧uf (gr h) (cOf k).2.1 (cOf k).2.2.1 (Iy k) b.Cycle c:=by
  intro k h3 h7 hb;unfold xq at hb
  split at hb
  ·rw [List.mem_singleton] at hb
   subst hb;obtain ⟨_,c,hT⟩:=tq hg h3 h7;exact .inr ⟨k,c,rfl,h3,h7,hT⟩
  ·cases hb
 unfold ug cyL at hb
 simp only [List.mem_append] at hb
 rcases hb with hb | hb | hb | hb | hb | hb | hb
 ·unfold inB at hb
  split at hb
  ·rw [List.mem_singleton] at hb; exact .inl (by rw [hb])
  ·cases hb
 ·unfold gaB at hb
  split at hb
  ·rw [List.mem_singleton] at hb; exact .inl (by rw [hb])
  ·cases hb
 ·exact cy 3 (by decide) (by decide) hb
 ·exact cy 4 (by decide) (by decide) hb
 ·exact cy 5 (by decide) (by decide) hb
 ·exact cy 6 (by decide) (by decide) hb
 ·exact cy 7 (by decide) (by decide) hb
theorem Pd:(ug h).length≤7:=by
 have a1:=Sz (h:=h);have a2:=SA (h:=h);have a3:=tu (h:=h) (k:=3);have a4:=tu (h:=h) (k:=4);have a5:=tu (h:=h) (k:=5);have a6:=tu (h:=h) (k:=6);have a7:=tu (h:=h) (k:=7);unfold ug cyL
 simp only [List.length_append]
 omega
theorem Gi (h:History) {K:ByteArray→Prop} (g:HG K h):aj h=some true:=by
 have hs:=g.small;obtain ⟨v,hv,hv',a2,hiff⟩:=Ma hs;refine eU.1 ?_;unfold aj
 rw [yP]
 refine bU ?_
 rw [Bool.not_true,cond_false]
 rcases a2 with rfl | rfl
 rotate_left
 ·refine aX (QQ hv) (aX (OL hv) ?_);exact az (fun _=>af rfl) (fun h=>absurd (show (1:Int)≠0 by decide) h)
 have hS:=hiff.1 rfl;have hg:=BP hS hv;refine aX (OZ hs hS hv) (aX (BO hs hS hv) ?_);refine az (fun h=>absurd rfl h) (fun _ => ?_)
 rw [bne_self_eq_false]
 unfold iY
 rw [cond_false]
 have hl:=Pd (h:=h);refine dI (k0:=0) (ug h).length (fun k s=>s=(k:Int)) (Nat.zero_le _) rfl ?_;rintro k s hk rfl;unfold kS
 dsimp only
 refine az (fun h1 => ?_) (fun h1=>av (af rfl));have a1:k < (ug h).length:=by omega
 have hm:idx (ug h) (k:Int) ∈ ug h:=by rw [dA (n:=k) rfl a1]; exact List.getElem_mem _
 refine ah (by omega) ?_;have fit:fC h (idx (ug h) (k:Int))=some true:=by
  obtain ⟨f1,f2⟩:=Pb hS hv hm;obtain ⟨r,e,hr⟩:=OY hs hS hv (b:=idx (ug h) (k:Int)) (by omega)
  rw [e,hr.2 f1]
 refine aX fit ?_
 rw [Bool.not_true,cond_false]
 have fin:∀ b:Bool,b=false→Tri (fM (ug h,0) (gr h,0) (k:Int) b) (Upm (ug h).length k (fun k s=>s=(k:Int)) (fun b:Bool=>b=true)):=by
  rintro b rfl;unfold fM
  rw [cond_false]
  refine ah (by dsimp only; omega) ?_;obtain ⟨r,e,rfl⟩:=MB hg a1 hl rfl (QS hg hm)
  rw [e]
  exact af ⟨a1,rfl⟩
 refine az (fun h2 => ?_) (fun _=>fin _ rfl);have hw:w64 ((k:Int) - 1)=((k - 1:Nat):Int):=by rw [bq (by omega) (by omega)]; omega
 rw [hw]
 refine ah (by omega) (fin _ ?_);have hp:=List.pairwise_iff_getElem.1 (SB (h:=h)) (k - 1) k (by omega) a1 (by omega)
 rw [decide_eq_false_iff_not,dA (n:=k) rfl a1,dA (n:=k - 1) rfl (by omega)]
 omega
end
end Go.Proofs.YtfpeabnehpclnaaGreatT
