import Derived.Test.YtfpeabnehpclnaaGreatTPBA
import Derived.Test.YtfpeabnehpclnaaGreatTPDG
import Derived.Test.YtfpeabnehpclnaaGreatTD
import Derived.Test.YtfpeabnehpclnaaGreatXA
import Derived.Test.YtfpeabnehpclnaaGreatTF
namespace Go.Proofs.YtfpeabnehpclnaaGreatT
open Go Go.Proofs Go.Proofs.YtfpeabnehpclnaaGreatE
set_option linter.unusedVariables false
set_option linter.unusedSimpArgs false
section
variable {h:History}
def Rk (k:Int):Sot:=if k=4 then .single else if k=5 then .spaced else .plain
noncomputable def Te (g:di) (k:Int):Option (List Edge×Int):=if k=3 then lX g 13 else if k=4 then dh g 5 16 else if k=5 then dm g 13 16 else if k=6 then lX g 29 else lX g 31
noncomputable def Fe (g:di) (k:Int):List Edge:=match Te g k with | some r=>r.1 | none=>[]
theorem five {k:Int} (h3:3≤k) (h7:k≤7):k=3∨k=4∨k=5∨k=6∨k=7:=by omega
theorem wY {g:di} (hg:Good g) {k:Int} (h3:3≤k) (h7:k≤7):Te g k=some (Fe g k,0)∧∃ c,yF g (cOf k).2.1 (cOf k).2.2.1 (Rk k) (Fe g k) c:=by
 have fin:∀ {es:List Edge} {c:List Int},Te g k=some (es,0)→yF g (cOf k).2.1 (cOf k).2.2.1 (Rk k) es c→Te g k=some (Fe g k,0)∧∃ c,yF g (cOf k).2.1 (cOf k).2.2.1 (Rk k) (Fe g k) c:=by
  intro es c e h;have:Fe g k=es:=by unfold Fe; rw [e]
  rw [this]
  exact ⟨e,c,h⟩
 rcases five h3 h7 with rfl | rfl | rfl | rfl | rfl
 ·obtain ⟨es,c,e,h⟩:=Ci hg 13 0;exact fin e h
 ·obtain ⟨es,c,e,h⟩:=Lc hg 5 16;exact fin e h
 ·obtain ⟨es,c,e,h⟩:=La hg 13 16;exact fin e h
 ·obtain ⟨es,c,e,h⟩:=Ci hg 29 0;exact fin e h
 ·obtain ⟨es,c,e,h⟩:=Ci hg 31 0;exact fin e h
theorem yF.few {g:di} (hg:Good g) {d r:Int} {s:Sot} {es:List Edge} {c:List Int} (hT:yF g d r s es c):es.length≤64:=by
 have h1:=hg.n1;have:=TT (a:=(List.range c.length).map (at3 c)) (b:=(List.range 64).map fun j:Nat=>(j:Int)) ?_ ?_
 ·rw [List.length_map,List.length_map,List.length_range,List.length_range,← hT.len] at this
  exact this
 ·unfold List.Nodup
  rw [List.pairwise_map]
  refine List.pairwise_lt_range.imp_of_mem fun {a b} ha hb h4 e => ?_;have:=hT.nd a b (List.mem_range.1 ha) (List.mem_range.1 hb) e
  omega
 ·intro v hv;obtain ⟨i,hi,rfl⟩:=List.mem_map.1 hv;have hh:=hT.node hg (List.mem_range.1 hi)
  rw [(hT.ends (List.mem_range.1 hi)).1] at hh
  exact List.mem_map.2 ⟨(at3 c i).toNat,List.mem_range.2 (by omega),by omega⟩
theorem Tf {g:di} (hg:Good g) {k:Int} (h3:3≤k) (h7:k≤7):(Fe g k).length≤64:=by
 obtain ⟨_,c,hT⟩:=wY hg h3 h7;exact hT.few hg
theorem Rl {g:di} (hg:Good g) {k:Int} (h3:3≤k) (h7:k≤7) (hne:0 < (Fe g k).length):BP g (Fe g k) (cOf k).2.1 (cOf k).2.2.1 (cOf k).2.2.2:=by
 obtain ⟨_,c,hT⟩:=wY hg h3 h7;refine Pq hg ?_ hT ?_ hne
 ·rcases five h3 h7 with rfl | rfl | rfl | rfl | rfl <;> exact ⟨by decide,by decide⟩
 ·rcases five h3 h7 with rfl | rfl | rfl | rfl | rfl <;> rfl
noncomputable def BD (h:History) (k:Int):List bQ:=if 0 < (Fe (gr h) k).length then [⟨k,(cOf k).1,⟨0,0⟩,Fe (gr h) k⟩] else []
noncomputable def inB (h:History):List bQ:=if 0 < (nP h h.Txns.length).length then [⟨1,1,idx (nP h h.Txns.length) 0,[]⟩] else []
noncomputable def gaB (h:History):List bQ:=if 0 < (IM h).length then [⟨2,1,⟨(idx (IM h) 0).Txn,(idx (IM h) 0).Place⟩,[]⟩] else []
noncomputable def cyL (h:History):List bQ:=BD h 3++(BD h 4++(BD h 5++(BD h 6++BD h 7)))
noncomputable def zI (h:History):List bQ:=inB h++(gaB h++cyL h)
theorem Tg:(inB h).length≤1:=by unfold inB; split <;> simp
theorem Ti:(gaB h).length≤1:=by unfold gaB; split <;> simp
theorem tC {k:Int}:(BD h k).length≤1:=by unfold BD; split <;> simp
theorem Li {l:List bQ} {s:fC} {k:Int} (hl:l.length≤100) (hk:Jc s.find (gr h) s.d s.r=some (Fe (gr h) k,0)) (h1:s.kind=k) (h2:s.level=(cOf k).1) :
  iA (gr h,0) (.inl l) s=some (true,.inl (l++BD h k)):=by
 refine fw.1 ?_;unfold iA uL
 dsimp only
 refine aV hk ?_;unfold BD;refine aA (fun q => ?_) (fun q=>ah ?_)
 ·refine ak (by omega) (ah ?_)
  rw [if_pos (by dsimp only at q; omega),h1,h2]
 ·rw [if_neg (by dsimp only at q; omega),List.append_nil]
theorem Lj (g:di) (d r:Int):Jc 54 g d r=dh g d r:=rfl
theorem Ll (g:di) (d r:Int):Jc 55 g d r=dm g d r:=rfl
theorem Cj (g:di) (d r:Int):Jc 81 g d r=lX g d:=by
 show uQ g d r=_
 unfold uQ;cases lX g d <;> rfl
theorem Rm (hg:Good (gr h)) {l:List bQ} (hl:l.length≤10):iI (iA (gr h,0)) (.inl l)=some (.inl (l++cyL h)):=by
 have e3:=(wY hg (k:=3) (by decide) (by decide)).1;have e4:=(wY hg (k:=4) (by decide) (by decide)).1;have e5:=(wY hg (k:=5) (by decide) (by decide)).1;have e6:=(wY hg (k:=6) (by decide) (by decide)).1;have e7:=(wY hg (k:=7) (by decide) (by decide)).1;have n3:=tC (h:=h) (k:=3);have n4:=tC (h:=h) (k:=4);have n5:=tC (h:=h) (k:=5);have n6:=tC (h:=h) (k:=6);have i3:∀ l:List bQ,l.length≤100→iA (gr h,0) (.inl l) ⟨3,1,13,0,1,81⟩=some (true,.inl (l++BD h 3)):=fun l hl=>Li hl ((Cj _ _ _).trans e3) rfl rfl;have i4:∀ l:List bQ,l.length≤100→iA (gr h,0) (.inl l) ⟨4,4,5,16,2,54⟩=some (true,.inl (l++BD h 4)):=fun l hl=>Li hl ((Lj _ _ _).trans e4) rfl rfl;have i5:∀ l:List bQ,l.length≤100→iA (gr h,0) (.inl l) ⟨5,6,13,16,3,55⟩=some (true,.inl (l++BD h 5)):=fun l hl=>Li hl ((Ll _ _ _).trans e5) rfl rfl;have i6:∀ l:List bQ,l.length≤100→iA (gr h,0) (.inl l) ⟨6,7,29,0,1,81⟩=some (true,.inl (l++BD h 6)):=fun l hl=>Li hl ((Cj _ _ _).trans e6) rfl rfl;have i7:∀ l:List bQ,l.length≤100→iA (gr h,0) (.inl l) ⟨7,8,31,0,1,81⟩=some (true,.inl (l++BD h 7)):=fun l hl=>Li hl ((Cj _ _ _).trans e7) rfl rfl;unfold iI
 rw [i3 _ (by omega),Option.bind_some]
 simp only [Bool.not_true,cond_false]
 rw [i4 _ (by rw [List.length_append]; omega),Option.bind_some]
 simp only [Bool.not_true,cond_false]
 rw [i5 _ (by simp only [List.length_append]; omega),Option.bind_some]
 simp only [Bool.not_true,cond_false]
 rw [i6 _ (by simp only [List.length_append]; omega),Option.bind_some]
 simp only [Bool.not_true,cond_false]
 rw [i7 _ (by simp only [List.length_append]; omega),Option.bind_some]
 simp only [Bool.not_true,cond_false]
 unfold cyL
 simp only [List.append_assoc]
theorem Oc (hs:oq h) (hS:eU h) (hc:aF h=some 0) {l:List bQ} (hl:l.length≤10):qI h l=some (l++cyL h,0):=by
 refine fw.1 ?_;unfold qI;refine aV (Gp hs hS hc) ?_;refine aA (fun h=>absurd rfl h) (fun _ => ?_);refine aV (Rm (Gq hS hc) hl) ?_;exact ah rfl
theorem Od (hs:oq h) (hS:eU h) (hc:aF h=some 0) {l:List bQ} (hl:l.length≤1):qJ h l=some (l++(gaB h++cyL h),0):=by
 refine fw.1 ?_;unfold qJ;refine aV (GD hs hS hc) ?_;unfold gaB;refine aA (fun q => ?_) (fun q => ?_)
 ·dsimp only at q
  refine ak (by dsimp only; omega) (ak (by omega) ?_)
  rw [if_pos (by omega)]
  refine FC (Oc hs hS hc (by rw [List.length_append]; simp; omega)) ?_
  rw [List.append_assoc]
 ·dsimp only at q
  rw [if_neg (by omega),List.nil_append]
  exact FC (Oc hs hS hc (by omega)) rfl
theorem Pw (hs:oq h) (hS:eU h) (hc:aF h=some 0):bW h=some (zI h,0):=by
 refine fw.1 ?_;unfold bW;refine aV (Lf hs hS hc) ?_;refine aA (fun h=>absurd rfl h) (fun _ => ?_);unfold zI inB;refine aA (fun q => ?_) (fun q => ?_)
 ·dsimp only at q
  refine ak (by dsimp only; omega) (ak (by omega) ?_)
  rw [if_pos (by omega)]
  exact FC (Od hs hS hc (by simp)) rfl
 ·dsimp only at q
  rw [if_neg (by omega)]
  exact FC (Od hs hS hc (by simp)) rfl
theorem Rn (hc:aF h=some 1):bW h=some ([],1):=by
 unfold bW ul mJ
 rw [hc]
 rfl
theorem Px (hS:eU h) (hc:aF h=some 0) {b:bQ} (hb:b ∈ zI h):Ld h b∧b.Cycle.length≤64:=by
 have hg:=Gq hS hc;have cy:∀ k:Int,3≤k→k≤7→b ∈ BD h k→Ld h b∧b.Cycle.length≤64:=by
  intro k h3 h7 hb;unfold BD at hb
  split at hb
  ·rename_i q
   rw [List.mem_singleton] at hb
   subst hb;exact ⟨.inr (.inr ⟨h3,h7,rfl,rfl,Rl hg h3 h7 q⟩),Tf hg h3 h7⟩
  ·cases hb
 unfold zI cyL at hb
 simp only [List.mem_append] at hb
 rcases hb with hb | hb | hb | hb | hb | hb | hb
 ·unfold inB at hb
  split at hb
  ·rename_i q
   rw [List.mem_singleton] at hb
   subst hb;exact ⟨.inl ⟨rfl,rfl,rfl,Lg q⟩,Nat.zero_le _⟩
  ·cases hb
 ·unfold gaB at hb
  split at hb
  ·rename_i q
   rw [List.mem_singleton] at hb
   subst hb;exact ⟨.inr (.inl ⟨rfl,rfl,rfl,_,ve q,rfl,rfl⟩),Nat.zero_le _⟩
  ·cases hb
 ·exact cy 3 (by decide) (by decide) hb
 ·exact cy 4 (by decide) (by decide) hb
 ·exact cy 5 (by decide) (by decide) hb
 ·exact cy 6 (by decide) (by decide) hb
 ·exact cy 7 (by decide) (by decide) hb
end
end Go.Proofs.YtfpeabnehpclnaaGreatT
namespace Go.Proofs.YtfpeabnehpclnaaGreatT
open Go Go.Proofs Go.Proofs.YtfpeabnehpclnaaGreatE
set_option linter.unusedVariables false
set_option linter.unusedSimpArgs false
set_option maxRecDepth 100000
def bel (a b:Int):Bool:=decide (1≤a) && decide (a≤8) && decide (1≤b) && decide (b≤8) && (([0,510,452,504,496,480,448,384,256]:List Nat).getD a.toNat 0).testBit b.toNat
theorem Oe {a b:Int} (h:¬ (1≤a∧a≤8) ∨ ¬ (1≤b∧b≤8)):bel a b=false:=by
 unfold bel
 rw [Bool.eq_false_iff]
 intro e
 simp only [Bool.and_eq_true,decide_eq_true_eq] at e
 omega
theorem GH (a:Int):rJ a=some (decide (1≤a) && decide (a≤8)):=by
 unfold rJ
 by_cases h:a ≥ 1
 ·simp [h,show (1:Int)≤a from h]
 ·simp [h,show ¬ (1:Int)≤a from h]
theorem AC (a b:Int):jC a b=some (bel a b):=by
 by_cases ha:1≤a∧a≤8
 ·by_cases hb:1≤b∧b≤8
  ·have key:∀ i j:Fin 9,jC (i.1:Int) (j.1:Int)=some (bel (i.1:Int) (j.1:Int)):=by decide +kernel
   obtain ⟨i,rfl⟩:∃ n:Nat,a=n:=⟨a.toNat,by omega⟩
   obtain ⟨j,rfl⟩:∃ n:Nat,b=n:=⟨b.toNat,by omega⟩
   exact key ⟨i,by omega⟩ ⟨j,by omega⟩
  ·rw [Oe (.inr hb)]
   unfold jC
   rw [GH,GH]
   have:(decide (1≤b) && decide (b≤8))=false:=by
    rw [Bool.eq_false_iff]; intro e; simp only [Bool.and_eq_true,decide_eq_true_eq] at e; exact hb e
   simp [this,ha.1,ha.2]
 ·rw [Oe (.inl ha)]
  unfold jC
  rw [GH]
  have:(decide (1≤a) && decide (a≤8))=false:=by
   rw [Bool.eq_false_iff]; intro e; simp only [Bool.and_eq_true,decide_eq_true_eq] at e; exact ha e
  simp [this]
namespace Fuel0
noncomputable def s2 (rec:Int→Int→Option Bool) (a0:Int) (a1:Int):Int→Option (Int ⊕ Bool)
 | x=>bif decide (x < (fo.length:Int)) then must (0≤x∧x < (fo.length:Int)) (bif ((idx fo x).1 == a0) then (rec ((idx fo x).2) a1).bind fun y=>lM x y else (lM x false)) else (out (some false))
noncomputable def j1 (rec:Int→Int→Option Bool) (a0:Int) (a1:Int) (b9:Bool):Option Bool :=
 bif b9 then some false else (bif (a0 == a1) then some true else ((xA).bind fun _=>vR (s2 rec a0 a1) 12 0))
noncomputable def body (rec:Int→Int→Option Bool) (a0:Int) (a1:Int):Option Bool :=
 bif decide (a0 < 1) then j1 rec a0 a1 true else (bif decide (a0 > 8) then j1 rec a0 a1 true else (bif decide (a1 < 1) then j1 rec a0 a1 true else (j1 rec a0 a1 (decide (a1 > 8)))))
noncomputable def fuel:Nat→Int→Int→Option Bool
 | 0=>fun _ _=>none
 | k + 1=>body (fuel k)
end Fuel0
def nm (i:Int):ByteArray:=([⟨#[]⟩,⟨#[114,101,97,100,45,99,111,109,109,105,116,116,101,100]⟩,⟨#[99,117,114,115,111,114,45,115,116,97,98,108,101]⟩,⟨#[114,101,97,100,45,97,116,111,109,105,99]⟩,⟨#[99,97,117,115,97,108]⟩,⟨#[112,114,101,102,105,120]⟩,⟨#[115,110,97,112,115,104,111,116]⟩,⟨#[115,101,114,105,97,108,105,122,97,98,108,101]⟩,⟨#[115,116,114,105,99,116]⟩]:List ByteArray).getD i.toNat ⟨#[]⟩
def IP (a:Int):ByteArray×Int:=if 1≤a∧a≤8 then (nm a,0) else (⟨#[]⟩,1)
theorem Ro {p:Int→Prop} (h1:p 1) (h2:p 2) (h3:p 3) (h4:p 4) (h5:p 5) (h6:p 6) (h7:p 7) (h8:p 8) {a:Int} (ha:1≤a∧a≤8):p a:=by
 have:a=1∨a=2∨a=3∨a=4∨a=5∨a=6∨a=7∨a=8:=by omega
 rcases this with rfl | rfl | rfl | rfl | rfl | rfl | rfl | rfl <;> assumption
theorem JD (a:Int):iT a=some (IP a):=by
 by_cases ha:1≤a∧a≤8
 ·exact Ro (p:=fun a=>iT a=some (IP a)) rfl rfl rfl rfl rfl rfl rfl rfl ha
 ·have e:∀ i:Int,1≤i→i≤8→(i == a)=false:=fun i h1 h2=>by
   rw [beq_eq_false_iff_ne]; rintro rfl; exact ha ⟨h1,h2⟩
  unfold iT yQ IP
  rw [if_neg ha]
  simp only [uM,e 1 (by decide) (by decide),e 2 (by decide) (by decide),e 3 (by decide) (by decide),e 4 (by decide) (by decide),e 5 (by decide) (by decide),e 6 (by decide) (by decide),e 7 (by decide) (by decide),e 8 (by decide) (by decide),cond_false,cond_true,Bool.not_true,Bool.not_false,Option.bind_some,BJ]
end Go.Proofs.YtfpeabnehpclnaaGreatT
namespace Go.Proofs.YtfpeabnehpclnaaGreatT
open Go Go.Proofs Go.Proofs.YtfpeabnehpclnaaGreatE
set_option linter.unusedVariables false
set_option linter.unusedSimpArgs false
set_option maxRecDepth 100000
theorem Rp {a b:Int} (h:bel a b=true):(1≤a∧a≤8)∧1≤b∧b≤8:=by
 unfold bel at h
 simp only [Bool.and_eq_true,decide_eq_true_eq] at h
 exact ⟨⟨h.1.1.1.1,h.1.1.1.2⟩,h.1.1.2,h.1.2⟩
theorem Py {a b c:Int} (h1:bel a b=true) (h2:bel b c=true):bel a c=true:=by
 have key:∀ i j k:Fin 9,bel (i.1:Int) (j.1:Int)=true→bel (j.1:Int) (k.1:Int)=true→bel (i.1:Int) (k.1:Int)=true:=by decide +kernel
 obtain ⟨ha,hb⟩:=Rp h1;obtain ⟨_,hc⟩:=Rp h2;obtain ⟨i,rfl⟩:∃ n:Nat,a=n:=⟨a.toNat,by omega⟩
 obtain ⟨j,rfl⟩:∃ n:Nat,b=n:=⟨b.toNat,by omega⟩
 obtain ⟨k,rfl⟩:∃ n:Nat,c=n:=⟨c.toNat,by omega⟩
 exact key ⟨i,by omega⟩ ⟨j,by omega⟩ ⟨k,by omega⟩ h1 h2
end Go.Proofs.YtfpeabnehpclnaaGreatT
namespace Go.Proofs.YtfpeabnehpclnaaGreatT
open Go Go.Proofs Go.Proofs.YtfpeabnehpclnaaGreatE
set_option linter.unusedVariables false
set_option linter.unusedSimpArgs false
section
variable {h:History}
theorem Tj {α:Type} [Inhabited α] {p:α→Bool} {l:List α} {k:Nat} (hk:k < l.length) (hp:p (idx l (k:Int))=true) (hno:∀ j:Nat,j < k→p (idx l (j:Int))=false):l.find? p=some (idx l (k:Int)):=by
 rw [dE (n:=k) rfl hk] at hp ⊢
 refine List.find?_eq_some_iff_getElem.2 ⟨hp,k,hk,rfl,fun j hj => ?_⟩;have:=hno j hj
 rw [dE (n:=j) rfl (by omega)] at this
 rw [this]
 rfl
theorem Tk {α:Type} [Inhabited α] {p:α→Bool} {l:List α} (hno:∀ j:Nat,j < l.length→p (idx l (j:Int))=false):l.find? p=none:=by
 refine List.find?_eq_none.2 fun x hx => ?_;obtain ⟨j,hj,e⟩:=List.getElem_of_mem hx;have:=hno j hj
 rw [dE (n:=j) rfl hj,e] at this
 rw [this]
 decide
noncomputable def Lm (h:History) (l:Int):bQ×Bool×Int:=match (zI h).find? (fun b:bQ=>bel b.Level l) with
 | some b=>(b,true,0)
 | none=>(⟨0,0,⟨0,0⟩,[]⟩,false,0)
def Lp:bQ×Bool×Int:=(⟨0,0,⟨0,0⟩,[]⟩,false,1)
theorem Pz:(zI h).length≤7:=by
 have a1:=Tg (h:=h);have a2:=Ti (h:=h);have a3:=tC (h:=h) (k:=3);have a4:=tC (h:=h) (k:=4);have a5:=tC (h:=h) (k:=5);have a6:=tC (h:=h) (k:=6);have a7:=tC (h:=h) (k:=7);unfold zI cyL
 simp only [List.length_append]
 omega
theorem GI (hs:oq h) (hS:eU h) (hc:aF h=some 0) {l:Int} (hl:1≤l∧l≤8):jl h l=some (Lm h l):=by
 refine fw.1 ?_;unfold jl;refine aV (JD l) ?_;unfold IP
 rw [if_pos hl]
 refine aA (fun h=>absurd rfl h) (fun _ => ?_);refine aV (Pw hs hS hc) ?_;refine aA (fun h=>absurd rfl h) (fun _ => ?_);have h7:=Pz (h:=h);unfold Lm;generalize zI h=L at h7;refine dP (k0:=0) L.length (fun k s=>s=(k:Int)∧∀ j:Nat,j < k→bel (idx L (j:Int)).Level l=false) (Nat.zero_le _) ⟨rfl,fun j h=>absurd h (Nat.not_lt_zero _)⟩ ?_;rintro k s hk ⟨rfl,hno⟩;have hw:w64 ((k:Int) + 1)=((k + 1:Nat):Int):=bA (by omega);unfold yR
 dsimp only
 rw [hw]
 refine aA (fun h1 => ?_) (fun h1 => ?_)
 ·have a1:k < L.length:=by omega
  refine ak (by omega) (aV (AC _ _) ?_);refine aA (fun q => ?_) (fun q => ?_)
  ·refine aB (ah ?_)
   rw [Tj (p:=fun b:bQ=>bel b.Level l) a1 q hno]
   show _=_
   rfl
  ·refine ah ⟨a1,rfl,fun j hj => ?_⟩;rcases Nat.lt_or_ge j k with h3 | h3
   ·exact hno j h3
   ·have:j=k:=by omega
    subst this
    simpa using q
 ·have:k=L.length:=by omega
  subst this;refine aB (ah ?_)
  rw [show L.find? (fun b:bQ=>bel b.Level l)=none from Tk (p:=fun b:bQ=>bel b.Level l) hno]
  show _=_
  rfl
theorem Og (hc:aF h=some 1) (l:Int):jl h l=some Lp:=by
 unfold jl
 rw [JD]
 unfold IP
 split
 ·show (bW h).bind _=_
  rw [Rn hc]
  rfl
 ·rfl
theorem JE {l:Int} (hl:¬ (1≤l∧l≤8)):jl h l=some Lp:=by
 unfold jl
 rw [JD]
 unfold IP
 rw [if_neg hl]
 rfl
theorem IQ (h:History) (l:Int):(∃ b,Lm h l=(b,true,0)∧b ∈ zI h∧bel b.Level l=true)∨(Lm h l=(⟨0,0,⟨0,0⟩,[]⟩,false,0)∧∀ b ∈ zI h,bel b.Level l=false):=by
 unfold Lm
 split
 ·rename_i b hb
  exact .inl ⟨b,rfl,List.mem_of_find?_eq_some hb,List.find?_some (p:=fun b:bQ=>bel b.Level l) hb⟩
 ·rename_i hb
  refine .inr ⟨rfl,fun b hm => ?_⟩;have:=List.find?_eq_none.1 hb b hm
  simpa using this
theorem GJ (h:History) (a b:Int) {K:ByteArray→Prop} {p q:Prop} (g:HG K h) (_:p) (_:q):dO h a b=some true:=by
 have hs:=g.small;obtain ⟨v,hv,hv',a3,hiff⟩:=Mq hs;refine fw.1 ?_;unfold dO
 rw [yT]
 refine cK ?_
 rw [Bool.not_true,cond_false]
 have stop:∀ x y,Tri (fB h a b x y true) (fun r=>r=true):=fun x y=>by unfold fB; rw [cond_true]; exact ah rfl
 rcases a3 with rfl | rfl
 rotate_left
 ·refine aV (Og hv a) (aV (Og hv b) ?_);exact aA (fun _=>stop _ _) (fun h=>absurd (show Lp.2.2≠0 by decide) h)
 have hS:=hiff.1 rfl
 by_cases ha:1≤a∧a≤8
 rotate_left
 ·refine aV (JE ha) ?_;obtain ⟨z,e⟩:∃ z,jl h b=some z:=by
   by_cases hb:1≤b∧b≤8
   ·exact ⟨_,GI hs hS hv hb⟩
   ·exact ⟨_,JE hb⟩
  refine aV e ?_;exact aA (fun _=>stop _ _) (fun h=>absurd (show Lp.2.2≠0 by decide) h)
 refine aV (GI hs hS hv ha) ?_;have hca:=IQ h a;have a1:(Lm h a).2.2=0:=by rcases hca with ⟨x,e,_⟩ | ⟨e,_⟩ <;> rw [e]
 by_cases hb:1≤b∧b≤8
 rotate_left
 ·refine aV (JE hb) ?_;refine aA (fun h=>absurd a1 h) (fun _ => ?_);exact aA (fun _=>stop _ _) (fun h=>absurd (show Lp.2.2≠0 by decide) h)
 refine aV (GI hs hS hv hb) ?_;have hcb:=IQ h b;have a2:(Lm h b).2.2=0:=by rcases hcb with ⟨x,e,_⟩ | ⟨e,_⟩ <;> rw [e]
 refine aA (fun h=>absurd a1 h) (fun _ => ?_);refine aA (fun h=>absurd a2 h) (fun _ => ?_);refine aV (AC _ _) ?_;cases hab:bel a b with
 | false=>exact stop _ _
 | true =>
  have fit:∀ x ∈ zI h,fA h x=some true:=by
   intro x hx;obtain ⟨f1,f2⟩:=Px hS hv hx;obtain ⟨r,e,hr⟩:=Pv hs hS hv (b:=x) (by omega)
   rw [e,hr.2 f1]
  unfold fB
  rw [Bool.not_true,cond_false]
  rcases hca with ⟨x,e1,x1,x2⟩ | ⟨e1,x1⟩
  ·rw [e1]
   have hy:∃ y,Lm h b=(y,true,0)∧y ∈ zI h∧bel y.Level b=true:=by
    refine hcb.resolve_right ?_;rintro ⟨_,hno⟩;have:=hno x x1
    rw [Py x2 hab] at this
    cases this
   obtain ⟨y,e2,y1,y2⟩:=hy
   rw [e2]
   dsimp only
   simp only [Bool.not_true,cond_false,cond_true]
   refine aV (fit x x1) ?_
   rw [cond_true]
   refine aV (AC _ _) ?_
   rw [x2,cond_true]
   refine aV (fit y y1) ?_
   rw [cond_true]
   refine aV (AC _ _) ?_
   rw [y2]
   exact ah rfl
  ·rw [e1]
   dsimp only
   simp only [Bool.not_false,cond_true]
   rcases hcb with ⟨y,e2,y1,y2⟩ | ⟨e2,y1⟩
   ·rw [e2]
    dsimp only
    simp only [Bool.not_true,cond_false]
    refine aV (fit y y1) ?_
    rw [cond_true]
    refine aV (AC _ _) ?_
    rw [y2]
    exact ah rfl
   ·rw [e2]
    exact ah rfl
end
end Go.Proofs.YtfpeabnehpclnaaGreatT
