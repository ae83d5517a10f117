import Derived.Test.YtfpeabnehpclnaaGreatXA
import Derived.Test.YtfpeabnehpclnaaGreatR
import Derived.ProofKit
import Derived.Deep.Slices
import Derived.Carry
import Derived.OpenShut
import Derived.WideShapes
import Derived.Lib.LaidTab
namespace Go.Proofs.YtfpeabnehpclnaaGreatE
open Go Go.Proofs
set_option linter.unusedVariables false
set_option linter.unusedSimpArgs false
class Rf (b:Bool) (p:outParam Prop):Prop where
 iff:b=true↔p
instance VD:Rf true True:=⟨by simp⟩
instance Vu:Rf false False:=⟨by simp⟩
instance VE {p:Prop} [Decidable p]:Rf (decide p) p:=⟨decide_eq_true_iff⟩
instance VF {α:Type} [BEq α] [LawfulBEq α] {x y:α}:Rf (x == y) (x=y):=⟨beq_iff_eq⟩
instance VG {α:Type} [BEq α] [LawfulBEq α] {x y:α}:Rf (x != y) (x≠y):=⟨bne_iff_ne⟩
instance VH {b:Bool} {p:Prop} [h:Rf b p]:Rf (!b) (¬ p):=⟨by rw [Bool.not_eq_true',← h.iff,Bool.not_eq_true]⟩
instance VI {a b:Bool} {p q:Prop} [h:Rf a p] [h':Rf b q]:Rf (a && b) (p∧q):=⟨by rw [Bool.and_eq_true,h.iff,h'.iff]⟩
instance VL {a b:Bool} {p q:Prop} [h:Rf a p] [h':Rf b q]:Rf (a || b) (p∨q):=⟨by rw [Bool.or_eq_true,h.iff,h'.iff]⟩
instance VJ {a b:ByteArray}:Rf (sEq a b) (a=b):=⟨Ux⟩
instance (priority:=low) VK {b:Bool}:Rf b (b=true):=⟨Iff.rfl⟩
theorem aA {α:Type} {c:Bool} {x y:Option α} {p:Prop} {Q:α→Prop} [r:Rf c p] (h1:p→Tri x Q) (h2:¬ p→Tri y Q):Tri (bif c then x else y) Q:=by
 cases hc:c
 ·exact h2 (fun h=>by rw [← r.iff,hc] at h; cases h)
 ·exact h1 (r.iff.1 hc)
theorem bA {α β:Type} {x:Option α} {a:α} {k:α→Option β} {Q:β→Prop} (h:x=some a) (hk:Tri (k a) Q):Tri (x.bind k) Q:=by
 rw [h]; exact hk
theorem zC {x:Option Bool} {p:Prop} [Decidable p]:Tri x (fun r=>r=true↔p)↔x=some (decide p):=by
 constructor
 ·rintro ⟨b,h,hb⟩; rw [h]; congr 1; rw [Bool.eq_iff_iff,hb]; simp
 ·intro h; exact ⟨_,h,by simp⟩
theorem dQ {α β:Type} {c:Bool} {x y:Option α} {k:α→Option β} {Q:β→Prop} (h:Tri (bif c then x.bind k else y.bind k) Q):Tri ((bif c then x else y).bind k) Q:=by
 cases c <;> exact h
theorem dA {α β:Type} {a:α} {k:α→Option β} {Q:β→Prop} (h:Tri (k a) Q):Tri ((some a).bind k) Q:=h
theorem dR {α β:Type} {c:Prop} [Decidable c] {x:Option α} {k:α→Option β} {Q:β→Prop} (h:Tri (must c (x.bind k)) Q):Tri ((must c x).bind k) Q:=by
 obtain ⟨a,h,hq⟩:=h;obtain ⟨hc,hx⟩:=af h
 rw [lJ _ hc]
 exact ⟨a,hx,hq⟩
theorem dS {α β γ:Type} {x:Option α} {j:α→Option β} {k:β→Option γ} {Q:γ→Prop} (h:Tri (x.bind fun a=>(j a).bind k) Q):Tri ((x.bind j).bind k) Q:=by
 cases x with
 | none=>exact h
 | some a=>exact h
theorem cZ {x:Int} (h0 : -9223372036854775808≤x) (h1:x≤9223372036854775807):w64 x=x:=pI (by omega) (by omega)
def Nxt {Ω:Type} (n k:Nat) (p:Nat→Prop) (Q:Ω→Prop):Int ⊕ Ω→Prop
 | .inl s'=>s'=((k + 1:Nat):Int)∧k < n∧p k
 | .inr o=>Q o
theorem tH {Ω:Type} {step:Int→Option (Int ⊕ Ω)} {Q:Ω→Prop} (n:Nat) (p:Nat→Prop) 
  (hs:∀ k:Nat,k≤n→(∀ j,j < k→p j)→Tri (step (k:Int)) (Nxt n k p Q)):Tri (iter step 0) Q:=by
 refine Ey n (fun k=>∀ j,j < k→p j) (fun j h=>absurd h (Nat.not_lt_zero _)) (fun k hk hJ=>gX (hs k hk hJ) ?_);rintro (s | o) h
 ·refine ⟨h.1,h.2.1,fun j hj => ?_⟩;rcases Nat.lt_or_ge j k with h1 | h1
  ·exact hJ j h1
  ·rw [show j=k by omega]; exact h.2.2
 ·exact h
def zn {α:Type} [Inhabited α] (l:List α) (p:α→Prop):Prop:=∀ j:Nat,j < l.length→p (idx l (j:Int))
theorem CZ {α:Type} [Inhabited α] {l:List α} {p:α→Prop}:zn l p↔∀ x ∈ l,p x:=by
 constructor
 ·intro h x hx;obtain ⟨j,hj,rfl⟩:=List.getElem_of_mem hx;have:=h j hj
  rwa [dJ rfl hj] at this
 ·intro h j hj
  rw [dJ rfl hj]
  exact h _ (List.getElem_mem hj)
theorem sJ {α:Type} [Inhabited α] {l:List α} {k:Nat} (hk:k≤l.length):jT l 0 (k:Int)=l.take k:=by
 unfold jT
 simp
theorem Da {α:Type} [Inhabited α] {l:List α} {k j:Nat} (h:j < k):idx (l.take k) (j:Int)=idx l (j:Int):=by
 unfold idx
 simp only [Int.toNat_natCast,List.getD_eq_getElem?_getD,List.getElem?_take]
 rw [if_pos h]
theorem nY {α:Type} [Inhabited α] {l m:List α} {j:Nat} (h:j < l.length):idx (l++m) (j:Int)=idx l (j:Int):=by
 unfold idx
 simp only [Int.toNat_natCast,List.getD_eq_getElem?_getD,List.getElem?_append_left h]
theorem mZ {α:Type} [Inhabited α] {l:List α} {x:α} {j:Nat} (h:j=l.length):idx (l++[x]) (j:Int)=x:=by
 subst h;unfold idx
 simp
theorem xH {α:Type} [Inhabited α] {l:List α} {k j:Nat} {v:α} (h:k < l.length):idx (l.set k v) (j:Int)=if j=k then v else idx l (j:Int):=by
 have:=Py (xs:=l) (i:=(k:Int)) (j:=j) (v:=v) (by omega) (by omega)
 simp only [Int.toNat_natCast] at this
 rw [this]
 by_cases e:j=k
 ·simp [e]
 ·rw [if_neg e,if_neg (by omega)]
theorem BC {α β:Type} [Inhabited α] [Inhabited β] {f:α→β} {l:List α} {k:Nat} (h:k < l.length):idx (l.map f) (k:Int)=f (idx l (k:Int)):=by
 rw [dJ rfl (by simpa using h),dJ rfl h,List.getElem_map]
theorem tJ {α:Type} [Inhabited α] {l:List α} {k:Nat} (h:k < l.length):l.take (k + 1)=l.take k++[idx l (k:Int)]:=by
 rw [dJ rfl h,List.take_succ_eq_append_getElem h]
theorem AX {κ ν:Type} [DecidableEq κ] {m:List (κ×ν)} {k x:κ} {v:ν}:kZ (iB m k v) x=true↔x=k∨kZ m x=true:=by
 induction m with
 | nil=>simp [iB,kZ,eq_comm]
 | cons p m ih =>
  unfold iB
  by_cases e:p.1=k
  ·rw [if_pos e]
   simp only [kZ,List.any_cons,Bool.or_eq_true,decide_eq_true_eq]
   constructor
   ·rintro (h | h)
    ·exact .inl h.symm
    ·exact .inr (.inr h)
   ·rintro (h | h | h)
    ·exact .inl h.symm
    ·exact .inl (e ▸ h)
    ·exact .inr h
  ·rw [if_neg e]
   simp only [kZ,List.any_cons,Bool.or_eq_true,decide_eq_true_eq] at ih ⊢
   rw [ih]
   constructor
   ·rintro (h | h | h)
    ·exact .inr (.inl h)
    ·exact .inl h
    ·exact .inr (.inr h)
   ·rintro (h | h | h)
    ·exact .inr (.inl h)
    ·exact .inl h
    ·exact .inr (.inr h)
theorem zD {κ ν:Type} [DecidableEq κ] [Inhabited ν] {m:List (κ×ν)} {k x:κ} {v:ν}:mat (iB m k v) x=if x=k then v else mat m x:=by
 induction m with
 | nil =>
  by_cases e:x=k
  ·simp [iB,mat,e]
  ·have e':¬ k=x:=fun h=>e h.symm
   simp [iB,mat,e,e']
 | cons p m ih =>
  unfold iB
  by_cases e:p.1=k
  ·rw [if_pos e]
   by_cases e2:x=k
   ·simp [mat,e2]
   ·have e':¬ k=x:=fun h=>e2 h.symm;have e3:¬ p.1=x:=fun h=>e2 (h.symm.trans e)
    simp [mat,e2,e',e3]
  ·rw [if_neg e]
   by_cases e2:p.1=x
   ·have e3:¬ x=k:=fun h=>e (e2.trans h)
    simp [mat,e2,e3]
   ·simp [mat,e2,ih]
theorem Nl {κ ν:Type} [DecidableEq κ] {x:κ}:kZ ([]:List (κ×ν)) x=false:=rfl
theorem Ut {κ ν:Type} [DecidableEq κ] [Inhabited ν] {x:κ}:mat ([]:List (κ×ν)) x=default:=rfl
def Lock {σ τ Ω Ψ:Type} (n k:Nat) (I:Nat→σ→τ→Prop) (Q:Ω→Ψ→Prop):σ ⊕ Ω→τ ⊕ Ψ→Prop
 | .inl s,.inl t=>k < n∧I (k + 1) s t
 | .inr o,.inr p=>Q o p
 | _,_=>False
theorem Gv {σ τ Ω Ψ:Type} {f:σ→Option (σ ⊕ Ω)} {g:τ→Option (τ ⊕ Ψ)} {Q:Ω→Ψ→Prop} (n:Nat) (I:Nat→σ→τ→Prop) {s:σ} {t:τ} {k0:Nat} (a1:k0≤n) (h0:I k0 s t)
  (hs:∀ (k:Nat) (s:σ) (t:τ),k≤n→I k s t→Tri (f s) (fun x=>Tri (g t) (Lock n k I Q x))):Tri (iter f s) (fun o=>Tri (iter g t) (Q o)):=by
 generalize hd:n - k0=d
 induction d using Nat.strongRecOn generalizing k0 s t with
 | ind d ih =>
  obtain ⟨x,hx,y,hy,hr⟩:=hs k0 s t a1 h0
  rw [BI,hx,BI,hy]
  cases x with
  | inl s' =>
   cases y with
   | inl t'=>exact ih (n - (k0 + 1)) (by have:=hr.1; omega) (k0:=k0 + 1) (by have:=hr.1; omega) hr.2 rfl
   | inr p=>exact hr.elim
  | inr o =>
   cases y with
   | inl t'=>exact hr.elim
   | inr p=>exact ⟨o,rfl,p,rfl,hr⟩
end Go.Proofs.YtfpeabnehpclnaaGreatE
namespace Go.Proofs.YtfpeabnehpclnaaGreatE
open Go
set_option linter.unusedVariables false
set_option linter.unusedSimpArgs false
structure kF (P:Program) (t:TypeId) {α:Type} (k:Ty α) (G:α→Prop):Prop where
 out:∀ {H:Type} {enc:TypeId×Value→H} {w:World} {base:Nat} {spare:Nat→Bool} {held:Bool} {fuel:Nat} {cs:List Value} {x:DataW H×List MemPlace},
  DataW.trod enc P w base spare held fuel t cs=some x→(∀ n ∈ DataW.weights P t x.1,n≤reachBytes)→∃ a,k.rd (hp w) a cs∧G a
section
variable {P:Program} {t e:TypeId}
theorem KJ {kk:IntKind} (ht:P.underlying t=some (.int kk)):kF P t (aG kk) (fun n=>(Lit.int kk n).wf=true):=⟨fun h _=>by
 obtain ⟨n,rfl,_,hw⟩:=DataW.trod_int ht h;exact ⟨n,rfl,hw⟩⟩
theorem Oo (ht:P.underlying t=some .bool):kF P t rH (fun _=>True):=⟨fun h _=>by
 obtain ⟨b,rfl,_⟩:=DataW.trod_bool ht h;exact ⟨b,rfl,trivial⟩⟩
theorem Qn (ht:P.underlying t=some .string):kF P t gJ (fun s=>s.size≤reachBytes):=⟨fun h hn=>by
 obtain ⟨s,rfl,rfl,_⟩:=DataW.trod_string ht h;refine ⟨s,rfl,?_⟩;have h1:s.data.toList.length≤reachBytes:=hn s.data.toList.length (by show _ ∈ [_]; exact List.mem_singleton.2 rfl)
 rw [Array.length_toList] at h1
 exact h1⟩
theorem CY {H:Type} {P:Program} {e:TypeId} {n:Nat} {d:DataW H}:∀ {l:List (DataW H)},d ∈ l→n ∈ DataW.weights P e d→n ∈ DataW.weightsAll P e l
 | d'::l,hd,hn=>by
  simp only [DataW.weightsAll,List.mem_append]
  rcases List.mem_cons.1 hd with rfl | hd
  ·exact .inl hn
  ·exact .inr (CY hd hn)
theorem Nh {α:Type} {k:Ty α} {G:α→Prop} (ht:P.underlying t=some (.slice e)) (ho:kF P e k G) (hc:P.cellsOf e=k.sz) (hpos:0 < k.sz) :
  kF P t (bH e k) (fun l=>(∀ x ∈ l,G x)∧l.length * P.bytesOf e≤reachBytes):=⟨fun {H enc w base spare held fuel cs x} h hn=>by
 rcases Deep.open_slice ht h with ⟨rfl,rfl⟩ | ⟨a,len,cap,m,n,D,Pl,rfl,hb,hl,hm,hmm,rfl,hx⟩
 ·exact ⟨[],⟨none,0,rfl,Nat.le_refl _,.inl rfl⟩,(fun x hx=>absurd hx List.not_mem_nil),by rw [List.length_nil,Nat.zero_mul]; exact Nat.zero_le _⟩
 ·have hle:len≤m:=by rw [hmm]; split <;> omega
  have hw:DataW.weights P t (.slice ((List.range len).map D) ((List.range (m - len)).map fun j=>D (len + j))) =
    (((List.range len).map D).length + ((List.range (m - len)).map fun j=>D (len + j)).length) * P.bytesOf e::(DataW.weightsAll P e ((List.range len).map D)++DataW.weightsAll P e ((List.range (m - len)).map fun j=>D (len + j))):=by
   simp only [DataW.weights,ht]
  have hel:∀ i,i < len→∃ y cs',k.rd (hp w) y cs'∧G y∧w.cells? base (a.add (i * P.cellsOf e)) (P.cellsOf e)=some cs':=by
   intro i hi;obtain ⟨cs',h1,h2⟩:=hx i (by omega);obtain ⟨y,h3,h4⟩:=ho.out h2 (fun q hq=>hn q (by
    show q ∈ DataW.weights P t _
    rw [hw]
    refine List.mem_cons_of_mem _ (List.mem_append_left _ (CY (d:=D i) ?_ hq));exact List.mem_map.2 ⟨i,by simpa using hi,rfl⟩))
   exact ⟨y,cs',h3,h4,h1⟩
  have hlist:∀ q,q≤len→∃ l:List α,l.length=q∧(∀ x ∈ l,G x)∧∀ i y,l[i]? = some y→∃ cs',k.rd (hp w) y cs'∧w.cells? base (a.add (i * P.cellsOf e)) (P.cellsOf e)=some cs':=by
   intro q
   induction q with
   | zero=>intro _; exact ⟨[],rfl,(fun x hx=>absurd hx List.not_mem_nil),(fun i y hy=>by simp at hy)⟩
   | succ q ih =>
    intro hq;obtain ⟨l,h1,h2,h3⟩:=ih (by omega);obtain ⟨y,cs',g1,g2,g3⟩:=hel q (by omega);refine ⟨l++[y],by simp [h1],fun x hx => ?_,fun i z hz => ?_⟩
    ·rcases List.mem_append.1 hx with hx | hx
     ·exact h2 x hx
     ·rw [List.mem_singleton.1 hx]; exact g2
    ·rcases Nat.lt_or_ge i l.length with hi | hi
     ·rw [List.getElem?_append_left hi] at hz
      exact h3 i z hz
     ·rw [List.getElem?_append_right hi] at hz
      have a1:i=q:=by
       have:=(List.getElem?_eq_some_iff.1 hz).1
       simp at this
       omega
      subst a1
      rw [h1,Nat.sub_self] at hz
      cases hz;exact ⟨cs',g1,g3⟩
  obtain ⟨l,h1,h2,h3⟩:=hlist len (Nat.le_refl _);subst h1;refine ⟨l,⟨some a,cap,rfl,hl,?_⟩,h2,?_⟩
  ·rcases l with _ | ⟨y0,l'⟩
   ·exact .inl rfl
   ·right
    obtain ⟨b,o,sp⟩:=a;have hsp:sp=none:=by
     obtain ⟨cs',g1,g2⟩:=h3 0 y0 rfl;have hlen:=k.rd_len g1;obtain ⟨_,_,g3⟩:=World.cells?_some g2;have hlt:0 < cs'.length:=by omega
     have:=g3 0 (by rw [hc]; exact hpos)
     rw [List.getElem?_eq_getElem hlt] at this
     simpa [Addr.add] using World.cell?_spot this
    subst hsp;refine ⟨b,o,rfl,fun j y hj => ?_⟩;obtain ⟨cs',g1,g2⟩:=h3 j y hj;obtain ⟨_,_,g3⟩:=World.cells?_some g2;refine ⟨cs',g1,fun i u hu => ?_⟩;have hi:=(List.getElem?_eq_some_iff.1 hu).1;have:=g3 i (by rw [hc,← k.rd_len g1]; exact hi)
    rw [hu,addr_add,addr_add,hc,xw] at this
    exact this
  ·have:=hn _ (by rw [hw]; exact List.mem_cons_self)
   rw [List.length_map,List.length_map,List.length_range,List.length_range] at this
   refine Nat.le_trans (Nat.mul_le_mul_right _ ?_) this
   omega⟩
end
theorem Inv.below {w w':World} {L:List bY} (h:Inv (aM w) w' L):Go.RowKit.Below w.heap.size w w' :=
 ⟨h.os,h.tape,h.output,h.size,fun k hk=>by
  have:hp w k=some (w.heap[k]'hk):=by simp [hp,hk]
  rw [show w.heap[k]? = some (w.heap[k]'hk) from this]
  exact h.fix k _ this⟩
section
variable {H:Type} {enc:TypeId×Value→H} {P:Program}
theorem Ni (hl:laidOutB P=true) {W W':World} (hb:Go.RowKit.Below W.heap.size W W'):∀ {ts:List TypeId} {vs:List Value} {ds:List (DataW H)} {ps:List MemPlace},(∀ t ∈ ts,P.readableRec t=true∧t < P.types.size) →
  DataW.TrodAll enc P W 0 (fun _=>true) true ts vs ds ps→(∀ p ∈ ps,p.block < W.heap.size)→DataW.TrodAll enc P W' 0 (fun b=>decide (b < W.heap.size)) true ts vs ds ps
 | [],vs,ds,ps,_,h,_=>by
  cases vs <;> cases ds <;> simp_all [DataW.TrodAll]
 | t::ts,vs,ds,ps,hr,h,hp=>by
  obtain ⟨v,vs',d,ds',p,q,rfl,rfl,rfl,h1,h2⟩:=Go.ChangeShapes.trodAll_cons h;refine Go.trodAll_cons_mk (Go.RowKit.Below.trod hl (hr t (List.mem_cons_self)).1 (hr t List.mem_cons_self).2 h1 hb (fun x hx=>hp x (List.mem_append_left _ hx)))
   (Ni hl hb (fun t ht=>hr t (List.mem_cons_of_mem _ ht)) h2 (fun x hx=>hp x (List.mem_append_right _ hx)))
theorem SA {f:Func} {s:ChangeSpec} {apart:Bool} {W W':World} {args:Array Value} {ds gs:List (DataW H)} {before:List MemPlace} {tb:TypeId}
  (hl:laidOutB P=true) (hW:DataW.Whole enc P f.params.toList s.vars apart W args.toList ds gs before) (hvars:s.vars=[]) (hrt:f.resultTypes = #[tb]) (hb:P.underlying tb=some .bool)
  (hr:∀ t ∈ f.params.toList,P.readableRec t=true∧t < P.types.size) (hfn:(s.fn H (ds++gs)).results=[.lit (.bool true)]) (hfa:(s.fn H (ds++gs)).args=ds) (hfv:(s.fn H (ds++gs)).vars=[])
  (h:Go.RowKit.Below W.heap.size W W'):s.post enc P f apart true false false W args (.bool true) W':=by
 have hlt:=fun p hp=>hW.lt p hp;have hW':=hW;obtain ⟨p,q,hA,hV,rfl,_,_⟩:=hW
 rw [hvars] at hV
 obtain ⟨rfl,rfl⟩:=Go.ChangeShapes.trodVars_none hV;refine ⟨ds,[],p++[],[],p,[],hW',?_,?_,?_,Go.RowKit.Below.frame h _,fun h=>by cases h⟩
 ·rw [hfn,hrt]
  exact Go.trodAll_cons_mk (Go.RowKit.shut_bool hb true) Go.ChangeShapes.trodAll_mk0
 ·rw [hfa]
  exact Ni hl h hr hA (fun x hx=>hlt x (List.mem_append_left _ hx))
 ·rw [hfv,hvars]
  rfl
end
end Go.Proofs.YtfpeabnehpclnaaGreatE
namespace Go.Proofs.YtfpeabnehpclnaaGreatE
open Go
set_option linter.unusedVariables false
set_option linter.unusedSimpArgs false
structure xu (P:Program) (fs:List Field) (off:Nat) {α:Type} (k:Ty α) (G:α→Prop):Prop where
 out:∀ {H:Type} {enc:TypeId×Value→H} {w:World} {base:Nat} {spare:Nat→Bool} {held:Bool} {n:Nat} {cs:List Value} {xs:List (DataW H×List MemPlace)},
  xs.length=fs.length→(∀ (i:Nat) (f:Field),fs[i]? = some f→DataW.trod enc P w base spare held n f.type ((cs.drop f.offset).take (P.cellsOf f.type))=xs[i]?) →
  (∀ m ∈ DataW.weightsEach P (fs.map (·.type)) (xs.map (·.1)),m≤reachBytes)→cs.length=off + k.sz→∃ a,k.rd (hp w) a (cs.drop off)∧G a
section
variable {P:Program} {t:TypeId}
theorem Dy {α:Type} {k:Ty α} {G:α→Prop} {f:Field} {off:Nat} (h:kF P t k G) (ht:f.type=t) (ho:f.offset=off) (hc:P.cellsOf f.type=k.sz):xu P [f] off k G:=⟨fun {H enc w base spare held n cs xs} hl hf hw hcs=>by
 subst ht
 match xs,hl with
 | [x],_ =>
  have h0:=hf 0 f rfl
  rw [ho,hc,List.take_of_length_le (by rw [List.length_drop]; omega)] at h0
  exact h.out h0 (fun m hm=>hw m (by simpa [DataW.weightsEach] using hm))⟩
theorem oO {α β:Type} {k:Ty α} {k':Ty β} {G:α→Prop} {G':β→Prop} {f g:Field} {fs:List Field} {off:Nat} (h:kF P t k G) (ht:f.type=t) (ho:f.offset=off) (hc:P.cellsOf f.type=k.sz)
  (hr:xu P (g::fs) (off + k.sz) k' G'):xu P (f::g::fs) off (cK k k') (fun x=>G x.1∧G' x.2):=⟨fun {H enc w base spare held n cs xs} hl hf hw hcs=>by
 subst ht
 match xs,hl with
 | x::xs,hl =>
  have hcs':cs.length=off + (k.sz + k'.sz):=hcs;have h0:=hf 0 f rfl
  rw [ho,hc] at h0
  obtain ⟨a,ha,ga⟩:=h.out h0 (fun m hm=>hw m (by simp only [List.map_cons,DataW.weightsEach]; exact List.mem_append_left _ hm));obtain ⟨b,hb,gb⟩:=hr.out (cs:=cs) (xs:=xs) (by simpa using hl) (fun i q hq=>hf (i + 1) q hq) (fun m hm=>hw m (by simp only [List.map_cons,DataW.weightsEach] at hm ⊢; exact List.mem_append_right _ hm)) (by omega);refine ⟨(a,b),⟨_,_,?_,ha,hb⟩,ga,gb⟩
  rw [← List.drop_drop,List.take_append_drop]⟩
theorem tC {α:Type} {k:Ty α} {G:α→Prop} {fs:Array Field} (ht:P.underlying t=some (.struct fs)) (h:xu P fs.toList 0 k G) (hc:P.cellsOf t=k.sz):kF P t k G:=⟨fun {H enc w base spare held fuel cs x} hx hn=>by
 obtain ⟨xs,n,_,rfl,hl,hlen,hf⟩:=DataW.trod_struct ht hx;obtain ⟨a,ha,ga⟩:=h.out (cs:=cs) (xs:=xs) (by simpa using hlen) (fun i f hi=>hf i f (by simpa using hi)) (fun m hm=>hn m (by simp only [DataW.weights,ht]; exact hm)) (by omega);exact ⟨a,by simpa using ha,ga⟩⟩
theorem Dz {α β:Type} {k:Ty α} {G:α→Prop} (h:kF P t k G) (g:β→α) (f:α→β) (hgf:∀ a,g (f a)=a):kF P t (k.iso g) (fun b=>G (g b)):=⟨fun hx hn=>by
 obtain ⟨a,ha,ga⟩:=h.out hx hn;exact ⟨f a,by show k.rd _ (g (f a)) _; rw [hgf]; exact ha,by rw [hgf]; exact ga⟩⟩
theorem Jj {α β:Type} {k:Ty α} {G:α→Prop} (h:kF P t k G) (f:α→β) {sz:Nat} {enc:β→List Value} {h1:∀ x,(enc x).length=sz} {h2:∀ x,∀ v ∈ enc x,v.oneCell'=true} {G':β→Prop}
  (he:∀ H a cs,k.rd H a cs→cs=enc (f a)) (hg:∀ a,G a→G' (f a)):kF P t (Ty.flat sz enc h1 h2) G':=⟨fun hx hn=>by
 obtain ⟨a,ha,ga⟩:=h.out hx hn;exact ⟨f a,he _ _ _ ha,hg a ga⟩⟩
theorem yT {α:Type} {k:Ty α} {G:α→Prop} {e:TypeId} {B:Nat} (ht:P.underlying t=some (.slice e)) (ho:kF P e k G) (hc:P.cellsOf e=k.sz) (hpos:0 < k.sz) (hb:P.bytesOf e=B) :
  kF P t (bH e k) (fun l=>(∀ x ∈ l,G x)∧l.length * B≤140737488351232):=by
 subst hb;exact Nh ht ho hc hpos
theorem Jk {α:Type} {k:Ty α} {G:α→Prop} (ho:kF P t k G) {fs:Array Field} (hs:P.underlying t=some (.struct fs)) {H:Type} {enc:TypeId×Value→H} {w w':World} {r:Reach} {b0 base:Nat} {spare:Nat→Bool} {held:Bool} {v:Value} {d:DataW H} {p:List MemPlace}
  (hv:Value.okWide P w' r b0 t v) (hd:DataW.Trod enc P w base spare held t v d p) (hw:∀ n ∈ DataW.weights P t d,n≤reachBytes):∃ a cs,v = .agg cs∧k.rd (hp w) a cs.toList∧G a:=by
 obtain ⟨cs,rfl,_⟩:=Go.WideShapes.okWide_struct hs hv;obtain ⟨fuel,hf⟩:=hd;obtain ⟨a,h1,h2⟩:=ho.out hf hw;exact ⟨a,cs,rfl,h1,h2⟩
end
end Go.Proofs.YtfpeabnehpclnaaGreatE
