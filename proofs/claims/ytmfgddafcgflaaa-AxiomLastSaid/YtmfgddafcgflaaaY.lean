import Derived.Test.YtmfgddafcgflaaaU
import Derived.ProofKit
import Derived.Deep.Slices
import Derived.Carry
import Derived.OpenShut
import Derived.WideShapes
import Derived.Lib.LaidTab
namespace Go.Proofs.YtmfgddafcgflaaaE
open Go
set_option linter.unusedVariables false
set_option linter.unusedSimpArgs false
structure gH (P:Program) (t:TypeId) {α:Type} (k:Ty α) (G:α→Prop):Prop where
 out:∀ {H:Type} {enc:TypeId×Value→H} {w:World} {base:Nat} {spare:Nat→Bool} {held:Bool} {fuel:Nat} {cs:List Value} {x:DataW H×List MemPlace},
  DataW.trod enc P w base spare held fuel t cs=some x→(∀ n ∈ DataW.weights P t x.1,n≤reachBytes)→∃ a,k.rd (hp w) a cs∧G a
section
variable {P:Program} {t e:TypeId}
theorem yx {kk:IntKind} (ht:P.underlying t=some (.int kk)):gH P t (aJ kk) (fun n=>(Lit.int kk n).wf=true):=⟨fun h _=>by
 obtain ⟨n,rfl,_,hw⟩:=DataW.trod_int ht h;exact ⟨n,rfl,hw⟩⟩
theorem Bl (ht:P.underlying t=some .bool):gH P t oC (fun _=>True):=⟨fun h _=>by
 obtain ⟨b,rfl,_⟩:=DataW.trod_bool ht h;exact ⟨b,rfl,trivial⟩⟩
theorem Db (ht:P.underlying t=some .string):gH P t fZ (fun s=>s.size≤reachBytes):=⟨fun h hn=>by
 obtain ⟨s,rfl,rfl,_⟩:=DataW.trod_string ht h;refine ⟨s,rfl,?_⟩;have h1:s.data.toList.length≤reachBytes:=hn s.data.toList.length (by show _ ∈ [_]; exact List.mem_singleton.2 rfl)
 rw [Array.length_toList] at h1
 exact h1⟩
theorem rX {H:Type} {P:Program} {e:TypeId} {n:Nat} {d:DataW H}:∀ {l:List (DataW H)},d ∈ l→n ∈ DataW.weights P e d→n ∈ DataW.weightsAll P e l
 | d'::l,hd,hn=>by
  simp only [DataW.weightsAll,List.mem_append]
  rcases List.mem_cons.1 hd with rfl | hd
  ·exact .inl hn
  ·exact .inr (rX hd hn)
theorem zX {α:Type} {k:Ty α} {G:α→Prop} (ht:P.underlying t=some (.slice e)) (ho:gH P e k G) (hc:P.cellsOf e=k.sz) (hpos:0 < k.sz) :
  gH P t (bv e k) (fun l=>(∀ x ∈ l,G x)∧l.length * P.bytesOf e≤reachBytes):=⟨fun {H enc w base spare held fuel cs x} h hn=>by
 rcases Deep.open_slice ht h with ⟨rfl,rfl⟩ | ⟨a,len,cap,m,n,D,Pl,rfl,hb,hl,hm,hmm,rfl,hx⟩
 ·exact ⟨[],⟨none,0,rfl,Nat.le_refl _,.inl rfl⟩,(fun x hx=>absurd hx List.not_mem_nil),by rw [List.length_nil,Nat.zero_mul]; exact Nat.zero_le _⟩
 ·have hle:len≤m:=by rw [hmm]; split <;> omega
  have hw:DataW.weights P t (.slice ((List.range len).map D) ((List.range (m - len)).map fun j=>D (len + j))) =
    (((List.range len).map D).length + ((List.range (m - len)).map fun j=>D (len + j)).length) * P.bytesOf e::(DataW.weightsAll P e ((List.range len).map D)++DataW.weightsAll P e ((List.range (m - len)).map fun j=>D (len + j))):=by
   simp only [DataW.weights,ht]
  have hel:∀ i,i < len→∃ y cs',k.rd (hp w) y cs'∧G y∧w.cells? base (a.add (i * P.cellsOf e)) (P.cellsOf e)=some cs':=by
   intro i hi;obtain ⟨cs',h1,h2⟩:=hx i (by omega);obtain ⟨y,h3,h4⟩:=ho.out h2 (fun q hq=>hn q (by
    show q ∈ DataW.weights P t _
    rw [hw]
    refine List.mem_cons_of_mem _ (List.mem_append_left _ (rX (d:=D i) ?_ hq));exact List.mem_map.2 ⟨i,by simpa using hi,rfl⟩))
   exact ⟨y,cs',h3,h4,h1⟩
  have hlist:∀ q,q≤len→∃ l:List α,l.length=q∧(∀ x ∈ l,G x)∧∀ i y,l[i]? = some y→∃ cs',k.rd (hp w) y cs'∧w.cells? base (a.add (i * P.cellsOf e)) (P.cellsOf e)=some cs':=by
   intro q
   induction q with
   | zero=>intro _; exact ⟨[],rfl,(fun x hx=>absurd hx List.not_mem_nil),(fun i y hy=>by simp at hy)⟩
   | succ q ih =>
    intro hq;obtain ⟨l,h1,h2,h3⟩:=ih (by omega);obtain ⟨y,cs',g1,g2,g3⟩:=hel q (by omega);refine ⟨l++[y],by simp [h1],fun x hx => ?_,fun i z hz => ?_⟩
    ·rcases List.mem_append.1 hx with hx | hx
     ·exact h2 x hx
     ·rw [List.mem_singleton.1 hx]; exact g2
    ·rcases Nat.lt_or_ge i l.length with hi | hi
     ·rw [List.getElem?_append_left hi] at hz
      exact h3 i z hz
     ·rw [List.getElem?_append_right hi] at hz
      have a1:i=q:=by
       have:=(List.getElem?_eq_some_iff.1 hz).1
       simp at this
       omega
      subst a1
      rw [h1,Nat.sub_self] at hz
      cases hz;exact ⟨cs',g1,g3⟩
  obtain ⟨l,h1,h2,h3⟩:=hlist len (Nat.le_refl _);subst h1;refine ⟨l,⟨some a,cap,rfl,hl,?_⟩,h2,?_⟩
  ·rcases l with _ | ⟨y0,l'⟩
   ·exact .inl rfl
   ·right
    obtain ⟨b,o,sp⟩:=a;have hsp:sp=none:=by
     obtain ⟨cs',g1,g2⟩:=h3 0 y0 rfl;have hlen:=k.rd_len g1;obtain ⟨_,_,g3⟩:=World.cells?_some g2;have hlt:0 < cs'.length:=by omega
     have:=g3 0 (by rw [hc]; exact hpos)
     rw [List.getElem?_eq_getElem hlt] at this
     simpa [Addr.add] using World.cell?_spot this
    subst hsp;refine ⟨b,o,rfl,fun j y hj => ?_⟩;obtain ⟨cs',g1,g2⟩:=h3 j y hj;obtain ⟨_,_,g3⟩:=World.cells?_some g2;refine ⟨cs',g1,fun i u hu => ?_⟩;have hi:=(List.getElem?_eq_some_iff.1 hu).1;have:=g3 i (by rw [hc,← k.rd_len g1]; exact hi)
    rw [hu,addr_add,addr_add,hc,nN] at this
    exact this
  ·have:=hn _ (by rw [hw]; exact List.mem_cons_self)
   rw [List.length_map,List.length_map,List.length_range,List.length_range] at this
   refine Nat.le_trans (Nat.mul_le_mul_right _ ?_) this
   omega⟩
end
theorem Inv.below {w w':World} {L:List aY} (h:Inv (aX w) w' L):Go.RowKit.Below w.heap.size w w' :=
 ⟨h.os,h.tape,h.output,h.size,fun k hk=>by
  have:hp w k=some (w.heap[k]'hk):=by simp [hp,hk]
  rw [show w.heap[k]? = some (w.heap[k]'hk) from this]
  exact h.fix k _ this⟩
section
variable {H:Type} {enc:TypeId×Value→H} {P:Program}
theorem zY (hl:laidOutB P=true) {W W':World} (hb:Go.RowKit.Below W.heap.size W W'):∀ {ts:List TypeId} {vs:List Value} {ds:List (DataW H)} {ps:List MemPlace},(∀ t ∈ ts,P.readableRec t=true∧t < P.types.size) →
  DataW.TrodAll enc P W 0 (fun _=>true) true ts vs ds ps→(∀ p ∈ ps,p.block < W.heap.size)→DataW.TrodAll enc P W' 0 (fun b=>decide (b < W.heap.size)) true ts vs ds ps
 | [],vs,ds,ps,_,h,_=>by
  cases vs <;> cases ds <;> simp_all [DataW.TrodAll]
 | t::ts,vs,ds,ps,hr,h,hp=>by
  obtain ⟨v,vs',d,ds',p,q,rfl,rfl,rfl,h1,h2⟩:=Go.ChangeShapes.trodAll_cons h;refine Go.trodAll_cons_mk (Go.RowKit.Below.trod hl (hr t (List.mem_cons_self)).1 (hr t List.mem_cons_self).2 h1 hb (fun x hx=>hp x (List.mem_append_left _ hx)))
   (zY hl hb (fun t ht=>hr t (List.mem_cons_of_mem _ ht)) h2 (fun x hx=>hp x (List.mem_append_right _ hx)))
theorem Em {f:Func} {s:ChangeSpec} {apart:Bool} {W W':World} {args:Array Value} {ds gs:List (DataW H)} {before:List MemPlace} {tb:TypeId}
  (hl:laidOutB P=true) (hW:DataW.Whole enc P f.params.toList s.vars apart W args.toList ds gs before) (hvars:s.vars=[]) (hrt:f.resultTypes = #[tb]) (hb:P.underlying tb=some .bool)
  (hr:∀ t ∈ f.params.toList,P.readableRec t=true∧t < P.types.size) (hfn:(s.fn H (ds++gs)).results=[.lit (.bool true)]) (hfa:(s.fn H (ds++gs)).args=ds) (hfv:(s.fn H (ds++gs)).vars=[])
  (h:Go.RowKit.Below W.heap.size W W'):s.post enc P f apart true false false W args (.bool true) W':=by
 have hlt:=fun p hp=>hW.lt p hp;have hW':=hW;obtain ⟨p,q,hA,hV,rfl,_,_⟩:=hW
 rw [hvars] at hV
 obtain ⟨rfl,rfl⟩:=Go.ChangeShapes.trodVars_none hV;refine ⟨ds,[],p++[],[],p,[],hW',?_,?_,?_,Go.RowKit.Below.frame h _,fun h=>by cases h⟩
 ·rw [hfn,hrt]
  exact Go.trodAll_cons_mk (Go.RowKit.shut_bool hb true) Go.ChangeShapes.trodAll_mk0
 ·rw [hfa]
  exact zY hl h hr hA (fun x hx=>hlt x (List.mem_append_left _ hx))
 ·rw [hfv,hvars]
  rfl
end
end Go.Proofs.YtmfgddafcgflaaaE
namespace Go.Proofs.YtmfgddafcgflaaaE
open Go
set_option linter.unusedVariables false
set_option linter.unusedSimpArgs false
structure pq (P:Program) (fs:List Field) (off:Nat) {α:Type} (k:Ty α) (G:α→Prop):Prop where
 out:∀ {H:Type} {enc:TypeId×Value→H} {w:World} {base:Nat} {spare:Nat→Bool} {held:Bool} {n:Nat} {cs:List Value} {xs:List (DataW H×List MemPlace)},
  xs.length=fs.length→(∀ (i:Nat) (f:Field),fs[i]? = some f→DataW.trod enc P w base spare held n f.type ((cs.drop f.offset).take (P.cellsOf f.type))=xs[i]?) →
  (∀ m ∈ DataW.weightsEach P (fs.map (·.type)) (xs.map (·.1)),m≤reachBytes)→cs.length=off + k.sz→∃ a,k.rd (hp w) a (cs.drop off)∧G a
section
variable {P:Program} {t:TypeId}
theorem wQ {α:Type} {k:Ty α} {G:α→Prop} {f:Field} {off:Nat} (h:gH P t k G) (ht:f.type=t) (ho:f.offset=off) (hc:P.cellsOf f.type=k.sz):pq P [f] off k G:=⟨fun {H enc w base spare held n cs xs} hl hf hw hcs=>by
 subst ht
 match xs,hl with
 | [x],_ =>
  have h0:=hf 0 f rfl
  rw [ho,hc,List.take_of_length_le (by rw [List.length_drop]; omega)] at h0
  exact h.out h0 (fun m hm=>hw m (by simpa [DataW.weightsEach] using hm))⟩
theorem mO {α β:Type} {k:Ty α} {k':Ty β} {G:α→Prop} {G':β→Prop} {f g:Field} {fs:List Field} {off:Nat} (h:gH P t k G) (ht:f.type=t) (ho:f.offset=off) (hc:P.cellsOf f.type=k.sz)
  (hr:pq P (g::fs) (off + k.sz) k' G'):pq P (f::g::fs) off (bE k k') (fun x=>G x.1∧G' x.2):=⟨fun {H enc w base spare held n cs xs} hl hf hw hcs=>by
 subst ht
 match xs,hl with
 | x::xs,hl =>
  have hcs':cs.length=off + (k.sz + k'.sz):=hcs;have h0:=hf 0 f rfl
  rw [ho,hc] at h0
  obtain ⟨a,ha,ga⟩:=h.out h0 (fun m hm=>hw m (by simp only [List.map_cons,DataW.weightsEach]; exact List.mem_append_left _ hm));obtain ⟨b,hb,gb⟩:=hr.out (cs:=cs) (xs:=xs) (by simpa using hl) (fun i q hq=>hf (i + 1) q hq) (fun m hm=>hw m (by simp only [List.map_cons,DataW.weightsEach] at hm ⊢; exact List.mem_append_right _ hm)) (by omega);refine ⟨(a,b),⟨_,_,?_,ha,hb⟩,ga,gb⟩
  rw [← List.drop_drop,List.take_append_drop]⟩
theorem nM {α:Type} {k:Ty α} {G:α→Prop} {fs:Array Field} (ht:P.underlying t=some (.struct fs)) (h:pq P fs.toList 0 k G) (hc:P.cellsOf t=k.sz):gH P t k G:=⟨fun {H enc w base spare held fuel cs x} hx hn=>by
 obtain ⟨xs,n,_,rfl,hl,hlen,hf⟩:=DataW.trod_struct ht hx;obtain ⟨a,ha,ga⟩:=h.out (cs:=cs) (xs:=xs) (by simpa using hlen) (fun i f hi=>hf i f (by simpa using hi)) (fun m hm=>hn m (by simp only [DataW.weights,ht]; exact hm)) (by omega);exact ⟨a,by simpa using ha,ga⟩⟩
theorem sM {α β:Type} {k:Ty α} {G:α→Prop} (h:gH P t k G) (g:β→α) (f:α→β) (hgf:∀ a,g (f a)=a):gH P t (k.iso g) (fun b=>G (g b)):=⟨fun hx hn=>by
 obtain ⟨a,ha,ga⟩:=h.out hx hn;exact ⟨f a,by show k.rd _ (g (f a)) _; rw [hgf]; exact ha,by rw [hgf]; exact ga⟩⟩
theorem ou {α:Type} {k:Ty α} {G:α→Prop} {e:TypeId} {B:Nat} (ht:P.underlying t=some (.slice e)) (ho:gH P e k G) (hc:P.cellsOf e=k.sz) (hpos:0 < k.sz) (hb:P.bytesOf e=B) :
  gH P t (bv e k) (fun l=>(∀ x ∈ l,G x)∧l.length * B≤140737488351232):=by
 subst hb;exact zX ht ho hc hpos
theorem xE {α:Type} {k:Ty α} {G:α→Prop} (ho:gH P t k G) {fs:Array Field} (hs:P.underlying t=some (.struct fs)) {H:Type} {enc:TypeId×Value→H} {w w':World} {r:Reach} {b0 base:Nat} {spare:Nat→Bool} {held:Bool} {v:Value} {d:DataW H} {p:List MemPlace}
  (hv:Value.okWide P w' r b0 t v) (hd:DataW.Trod enc P w base spare held t v d p) (hw:∀ n ∈ DataW.weights P t d,n≤reachBytes):∃ a cs,v = .agg cs∧k.rd (hp w) a cs.toList∧G a:=by
 obtain ⟨cs,rfl,_⟩:=Go.WideShapes.okWide_struct hs hv;obtain ⟨fuel,hf⟩:=hd;obtain ⟨a,h1,h2⟩:=ho.out hf hw;exact ⟨a,cs,rfl,h1,h2⟩
end
end Go.Proofs.YtmfgddafcgflaaaE
