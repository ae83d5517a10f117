import Derived.Test.YtfpeabnehpclnaaGreatDoorR
import Derived.MapKept
import Derived.WideLaws
import Derived.RangeFuncRecord
import Derived.RangeFuncIn
import Derived.RangeFuncLeaves
import Derived.Lib.TrailingZeros
import Derived.Lib.AppendZerosOnto
import Derived.Lib.Overlaps
namespace Go.Proofs.YtfpeabnehpclnaaGreatDoorE
open Go
set_option linter.unusedVariables false
set_option linter.unusedSimpArgs false
def DV {α:Type} (k:Ty α):Ty (α ⊕ List Value) where
 sz:=k.sz
 own:=fun H F x cs=>match x with
  | .inl a=>k.own H F a cs
  | .inr c=>cs=c∧c.length=k.sz∧∀ v ∈ c,v.oneCell'=true
 rd:=fun H x cs=>match x with
  | .inl a=>k.rd H a cs
  | .inr c=>cs=c∧c.length=k.sz∧∀ v ∈ c,v.oneCell'=true
 own_mono:=by
  rintro H F F' (x | x) cs h hF
  ·exact k.own_mono h hF
  ·exact h
 own_congr:=by
  rintro H H' F (x | x) cs h hF
  ·exact k.own_congr h hF
  ·exact h
 own_rd:=by
  rintro H F (x | x) cs h
  ·exact k.own_rd h
  ·exact h
 rd_mono:=by
  rintro H H' (x | x) cs h hs
  ·exact k.rd_mono h hs
  ·exact h
 rd_len:=by
  rintro H (x | x) cs h
  ·exact k.rd_len h
  ·rw [h.1]; exact h.2.1
 rd_one:=by
  rintro H (x | x) cs h
  ·exact k.rd_one h
  ·rw [h.1]; exact h.2.2
instance {α:Type} [Inhabited α]:Inhabited (α ⊕ List Value):=⟨.inl default⟩
section
variable {α:Type} {k:Ty α} {H:BM}
theorem Be:∀ {xs:List α} {F:Nat→Prop} {cs:List Value},bX k H F xs cs→bX (DV k) H F (xs.map Sum.inl) cs
 | [],_,_,h=>h
 | _::_,_,_,⟨c1,c2,F1,F2,e,h1,h2,h3,h4,h5⟩=>⟨c1,c2,F1,F2,e,h1,h2,h3,h4,Be h5⟩
theorem Dz:∀ {xs:List α} {F:Nat→Prop} {cs:List Value},bX (DV k) H F (xs.map Sum.inl) cs→bX k H F xs cs
 | [],_,_,h=>h
 | _::_,_,_,⟨c1,c2,F1,F2,e,h1,h2,h3,h4,h5⟩=>⟨c1,c2,F1,F2,e,h1,h2,h3,h4,Dz h5⟩
theorem JY:∀ {L:List bV} {H:BM} {F:Nat→Prop} {i:Nat} {a a1 a2:bV},sep L H F→L[i]? = some a →
  (∀ F,a.Own H F→∃ G1 G2,(∀ b,G1 b→F b)∧(∀ b,G2 b→F b)∧(∀ b,G1 b → ¬ G2 b)∧a1.Own H G1∧a2.Own H G2)→sep (a1::L.set i a2) H F
 | [],_,_,_,_,_,_,_,hi,_=>by simp at hi
 | a::l,H,F,0,a0,a1,a2,⟨F1,F2,h1,h2,h3,h4,h5⟩,hi,hs=>by
  simp only [List.getElem?_cons_zero,Option.some.injEq] at hi
  subst hi;obtain ⟨G1,G2,g1,g2,g3,g4,g5⟩:=hs F1 h4;refine ⟨G1,fun b=>G2 b∨F2 b,fun b h=>h1 b (g1 b h),fun b h=>h.elim (fun h=>h1 b (g2 b h)) (h2 b),?_,g4,G2,F2,fun _ h => .inl h,fun _ h => .inr h,fun b h=>h3 b (g2 b h),g5,h5⟩;rintro b hb (h | h)
  ·exact g3 b hb h
  ·exact h3 b (g1 b hb) h
 | a::l,H,F,i + 1,a0,a1,a2,⟨F1,F2,h1,h2,h3,h4,h5⟩,hi,hs=>by
  obtain ⟨G1,G2,g1,g2,g3,g4,g5⟩:=JY (i:=i) h5 (by simpa using hi) hs;refine ⟨G1,fun b=>F1 b∨G2 b,fun b h=>h2 b (g1 b h),fun b h=>h.elim (h1 b) (fun h=>h2 b (g2 b h)),?_,g4,F1,G2,fun _ h => .inl h,fun _ h => .inr h,fun b h h'=>h3 b h (g2 b h'),h4,g5⟩;rintro b hb (h | h)
  ·exact h3 b h (g1 b hb)
  ·exact g3 b hb h
end
section
variable {M:Mem} {w:World} {L:List bV}
theorem Inv.part {i:Nat} {a a1 a2:bV} (h:Inv M w L) (hi:L[i]? = some a)
  (hs:∀ F,a.Own (hp w) F→∃ G1 G2,(∀ b,G1 b→F b)∧(∀ b,G2 b→F b)∧(∀ b,G1 b → ¬ G2 b)∧a1.Own (hp w) G1∧a2.Own (hp w) G2):Inv M w (a1::L.set i a2) :=
 ⟨h.fix,h.size,h.os,h.tape,h.output,JY h.sep hi hs⟩
open Classical in
theorem Inv.lend {a:bV} (h:Inv M w L) (i:Nat) (hi:L[i]? = some a) :
  ∃ (M':Mem) (F:Nat→Prop),Sub M.blk M'.blk∧(∀ w' L',Inv M' w' L'→Inv M w' (a::L'))∧a.Own M'.blk F∧Inv M' w (L.set i Sq):=by
 obtain ⟨F1,F2,h1,h2,h3,hown,hsep⟩:=h.sep.take hi;have hat:∀ b,F1 b→(if F1 b then hp w b else M.blk b)=hp w b:=fun b hb=>if_pos hb;have hsome:∀ b,F1 b→∃ o,hp w b=some o:=fun b hb=>by
  have:=(h1 b hb).2;exact ⟨w.heap[b],by simp [hp,this]⟩
 have hsub:Sub M.blk (fun b=>if F1 b then hp w b else M.blk b):=fun b o hb=>by
  show (if F1 b then hp w b else M.blk b)=some o
  split
  ·exact h.fix b o hb
  ·exact hb
 refine ⟨{ M with blk:=fun b=>if F1 b then hp w b else M.blk b,n:=w.heap.size },F1,hsub,?_,hown.congr hat,?_⟩
 ·intro w' L' h';have hsz:w.heap.size≤w'.heap.size:=h'.size;refine ⟨fun b o hb=>h'.fix b o (hsub b o hb),Nat.le_trans h.size hsz,h'.os,h'.tape,h'.output,F1,fun b=>(if F1 b then hp w b else M.blk b)=none∧b < w'.heap.size,fun b hb=>⟨(h1 b hb).1,Nat.lt_of_lt_of_le (h1 b hb).2 hsz⟩,fun b hb=>⟨?_,hb.2⟩,fun b hb hb' => ?_,hown.congr fun b hb => ?_,h'.sep⟩
  ·have h0:=hb.1
   split at h0
   ·rename_i hF
    exact (h1 b hF).1
   ·exact h0
  ·have h0:=hb'.1
   rw [hat b hb] at h0
   obtain ⟨o,ho⟩:=hsome b hb
   rw [ho] at h0
   cases h0
  ·obtain ⟨o,ho⟩:=hsome b hb
   rw [ho]
   exact h'.fix b o (by show (if F1 b then hp w b else M.blk b)=some o; rw [hat b hb,ho])
 ·refine ⟨fun b o hb => ?_,Nat.le_refl _,h.os,h.tape,h.output,hsep.mono fun b hb=>⟨?_,(h2 b hb).2⟩⟩
  ·have hb:(if F1 b then hp w b else M.blk b)=some o:=hb
   split at hb
   ·exact hb
   ·exact h.fix b o hb
  ·show (if F1 b then hp w b else M.blk b)=none
   rw [if_neg (fun hF=>h3 b hF hb)]
   exact (h2 b hb).1
end
end Go.Proofs.YtfpeabnehpclnaaGreatDoorE
namespace Go.Proofs.YtfpeabnehpclnaaGreatDoorE
open Go
set_option linter.unusedVariables false
set_option linter.unusedSimpArgs false
set_option linter.unusedSectionVars false
def kC {κ ν:Type} [DecidableEq κ] (m:List (κ×ν)) (x:κ):Bool:=m.any (fun p=>decide (p.1=x))
def mat {κ ν:Type} [DecidableEq κ] [Inhabited ν]:List (κ×ν)→κ→ν
 | [],_=>default
 | p::m,x=>if p.1=x then p.2 else mat m x
def gG {κ ν:Type} [DecidableEq κ]:List (κ×ν)→κ→ν→List (κ×ν)
 | [],x,y=>[(x,y)]
 | p::m,x,y=>if p.1=x then (x,y)::m else p::gG m x y
def DT {κ ν:Type} [DecidableEq κ]:List (κ×ν)→κ→List (κ×ν)
 | [],_=>[]
 | p::m,x=>if p.1=x then m else p::DT m x
def yG (es:Array MapEntry) (clock:Nat):Prop:=(es.toList.map (·.born)).Nodup∧∀ x ∈ es.toList.map (·.born),x < clock
theorem yG.nil {c:Nat}:yG #[] c:=⟨List.nodup_nil,fun _ h=>by cases h⟩
theorem yG.push {es:Array MapEntry} {clock:Nat} (h:yG es clock) {e:MapEntry} (he:e.born=clock):yG (es.push e) (clock + 1):=by
 constructor
 ·rw [Array.toList_push,List.map_append,List.nodup_append]
  refine ⟨h.1,by simp,fun a ha b hb => ?_⟩
  have h1:=h.2 a ha
  simp only [List.map_cons,List.map_nil,List.mem_singleton] at hb
  omega
 ·intro x hx
  rw [Array.toList_push,List.map_append] at hx
  rcases List.mem_append.1 hx with hx | hx
  ·have:=h.2 x hx; omega
  ·simp only [List.map_cons,List.map_nil,List.mem_singleton] at hx
   omega
theorem yG.same {es es':Array MapEntry} {clock:Nat} (h:yG es clock) (he:es'.toList.map (·.born)=es.toList.map (·.born)):yG es' clock:=by
 unfold yG
 rw [he]
 exact h
theorem yG.sub {es es':Array MapEntry} {clock:Nat} (h:yG es clock) (he:(es'.toList.map (·.born)).Sublist (es.toList.map (·.born))):yG es' clock :=
 ⟨h.1.sublist he,fun x hx=>h.2 x (he.subset hx)⟩
def DU {κ ν:Type} (ek:κ→Value) (ev:ν→Value) (b:Nat) (m:List (κ×ν)):bV :=
 .any (fun H F=>F b∧∃ es clock,H b=some (.map es clock)∧es.toList.map (fun e=>(e.key,e.val))=m.map (fun p=>(ek p.1,ev p.2))∧yG es clock)
  (fun h hF=>⟨hF _ h.1,h.2⟩) (fun h hF=>⟨h.1,by rw [hF _ h.1]; exact h.2⟩)
def jr {κ ν:Type} (ek:κ→Value) (ev:ν→Value) (H:BM) (b:Nat) (m:List (κ×ν)):Prop :=
 ∃ es clock,H b=some (.map es clock)∧es.toList.map (fun e=>(e.key,e.val))=m.map (fun p=>(ek p.1,ev p.2))∧yG es clock
theorem jr.mono {κ ν:Type} {ek:κ→Value} {ev:ν→Value} {H H':BM} {b:Nat} {m:List (κ×ν)} (h:jr ek ev H b m) (hs:Sub H H'):jr ek ev H' b m:=by
 obtain ⟨es,clock,h1,h2⟩:=h;exact ⟨es,clock,hs _ _ h1,h2⟩
structure FX (P:Program) (kt:TypeId) {κ:Type} [DecidableEq κ] (ek:κ→Value):Prop where
 check:∀ (w:World) (em:Bool) (x:κ),(Instr.checkKey em 10000 kt (ek x)).run P w = .ok () w
 find:∀ (w:World) (x:κ) (es:List MapEntry) (ks:List κ),es.map (·.key)=ks.map ek →
  ((Instr.findKey kt (ek x) es).run P w = .ok none w∧∀ k ∈ ks,k≠x) ∨
  ∃ j e,(Instr.findKey kt (ek x) es).run P w = .ok (some (j,e.val)) w∧es[j]? = some e∧ks[j]? = some x∧∀ i k,i < j→ks[i]? = some k→k≠x
 stays:∀ (w:World) (x:κ),(Instr.keyThatStays (ek x) (ek x)).run P w = .ok (ek x) w
theorem Cj {d:TypeDesc} {κ:Type} (ek:κ→Value) (hinj:∀ a b,ek a=ek b→a=b) (hk:∀ x,MapKept.IsKey d (ek x)) (x:κ):∀ (es:List MapEntry) (ks:List κ) (i:Nat),es.map (·.key)=ks.map ek →
  (Instr.findNow d (ek x) es i=some none∧∀ k ∈ ks,k≠x)∨∃ j e,Instr.findNow d (ek x) es i=some (some (i + j,e.val))∧es[j]? = some e∧ks[j]? = some x∧∀ i k,i < j→ks[i]? = some k→k≠x
 | [],[],_,_ => .inl ⟨rfl,by simp⟩
 | [],_::_,_,h=>by simp at h
 | _::_,[],_,h=>by simp at h
 | e::es,k::ks,i,h=>by
  simp only [List.map_cons,List.cons.injEq] at h
  obtain ⟨hek,h⟩:=h;obtain ⟨r,hr,hiff⟩:=MapKept.sameNow_of_keys (d:=d) (hk x) (hk k)
  rw [← hek] at hr hiff
  cases r with
  | true =>
   have hx:x=k:=hinj _ _ ((hiff.1 rfl).trans hek);subst hx;exact .inr ⟨0,e,by simp [Instr.findNow,hr],rfl,rfl,fun i _ hi=>by omega⟩
  | false =>
   have hne:k≠x:=fun q=>by subst q; have:=hiff.2 hek.symm; cases this
   rcases Cj ek hinj hk x es ks (i + 1) h with ⟨h1,h2⟩ | ⟨j,e',h1,h2,h3,h4⟩
   ·exact .inl ⟨by simp [Instr.findNow,hr,h1],fun q hq=>by
     cases hq with
     | head=>exact hne
     | tail _ hq=>exact h2 q hq⟩
   ·refine .inr ⟨j + 1,e',by simp [Instr.findNow,hr,h1]; omega,by simpa using h2,by simpa using h3,fun q k' hq hk' => ?_⟩
    cases q with
    | zero=>cases hk'; exact hne
    | succ q=>exact h4 q k' (by omega) (by simpa using hk')
theorem Gz {P:Program} {kt:TypeId} {d:TypeDesc} (hd:P.underlying kt=some d) {κ:Type} [DecidableEq κ] (ek:κ→Value) (hinj:∀ a b,ek a=ek b→a=b) (hk:∀ x,MapKept.IsKey d (ek x)):FX P kt ek where
 check:=fun w em x=>MapKept.run_checkKey hd (hk x) em 9999
 find:=fun w x es ks h=>by
  rcases Cj ek hinj hk x es ks 0 h with ⟨h1,h2⟩ | ⟨j,e,h1,h2,h3,h4⟩
  ·exact .inl ⟨MapKept.run_findKey hd h1,h2⟩
  ·exact .inr ⟨j,e,by rw [Nat.zero_add] at h1; exact MapKept.run_findKey hd h1,h2,h3,h4⟩
 stays:=fun w x=>MapKept.run_keyThatStays (hk x)
theorem gY {P:Program} {kt:TypeId} {q:IntKind} (hd:P.underlying kt=some (.int q)):FX P kt (fun x:Int => .int q x) :=
 Gz hd _ (fun a b h=>by cases h; rfl) (fun x=>by simp [MapKept.IsKey])
theorem Ck {P:Program} {kt:TypeId} (hd:P.underlying kt=some .string):FX P kt (fun x:ByteArray => .string x) :=
 Gz hd _ (fun a b h=>by cases h; rfl) (fun x=>by simp [MapKept.IsKey])
section
variable {κ ν:Type} [DecidableEq κ] {ek:κ→Value} {ev:ν→Value}
theorem xU [Inhabited ν]:∀ {m:List (κ×ν)} {x:κ},(∀ k ∈ m.map (·.1),k≠x)→mat m x=default∧kC m x=false
 | [],_,_=>⟨rfl,rfl⟩
 | p::m,x,h=>by
  have h1:p.1≠x:=h p.1 (by simp);have h2:=xU (m:=m) (x:=x) (fun k hk=>h k (by simp at hk ⊢; exact .inr hk));refine ⟨by rw [mat,if_neg h1]; exact h2.1,?_⟩
  have:=h2.2;unfold kC at this ⊢
  rw [List.any_cons,this,decide_eq_false h1]
  rfl
theorem Cm [Inhabited ν]:∀ {m:List (κ×ν)} {x:κ} {j:Nat} {y:ν},m[j]? = some (x,y)→(∀ i k,i < j→(m.map (·.1))[i]? = some k→k≠x)→mat m x=y∧kC m x=true
 | p::m,x,0,y,h,_=>by
  simp only [List.getElem?_cons_zero,Option.some.injEq] at h
  subst h;exact ⟨by rw [mat,if_pos rfl],by unfold kC; simp⟩
 | p::m,x,j + 1,y,h,hn=>by
  have h1:p.1≠x:=hn 0 p.1 (by omega) rfl;have h2:=Cm (m:=m) (x:=x) (j:=j) (y:=y) (by simpa using h) (fun i k hi hk=>hn (i + 1) k (by omega) (by simpa using hk));refine ⟨by rw [mat,if_neg h1]; exact h2.1,?_⟩
  have:=h2.2;unfold kC at this ⊢
  rw [List.any_cons,this,Bool.or_true]
theorem Ak:∀ {m:List (κ×ν)} {x:κ} {y:ν},(∀ k ∈ m.map (·.1),k≠x)→gG m x y=m++[(x,y)]
 | [],_,_,_=>rfl
 | p::m,x,y,h=>by
  have h1:p.1≠x:=h p.1 (by simp)
  rw [gG,if_neg h1,Ak (fun k hk=>h k (by simp at hk ⊢; exact .inr hk))]
  rfl
theorem Al:∀ {m:List (κ×ν)} {x:κ} {y:ν} {j:Nat},(m.map (·.1))[j]? = some x→(∀ i k,i < j→(m.map (·.1))[i]? = some k→k≠x)→gG m x y=m.set j (x,y)
 | p::m,x,y,0,h,_=>by
  simp only [List.map_cons,List.getElem?_cons_zero,Option.some.injEq] at h
  rw [gG,if_pos h]
  rfl
 | p::m,x,y,j + 1,h,hn=>by
  have h1:p.1≠x:=hn 0 p.1 (by omega) rfl
  rw [gG,if_neg h1,Al (j:=j) (by simpa using h) (fun i k hi hk=>hn (i + 1) k (by omega) (by simpa using hk))]
  rfl
end
section
variable {P:Program} {o:Oper} {ev_:Operand→Value} {K:Value→World→Prop} {w:World} {M:Mem} {L:List bV}
variable {κ ν:Type} [DecidableEq κ] {ek:κ→Value} {ev:ν→Value}
theorem Inv.mapAt (h:Inv M w L) (li:Nat) {b:Nat} {m:List (κ×ν)} (hL:L[li]? = some (DU ek ev b m)):jr ek ev (hp w) b m:=by
 obtain ⟨F1,_,hown⟩:=h.look hL;exact hown.2
theorem sW (κ ν:Type) (ek:κ→Value) (ev:ν→Value) (t:TypeId) (hop:o.op = .makeMap t none) (hI:Inv M w L) (h:∀ b w',Inv M w' (L++[DU ek ev b ([]:List (κ×ν))])→K (.map (some b)) w'):Eff P o ev_ w K:=by
 refine gX (.map (some w.heap.size)) (w':=w.alloc (.map #[] 0)) ?_ (h _ _ (hI.alloc _ ⟨rfl,#[],0,pg w _,rfl,yG.nil⟩))
 simp only [execOp,hop,Option.map_none]
 rfl
theorem Ir {m:List (κ×ν)} {es:List MapEntry} (h:es.map (fun e=>(e.key,e.val))=m.map (fun p=>(ek p.1,ev p.2))):es.map (·.key)=(m.map (·.1)).map ek:=by
 have:=congrArg (List.map Prod.fst) h
 simpa [List.map_map,Function.comp_def] using this
theorem Pn {m:List (κ×ν)} {es:List MapEntry} (h:es.map (fun e=>(e.key,e.val))=m.map (fun p=>(ek p.1,ev p.2))) {j:Nat} {e:MapEntry} (he:es[j]? = some e):∃ p,m[j]? = some p∧e.key=ek p.1∧e.val=ev p.2:=by
 have h1:(es.map (fun e=>(e.key,e.val)))[j]? = some (e.key,e.val):=by rw [List.getElem?_map,he]; rfl
 rw [h,List.getElem?_map] at h1
 cases hm:m[j]? with
 | none=>rw [hm] at h1; cases h1
 | some p =>
  rw [hm] at h1
  have h2:=Option.some.inj h1;exact ⟨p,rfl,(congrArg Prod.fst h2).symm,(congrArg Prod.snd h2).symm⟩
theorem jv [Inhabited ν] (t kt et:TypeId) (a x:Operand) (ok:Bool) (b:Nat) (m:List (κ×ν)) (k:κ) (hop:o.op = .lookup t a x ok) (ht:P.underlying t=some (.map kt et)) (hK:FX P kt ek) (hz:∀ w:World,(zeroValue et).run P w = .ok (ev default) w)
  (ha:ev_ a = .map (some b)) (hx:ev_ x=ek k) (hm:jr ek ev (hp w) b m) (h:K (bif ok then .tuple #[ev (mat m k),.bool (kC m k)] else ev (mat m k)) w):Eff P o ev_ w K:=by
 obtain ⟨es,clock,hb,hes,_⟩:=hm;have hb:w.heap[b]? = some (.map es clock):=hb;refine gX _ ?_ h;have hrun:(Instr.lookup t (.map (some b)) (ek k) ok).run P w = .ok (bif ok then .tuple #[ev (mat m k),.bool (kC m k)] else ev (mat m k)) w:=by
  rcases hK.find w k es.toList _ (Ir hes) with ⟨h1,h2⟩ | ⟨j,e,h1,h2,h3,h4⟩
  ·obtain ⟨e1,e2⟩:=xU h2
   rw [e1,e2]
   simp only [Instr.lookup,Sem.run_bind,bD ht,Result.andThen,MapKept.run_getObj_map hb,hK.check,h1,hz,pure,Sem.run]
   cases ok <;> rfl
  ·obtain ⟨p,a2,a3,a1⟩:=Pn hes h2;have hk':p.1=k:=by
    rw [List.getElem?_map,a2] at h3
    exact Option.some.inj h3
   obtain ⟨pk,pv⟩:=p;have hk':pk=k:=hk';subst hk';obtain ⟨e1,e2⟩:=Cm a2 h4
   rw [e1,e2]
   have a1:e.val=ev pv:=a1
   simp only [Instr.lookup,Sem.run_bind,bD ht,Result.andThen,MapKept.run_getObj_map hb,hK.check,h1,a1,pure,Sem.run]
   cases ok <;> rfl
 simp only [execOp,hop,ha,hx,Sem.run_bind,hrun,Result.andThen,Sem.run,pure]
theorem JW (t:TypeId) (ty:TypeId) (a:Operand) (b:Nat) (m:List (κ×ν)) (kt et:TypeId) (hop:o.op = .call { callee := .builtin .len,args := #[a],argTypes := #[t] }) (hty:o.type=ty) (ht:P.underlying t=some (.map kt et)) (ha:ev_ a = .map (some b)) (hm:jr ek ev (hp w) b m)
  (h:K (.int .i64 (m.length:Int)) w):Eff P o ev_ w K:=by
 obtain ⟨es,clock,hb,hes,_⟩:=hm;have hb:w.heap[b]? = some (.map es clock):=hb;have hlen:es.size=m.length:=by
  have:=congrArg List.length hes
  simpa using this
 refine gX _ ?_ h;have ht':P.underlying t=some (.map (P.mapKeyOf t) (P.mapElemOf t)):=by rw [ht]; simp [Program.mapKeyOf,Program.mapElemOf,ht]
 have hrun:=run_len_map (P:=P) w t o.type b es clock ht' hb
 rw [hlen] at hrun
 have hargs:(#[a].map ev_:Array Value) = #[.map (some b)]:=by simp [ha]
 simp only [execOp,hop,resolve,invoke,builtin,Sem.run_bind,Sem.run,pure,Result.andThen,hargs,hrun]
 rfl
theorem wy (t kt et:TypeId) (a x y:Operand) (li b:Nat) (m:List (κ×ν)) (k:κ) (v:ν) (hop:o.op = .mapUpdate t a x y) (ht:P.underlying t=some (.map kt et)) (hK:FX P kt ek)
  (ha:ev_ a = .map (some b)) (hx:ev_ x=ek k) (hy:ev_ y=ev v) (hI:Inv M w L) (hL:L[li]? = some (DU ek ev b m)) (h:∀ w',Inv M w' (L.set li (DU ek ev b (gG m k v)))→K undef w'):Eff P o ev_ w K:=by
 obtain ⟨F1,a3,hFb,es,clock,hb,hes,hbn⟩:=hI.look hL;have hb:w.heap[b]? = some (.map es clock):=hb;have hlt:b < w.heap.size:=(Array.getElem?_eq_some_iff.1 hb).1;have key:∃ o',(Instr.mapUpdate t (.map (some b)) (ek k) (ev v)).run P w = .ok () { w with heap:=w.heap.setIfInBounds b o' }∧∃ es' clock',o' = .map es' clock'∧es'.toList.map (fun e=>(e.key,e.val))=(gG m k v).map (fun p=>(ek p.1,ev p.2))∧yG es' clock':=by
  rcases hK.find w k es.toList _ (Ir hes) with ⟨h1,h2⟩ | ⟨j,e,h1,h2,h3,h4⟩
  ·refine ⟨_,?_,es.push { key:=ek k,val:=ev v,born:=clock },clock + 1,rfl,?_⟩
   ·simp only [Instr.mapUpdate,Sem.run_bind,bD ht,Result.andThen,MapKept.run_getObj_map hb,hK.check,h1,MapKept.run_setObj_map _ hb,pure,Sem.run]
   ·refine ⟨?_,hbn.push rfl⟩
    rw [Ak h2,Array.toList_push,List.map_append,hes,List.map_append]
    rfl
  ·obtain ⟨p,a1,a2,a4⟩:=Pn hes h2;have hj:es[j]? = some e:=by simpa using h2
   have hk':p.1=k:=by
    rw [List.getElem?_map,a1] at h3
    exact Option.some.inj h3
   have hek:e.key=ek k:=by rw [a2,hk']
   refine ⟨_,?_,es.modify j (fun e=>{ e with key:=ek k,val:=ev v }),clock,rfl,?_⟩
   ·simp only [Instr.mapUpdate,Sem.run_bind,bD ht,Result.andThen,MapKept.run_getObj_map hb,hK.check,h1,hj,Option.map_some,Option.getD_some,hek,hK.stays,MapKept.run_setObj_map _ hb,pure,Sem.run]
   ·refine ⟨?_,hbn.same ?_⟩
    rotate_left
    ·apply List.ext_getElem?
     intro i
     rw [List.getElem?_map,List.getElem?_map,Array.getElem?_toList,Array.getElem?_modify,Array.getElem?_toList]
     by_cases e':j=i
     ·subst e'
      rw [if_pos rfl]
      cases es[j]? <;> rfl
     ·rw [if_neg e']
    rw [Al h3 h4,List.map_set,← hes]
    apply List.ext_getElem?
    intro i;have hjl:j < es.toList.length:=(List.getElem?_eq_some_iff.1 h2).1
    rw [List.getElem?_map,Array.getElem?_toList,Array.getElem?_modify,List.getElem?_set,List.length_map]
    by_cases e':j=i
    ·subst e'
     rw [if_pos rfl,if_pos rfl,if_pos hjl,hj]
     rfl
    ·rw [if_neg e',if_neg e',List.getElem?_map,Array.getElem?_toList]
 obtain ⟨o',hrun,es',clock',rfl,hes',hbn'⟩:=key;refine Ce (w':={ w with heap:=w.heap.setIfInBounds b (.map es' clock') }) ?_ (h _ ?_)
 ·simp only [execOp,hop,ha,hx,hy,Sem.run_bind,hrun,Result.andThen,Sem.run,pure]
 ·have hset:=MapKept.heap_set (w:=w) (o' := .map es' clock') hb;refine hI.turn hL (w':={ w with heap:=w.heap.setIfInBounds b (.map es' clock') }) (by simp) rfl rfl rfl ?_;rintro F hF ⟨hFb',_⟩;exact ⟨F,⟨hFb',es',clock',hset.1,hes',hbn'⟩,fun b2 _ hn=>hset.2 b2 (fun e=>hn (e ▸ hFb')),fun _ h => .inl h⟩
theorem GA:∀ {m:List (κ×ν)} {x:κ},(∀ k ∈ m.map (·.1),k≠x)→DT m x=m
 | [],x,_=>rfl
 | p::m,x,h=>by
  rw [DT,if_neg (h p.1 (by simp)),GA (fun k hk=>h k (List.mem_cons_of_mem _ hk))]
theorem GD:∀ {m:List (κ×ν)} {x:κ} {j:Nat},(m.map (·.1))[j]? = some x→(∀ i k,i < j→(m.map (·.1))[i]? = some k→k≠x)→DT m x=m.eraseIdx j
 | p::m,x,0,h,_=>by
  simp only [List.map_cons,List.getElem?_cons_zero,Option.some.injEq] at h
  rw [DT,if_pos h]
  rfl
 | p::m,x,j + 1,h,hn=>by
  have h1:p.1≠x:=hn 0 p.1 (by omega) rfl
  rw [DT,if_neg h1,GD (j:=j) (by simpa using h) (fun i k hi hk=>hn (i + 1) k (by omega) (by simpa using hk))]
  rfl
theorem uY {α β:Type} (f:α→β):∀ (l:List α) (j:Nat),(l.eraseIdx j).map f=(l.map f).eraseIdx j
 | [],_=>rfl
 | _::_,0=>rfl
 | x::l,j + 1=>by simp [uY f l j]
theorem Po (t kt et:TypeId) (a x:Operand) (tk:TypeId) (li b:Nat) (m:List (κ×ν)) (k:κ) (hop:o.op = .call { callee := .builtin .delete,args := #[a,x],argTypes := #[t,tk] }) (ht:P.underlying t=some (.map kt et)) (hK:FX P kt ek)
  (ha:ev_ a = .map (some b)) (hx:ev_ x=ek k) (hI:Inv M w L) (hL:L[li]? = some (DU ek ev b m)) (h:∀ w',Inv M w' (L.set li (DU ek ev b (DT m k)))→K (.tuple #[]) w'):Eff P o ev_ w K:=by
 obtain ⟨F1,a1,hFb,es,clock,hb,hes,hbn⟩:=hI.look hL;have hb:w.heap[b]? = some (.map es clock):=hb;have key:∃ o',(Builtin.delete_ #[t,tk] o.type #[.map (some b),ek k]).run P w = .ok (.tuple #[]) { w with heap:=w.heap.setIfInBounds b o' }∧∃ es' clock',o' = .map es' clock'∧es'.toList.map (fun e=>(e.key,e.val))=(DT m k).map (fun p=>(ek p.1,ev p.2))∧yG es' clock':=by
  rcases hK.find w k es.toList _ (Ir hes) with ⟨h1,h2⟩ | ⟨j,e,h1,h2,h3,h4⟩
  ·refine ⟨_,?_,es,clock,rfl,by rw [GA h2]; exact hes,hbn⟩
   simp only [Builtin.delete_,List.getElem?_toArray,List.getElem?_cons_zero,List.getElem?_cons_succ,Sem.run_bind,bD ht,Result.andThen,MapKept.run_getObj_map hb,hK.check,h1,MapKept.run_setObj_map _ hb,pure,Sem.run]
  ·refine ⟨_,?_,es.eraseIdxIfInBounds j,clock,rfl,?_⟩
   ·simp only [Builtin.delete_,List.getElem?_toArray,List.getElem?_cons_zero,List.getElem?_cons_succ,Sem.run_bind,bD ht,Result.andThen,MapKept.run_getObj_map hb,hK.check,h1,MapKept.run_setObj_map _ hb,pure,Sem.run]
   ·have hjl:j < es.toList.length:=(List.getElem?_eq_some_iff.1 h2).1;have he:(es.eraseIdxIfInBounds j).toList=es.toList.eraseIdx j:=by
     unfold Array.eraseIdxIfInBounds
     rw [dif_pos (by simpa using hjl),Array.toList_eraseIdx]
    refine ⟨?_,hbn.sub ?_⟩
    ·rw [GD h3 h4,uY,← hes,← uY,he]
    ·rw [he,uY]
     exact List.eraseIdx_sublist _ _
 obtain ⟨o',hrun,es',clock',rfl,hes',hbn'⟩:=key;refine gX (.tuple #[]) (w':={ w with heap:=w.heap.setIfInBounds b (.map es' clock') }) ?_ (h _ ?_)
 ·have hargs:(#[a,x].map ev_:Array Value) = #[.map (some b),ek k]:=by simp [ha,hx]
  simp only [execOp,hop,resolve,invoke,builtin,Sem.run_bind,Sem.run,pure,Result.andThen,hargs,hrun]
 ·have hset:=MapKept.heap_set (w:=w) (o' := .map es' clock') hb;refine hI.turn hL (w':={ w with heap:=w.heap.setIfInBounds b (.map es' clock') }) (by simp) rfl rfl rfl ?_;rintro F hF ⟨hFb',_⟩;exact ⟨F,⟨hFb',es',clock',hset.1,hes',hbn'⟩,fun b2 _ hn=>hset.2 b2 (fun e=>hn (e ▸ hFb')),fun _ h => .inl h⟩
end
end Go.Proofs.YtfpeabnehpclnaaGreatDoorE
namespace Go.Proofs.YtfpeabnehpclnaaGreatDoorE
open Go
set_option linter.unusedVariables false
set_option linter.unusedSimpArgs false
set_option linter.unusedSectionVars false
def qI (b:Nat) (o:Obj):bV := .any (fun H F=>F b∧H b=some o) (fun h hF=>⟨hF _ h.1,h.2⟩) (fun h hF=>⟨h.1,by rw [hF _ h.1]; exact h.2⟩)
section
variable {M:Mem} {w:World} {L:List bV} {P:Program}
theorem Inv.objAt (h:Inv M w L) (li:Nat) {b:Nat} {o:Obj} (hL:L[li]? = some (qI b o)):w.heap[b]? = some o:=by
 obtain ⟨F1,_,hown⟩:=h.look hL;exact hown.2
theorem Inv.objNew (h:Inv M w L) (o:Obj):Inv M (w.alloc o) (L++[qI w.heap.size o]):=h.alloc o ⟨rfl,pg w _⟩
theorem Inv.objPut (h:Inv M w L) (li:Nat) {b:Nat} {o:Obj} (o':Obj) (hL:L[li]? = some (qI b o)):Inv M (w.putObj b o') (L.set li (qI b o')):=by
 have hb:=h.objAt li hL;have hset:=MapKept.heap_set (w:=w) (o':=o') hb;refine h.turn hL (w':=w.putObj b o') (by simp [World.putObj]) rfl rfl rfl ?_;rintro F hF ⟨hFb,_⟩;exact ⟨F,⟨hFb,hset.1⟩,fun b2 _ hn=>hset.2 b2 (fun e=>hn (e ▸ hFb)),fun _ h => .inl h⟩
def Io (P:Program) (l:Nat) (args:Array Value) (w:World) (R:Value→World→Prop):Prop :=
 ∃ g tmps assign body,(Instr.yield l args).run P w = .ok (.round l g tmps assign body) w∧Di P l g tmps assign body w R
theorem Di.mono {l:Nat} {g:FuncId} {tmps:Array Value} {assign body:Code} {R R':Value→World→Prop} (h:Di P l g tmps assign body w R) (hR:∀ v w,R v w→R' v w):Di P l g tmps assign body w R':=by
 intro c cs;obtain ⟨v,w',h1,h2⟩:=h c cs;exact ⟨v,w',hR v w' h1,h2⟩
end
section
variable {E:Env} {k:List Item} {f:Nat→Value} {w:World} {M:Mem} {L:List bV} {ops:Array Oper}
theorem RA {R:Value→World→Prop} (i:Nat) (o:Oper) (hn:nth ops.toList i=some o) (hw:wants E.N ops f o=true) (l:Nat) (args:Array Value) (x:Operand) (xs:Array Operand) (ts:Array TypeId)
  (hop:o.op = .call { callee := .value x,args:=xs,argTypes:=ts }) (hx:ev E.N f x = .func (.yield l) #[] #[]) (hxs:xs.map (ev E.N f)=args) (hY:Io E.P l args w R)
  (h:∀ v w',R v w'→GoO E ops (i + 1) k (qJ f o.dst v) w'):GoO E ops i k f w:=by
 obtain ⟨g,tmps,assign,body,hy,hr⟩:=hY;have ho:ops[i]? = some o:=by rw [Fz] at hn; simpa using hn
 have hrun:(execOp (ev E.N f) o).run E.P w = .ok (.round l g tmps assign body) w:=by
  simp only [execOp,hop,resolve,hx,hxs,Sem.run_bind,Deferred.ofValue,Sem.run,pure,Result.andThen,invoke,Array.empty_append,hy]
 unfold GoO
 rw [wo (xS ho)]
 exact go_round o ho hw hrun hr fun v w' hv=>h v w' hv
theorem Pi {P:Program} {l:Nat} {g:FuncId} {N:Nat} {tmps:Array Value} {assign body:Code} {R:Value→World→Prop} (ht:tmps=tm N f)
  (h:∀ c cs,Go ⟨P,g,N,c::cs,fun e w=>∃ v,e = .returned v∧R v w,[],some l⟩ [.code assign,.beginRound,.code body] f w):Di P l g tmps assign body w R:=by
 intro c cs;obtain ⟨m,hs,v,w',c',cs',hc,⟨v',hv,hR⟩,rfl⟩:=h c cs;cases hc;cases hv;refine ⟨v,w',hR,?_⟩;have e:Frame.round l g tmps assign body .normal=Frame.atR { (default:Frame) with fn:=g,kind := .normal,roundOf:=some l } ⟨tm N f,[]⟩ [.code assign,.beginRound,.code body]:=by
  simp [Frame.round,Frame.atR,ht]
 rw [e]
 exact hs
theorem JU {l:Nat} {r:Loop} (hro:E.ro=some l) (hI:Inv M w L) (li:Nat) (hL:L[li]? = some (qI l (.loop r))) (hr:r.state = .ready)
  (h:∀ w',Inv M w' (L.set li (qI l (.loop { r with state := .busy })))→Go E k f w'):Go E (.beginRound::k) f w :=
 .step (stepR_beginRound hro (run_beginRound (hI.objAt li hL) hr)) (h _ (hI.objPut li _ hL))
theorem Cg {l:Nat} {r:Loop} {c:Frame} {cs:List Frame} (hro:E.ro=some l) (hcs:E.cs=c::cs) (hI:Inv M w L) (li:Nat) (hL:L[li]? = some (qI l (.loop r)))
  (hR:∀ w',Inv M w' (L.set li (qI l (.loop { r with state := .ready,pending:=none })))→E.R (.returned (.bool true)) w'):Go E [] f w:=by
 have hs:=stepR_round_end (P:=E.P) (b:=E.b) (a:=E.fr f) (c:=c) (cs:=cs) (w:=w) hro rfl (run_endRound none (hI.objAt li hL))
 rw [← hcs] at hs
 refine ⟨_,Steps.one hs,?_⟩;unfold Env.End
 rw [hro]
 exact ⟨_,_,c,cs,hcs,hR _ (hI.objPut li _ hL),rfl⟩
theorem Ch {P:Program} {l:Nat} {r:Loop} (hI:Inv M w L) (li:Nat) (hL:L[li]? = some (qI l (.loop r))) (hb:r.state ≠ .busy) :
  ∃ w',(Instr.endLoop l).run P w = .ok r.pending w'∧Inv M w' (L.set li (qI l (.loop { r with state := .exhausted }))) :=
 ⟨_,run_endLoop (hI.objAt li hL) hb,hI.objPut li _ hL⟩
end
end Go.Proofs.YtfpeabnehpclnaaGreatDoorE
namespace Go.Proofs.YtfpeabnehpclnaaGreatDoorE
open Go
set_option linter.unusedVariables false
set_option linter.unusedSimpArgs false
set_option linter.unusedSectionVars false
def sEq (a b:ByteArray):Bool:=a.toList == b.toList
theorem JN (bs:ByteArray):bs.size=bs.data.toList.length:=by rw [Array.length_toList]; rfl
theorem Dw (bs:ByteArray):∀ (n i:Nat) (r:List UInt8),bs.size - i=n→ByteArray.toList.loop bs i r=r.reverse++bs.data.toList.drop i
 | n,i,r,h=>by
  unfold ByteArray.toList.loop
  split
  ·rename_i hi
   cases n with
   | zero=>omega
   | succ n =>
    rw [Dw bs n (i + 1) _ (by omega)]
    have hi':i < bs.data.toList.length:=by rw [← JN]; exact hi
    rw [List.drop_eq_getElem_cons hi']
    have hg:bs.get! i=bs.data.toList[i]:=by
     have h2:i < bs.data.size:=by simpa using hi'
     show bs.data[i]! = _
     rw [getElem!_pos bs.data i h2]
     simp
    simp [hg]
  ·rename_i hi
   have:bs.data.toList.length≤i:=by rw [← JN]; omega
   rw [List.drop_of_length_le this]
   simp
theorem toList_eq (bs:ByteArray):bs.toList=bs.data.toList:=by
 unfold ByteArray.toList
 rw [Dw bs _ 0 [] rfl]
 simp
theorem Rw {a b:ByteArray}:sEq a b=true↔a=b:=by
 unfold sEq
 rw [toList_eq,toList_eq,beq_iff_eq]
 constructor
 ·intro h;cases a;cases b
  simpa using h
 ·rintro rfl; rfl
theorem Cb {P:Program} {o:Oper} {ev_:Operand→Value} {K:Value→World→Prop} {w:World} {α:Type} (kt:Ty α) (t e:TypeId) (x:Operand) (lo hi:Option Operand) (inf:TypeInfo) (A:Option Addr) (c:Nat) (xs:List α) (kl kh:IntKind) (l h:Int) (hop:o.op = .slice t x lo hi none)
  (hx:ev_ x = .slice A xs.length c) (hlo:(lo.map ev_).getD (.int .i64 0) = .int kl l) (hhi:(hi.map ev_).getD (.int .i64 xs.length) = .int kh h)
  (ht:P.underlying t=some (.slice e)) (hi':P.info? e=some inf) (hsz:inf.size=kt.sz) (hc:xs.length≤c) (hb:0≤l∧l≤h∧h≤xs.length)
  (h:∀ A' c',(∀ H,rdS kt H A xs→rdS kt H A' (dW xs l h))→(dW xs l h).length≤c'→K (.slice A' (dW xs l h).length c') w):Eff P o ev_ w K:=by
 have hrun:=AO (w:=w) A xs.length c (lo.map ev_) (hi.map ev_) kl kh l _ ht hi' hlo hhi hb hc;refine gX _ (w':=w) ?_ (h _ (c - l.toNat) (fun H hr=>hr.sub hc hb hsz) ?_)
 ·simp only [execOp,hop,hx,Option.map_none,Sem.run_bind,hrun,Result.andThen,Sem.run,pure,zM hb]
 ·rw [zM hb]; omega
def KW {ι:Type} (p:ι→Prop) (L:ι→List bV):bV :=
 .any (fun H F=>∃ i,p i∧sep (L i) H F) (fun ⟨i,hp,h⟩ hF=>⟨i,hp,h.mono hF⟩) (fun ⟨i,hp,h⟩ hF=>⟨i,hp,h.congr hF⟩)
section
variable {M:Mem} {w:World} {L L0:List bV} {P:Program}
theorem Inv.unbag {ι:Type} {p:ι→Prop} {B:ι→List bV} (h:Inv M w (KW p B::L0)):∃ i,p i∧Inv M w (B i++L0):=by
 obtain ⟨F1,F2,h1,h2,h3,⟨i,hp,hs⟩,h5⟩:=h.sep;exact ⟨i,hp,h.fix,h.size,h.os,h.tape,h.output,(hs.append h5 h3).mono fun b hb=>hb.elim (h1 b) (h2 b)⟩
theorem Inv.tobag {ι:Type} {p:ι→Prop} {B:ι→List bV} (i:ι) (hp:p i) (h:Inv M w (B i++L0)):Inv M w (KW p B::L0):=by
 obtain ⟨F1,F2,h1,h2,h3,h4,h5⟩:=h.sep.split;exact ⟨h.fix,h.size,h.os,h.tape,h.output,F1,F2,h1,h2,h3,⟨i,hp,h4⟩,h5⟩
def rest (L:List bV):bV:=KW (fun _:Unit=>True) (fun _=>L)
theorem Inv.tails {a:bV} (h:Inv M w (a::L)):Inv M w [a,rest L]:=by
 obtain ⟨F1,F2,h1,h2,h3,h4,h5⟩:=h.sep;exact ⟨h.fix,h.size,h.os,h.tape,h.output,F1,F2,h1,h2,h3,h4,F2,fun _=>False,fun _ h=>h,fun _ h=>h.elim,fun _ _ h=>h,⟨(),trivial,h5⟩,trivial⟩
theorem Inv.untails {a:bV} (h:Inv M w [a,rest L]):Inv M w (a::L):=by
 obtain ⟨F1,F2,h1,h2,h3,h4,G1,G2,g1,_,_,⟨_,_,h5⟩,_⟩:=h.sep;exact ⟨h.fix,h.size,h.os,h.tape,h.output,F1,F2,h1,h2,h3,h4,h5.mono g1⟩
def RN (D:Nat):Deferred:={ target := .collected D,args := #[] }
def marks (Ds:List Nat):List Deferred:=Ds.map RN
def mI (Ds:List Nat):bV :=
 .any (fun H F=>Ds.Nodup∧∀ D ∈ Ds,F D∧H D=some (.deferred (some []))) (fun h hF=>⟨h.1,fun D hD=>⟨hF D (h.2 D hD).1,(h.2 D hD).2⟩⟩) (fun h hF=>⟨h.1,fun D hD=>⟨(h.2 D hD).1,(hF D (h.2 D hD).1).trans (h.2 D hD).2⟩⟩)
def Env.marks (E:Env) (Ds:List Nat):Env:={ E with ds:=Go.Proofs.YtfpeabnehpclnaaGreatDoorE.marks Ds }
theorem Inv.nomarks (h:Inv M w L):Inv M w (mI []::L) :=
 ⟨h.fix,h.size,h.os,h.tape,h.output,fun _=>False,_,fun _ h=>h.elim,fun _ h=>h,fun _ h=>h.elim,⟨List.nodup_nil,fun _ h=>by cases h⟩,h.sep⟩
theorem Inv.addmark {D:Nat} {Ds:List Nat} (h:Inv M w (qI D (.deferred (some []))::mI Ds::L)):Inv M w (mI (D::Ds)::L):=by
 obtain ⟨F1,F2,h1,h2,h3,hD,G1,G2,g1,g2,g3,hM,hL⟩:=h.sep;refine ⟨h.fix,h.size,h.os,h.tape,h.output,fun b=>F1 b∨G1 b,G2,fun b hb=>hb.elim (h1 b) (fun hb=>h2 b (g1 b hb)),fun b hb=>h2 b (g2 b hb),?_,⟨List.nodup_cons.2 ⟨fun hm => ?_,hM.1⟩,?_⟩,hL⟩
 ·rintro b (hb | hb) hg
  ·exact h3 b hb (g2 b hg)
  ·exact g3 b hb hg
 ·exact h3 D hD.1 (g1 D (hM.2 D hm).1)
 ·intro D' hm;rcases List.mem_cons.1 hm with rfl | hm
  ·exact ⟨.inl hD.1,hD.2⟩
  ·exact ⟨.inr (hM.2 D' hm).1,(hM.2 D' hm).2⟩
theorem Inv.unmark {D:Nat} {Ds:List Nat} (h:Inv M w (mI (D::Ds)::L)):Inv M w (qI D (.deferred (some []))::mI Ds::L):=by
 obtain ⟨F1,F2,h1,h2,h3,hM,hL⟩:=h.sep;obtain ⟨hn,hm⟩:=hM;obtain ⟨a1,a2⟩:=List.nodup_cons.1 hn;refine ⟨h.fix,h.size,h.os,h.tape,h.output,fun b=>b=D,fun b=>(F1 b∧b≠D)∨F2 b,fun b hb => ?_,fun b hb=>hb.elim (fun hb=>h1 b hb.1) (h2 b),?_,⟨rfl,(hm D List.mem_cons_self).2⟩,fun b=>F1 b∧b≠D,F2,fun _ h => .inl h,fun _ h => .inr h,fun b hb=>h3 b hb.1,⟨a2,fun D' hD' => ?_⟩,hL⟩
 ·subst hb; exact h1 _ (hm _ List.mem_cons_self).1
 ·rintro b rfl (hb | hb)
  ·exact hb.2 rfl
  ·exact h3 b (hm b List.mem_cons_self).1 hb
 ·exact ⟨⟨(hm D' (List.mem_cons_of_mem _ hD')).1,fun e=>a1 (e ▸ hD')⟩,(hm D' (List.mem_cons_of_mem _ hD')).2⟩
theorem Dx {fn:Func} {R:Ending→World→Prop}:∀ {Ds:List Nat} {w:World} {fr:Frame} {cs:List Frame},fr.mode = .returning→fr.kind = .normal→fr.roundOf=none→fr.defers=marks Ds→P.funcs[fr.fn]? = some fn→Inv M w (mI Ds::L) →
  (∀ w',Inv M w' L→∃ v,(results fn fr.tmps).run P w' = .ok v w'∧R (.returned v) w') →
  ∃ v w' fr',R (.returned v) w'∧Steps P (lone fr cs w) (lone fr' cs w')∧fr'.fn=fr.fn∧fr'.leaving P w' (.returned v)
 | [],w,fr,cs,hm,hk,hr,hd,hf,hI,h=>by
  obtain ⟨F1,F2,_,h2,_,_,hL⟩:=hI.sep;obtain ⟨v,hv,hR⟩:=h w ⟨hI.fix,hI.size,hI.os,hI.tape,hI.output,hL.mono h2⟩;exact ⟨v,w,fr,hR,Steps.refl _ _,rfl,hm,hd,hk,fn,hf,hv⟩
 | D::Ds,w,fr,cs,hm,hk,hr,hd,hf,hI,h=>by
  have h1:=hI.unmark;have s1:=step_collected (P:=P) (fr:=fr) (cs:=cs) (w:=w) (d:=RN D) (ds:=marks Ds) (r:=D) (calls:=[]) (by rw [hm]; intro h; cases h) hd rfl (run_takeDeferred (h1.objAt 0 rfl));have h2:Inv M (w.putObj D (.deferred none)) (qI D (.deferred none)::mI Ds::L):=h1.objPut 0 (.deferred none) rfl;have h3:Inv M (w.putObj D (.deferred none)) (mI Ds::L):=by
   obtain ⟨F1,F2,_,g2,_,_,hL⟩:=h2.sep;exact ⟨h2.fix,h2.size,h2.os,h2.tape,h2.output,hL.mono g2⟩
  obtain ⟨v,w',fr',hR,hs,hfn,hl⟩:=Dx (fr:={ fr with defers:=[]++marks Ds }) (cs:=cs) hm hk hr rfl hf h3 h;exact ⟨v,w',fr',hR,Steps.head s1 hs,hfn,hl⟩
end
section
variable {E:Env} {Ds:List Nat} {k:List Item} {f:Nat→Value} {w:World} {M:Mem} {L:List bV}
theorem Ii {fn:Func} (m:Machine) (hm:∃ fr,m=lone fr E.cs w∧fr.mode = .returning∧fr.kind = .normal∧fr.roundOf=none∧fr.defers=marks Ds∧fr.fn=E.fn∧fr.tmps=tm E.N f) (hro:E.ro=none) (hI:Inv M w (mI Ds::L)) (hf:E.P.funcs[E.fn]? = some fn)
  (h:∀ w',Inv M w' L→∃ v,(results fn (tm E.N f)).run E.P w' = .ok v w'∧E.R (.returned v) w'):∃ m',Steps E.P m m'∧E.End m':=by
 obtain ⟨fr,rfl,h1,h2,h3,h4,h5,h6⟩:=hm;obtain ⟨v,w',fr',hR,hs,hfn,hl⟩:=Dx (P:=E.P) (cs:=E.cs) h1 h2 h3 h4 (by rw [h5]; exact hf) hI (by rw [h6]; exact h);refine ⟨_,hs,?_⟩;unfold Env.End
 rw [hro]
 exact ⟨v,w',fr',hR,rfl,hfn.trans h5,hl⟩
theorem Cc {fn:Func} (hro:E.ro=none) (hI:Inv M w (mI Ds::L)) (hf:E.P.funcs[E.fn]? = some fn)
  (h:∀ w',Inv M w' L→∃ v,(results fn (tm E.N f)).run E.P w' = .ok v w'∧E.R (.returned v) w'):Go (E.marks Ds) (.code .ret::k) f w:=by
 obtain ⟨m,hs,he⟩:=Ii (E:=E) (f:=f) _ ⟨{ (E.marks Ds).b.atR ((E.marks Ds).fr f) (.code .ret::k) with mode := .returning },rfl,rfl,rfl,hro,rfl,rfl,rfl⟩ hro hI hf h;exact ⟨m,Steps.head (stepR_ret (b:=(E.marks Ds).b) (a:=(E.marks Ds).fr f) (P:=E.P) (k:=k) (cs:=E.cs) (w:=w) hro) hs,he⟩
theorem Pg {c:Code} {σ Ω:Type} (step:σ→Option (σ ⊕ Ω)) (St:σ→List Nat→(Nat→Value)→World→Prop) {o:Ω} {s:σ}
  (H:iter step s=some o) (h0:St s Ds f w)
  (round:∀ s Ds f w x,step s=some x→St s Ds f w→(∀ s',x = .inl s'→∀ Ds' f' w',St s' Ds' f' w'→Go (E.marks Ds') (.inLoop c::k) f' w')→(∀ ω,x = .inr ω→ω=o)→Go (E.marks Ds) (.code c :: .inLoop c::k) f w) :
  Go (E.marks Ds) (.code (.loop c)::k) f w:=by
 obtain ⟨n,hn⟩:=zV.1 H;refine go_loop ?_;clear H
 induction n generalizing s Ds f w with
 | zero=>cases hn
 | succ n ih =>
  simp only [ww] at hn
  cases hs:step s with
  | none=>rw [hs] at hn; cases hn
  | some x =>
   rw [hs] at hn
   refine round s Ds f w x hs h0 ?_ ?_
   ·rintro s' rfl Ds' f' w' h';exact FD (ih (s:=s') h' hn)
   ·rintro ω rfl;exact Option.some.inj hn
end
theorem Gx {P:Program} {g:FuncId} {fn:Func} {c:Code} {args:Array Value} {w:World} {R:Ending→World→Prop} (f:Nat→Value)
  (hf:P.funcs[g]? = some fn) (hb:fn.body=some c) (ha:args++Array.replicate (fn.ntmps - args.size) undef=tm fn.ntmps f)
  (h:∀ cs,Go (Env.marks ⟨P,g,fn.ntmps,cs,R,[],none⟩ []) [.code c] f w):Calls P g args w R:=zU f hf hb ha h
def recAt (r:Loop) (st:LoopState) (pd:Option Code):Loop:={ r with state:=st,pending:=pd }
theorem Mi (N:Nat):∀ (us:List (Nat×Value)) (f:Nat→Value),us.foldl (fun tmps p=>tmps.setIfInBounds p.1 p.2) (tm N f)=tm N (bq f us)
 | [],_=>rfl
 | (d,v)::us,f=>by rw [List.foldl_cons,KX,Mi N us]; rfl
section
variable {E:Env} {Ds:List Nat} {k:List Item} {f:Nat→Value} {w:World} {M:Mem} {L:List bV}
theorem JO (h:Go E k f w):Go E (((none:Option Code).map Item.code).toList++k) f w:=h
end
end Go.Proofs.YtfpeabnehpclnaaGreatDoorE
namespace Go.Proofs.YtfpeabnehpclnaaGreatDoorE
open Go Go.Proofs
set_option linter.unusedVariables false
set_option linter.unusedSimpArgs false
def Tri {α:Type} (x:Option α) (Q:α→Prop):Prop:=∃ a,x=some a∧Q a
theorem af {α:Type} {a:α} {Q:α→Prop} (h:Q a):Tri (some a) Q:=⟨a,rfl,h⟩
theorem ag {α:Type} {c:Prop} [Decidable c] {x:Option α} {Q:α→Prop} (hc:c) (h:Tri x Q):Tri (must c x) Q:=by rw [iL _ hc]; exact h
theorem bU {α β:Type} {x:Option α} {k:α→Option β} {R:α→Prop} {Q:β→Prop} (h:Tri x R) (hk:∀ a,R a→Tri (k a) Q):Tri (x.bind k) Q:=by
 obtain ⟨a,rfl,ha⟩:=h;exact hk a ha
theorem eX {α:Type} {x:Option α} {R Q:α→Prop} (h:Tri x R) (hq:∀ a,R a→Q a):Tri x Q:=by
 obtain ⟨a,ha,hr⟩:=h;exact ⟨a,ha,hq a hr⟩
theorem au {σ Ω:Type} {x:Option Ω} {Q:σ ⊕ Ω→Prop} (h:Tri x (fun a=>Q (.inr a))):Tri (out x) Q:=by
 obtain ⟨a,rfl,ha⟩:=h;exact ⟨_,rfl,ha⟩
theorem eY {α:Type} {x:Option α} {a:α}:Tri x (fun b=>b=a)↔x=some a:=by
 constructor
 ·rintro ⟨b,h,rfl⟩; exact h
 ·intro h; exact ⟨a,h,rfl⟩
def Rnd {σ Ω:Type} (I:σ→Prop) (m:σ→Nat) (Q:Ω→Prop) (s:σ):σ ⊕ Ω→Prop
 | .inl s'=>I s'∧m s' < m s
 | .inr o=>Q o
theorem xP {σ Ω:Type} {step:σ→Option (σ ⊕ Ω)} {Q:Ω→Prop} (I:σ→Prop) (m:σ→Nat) {s:σ} (h0:I s)
  (hs:∀ s,I s→Tri (step s) (Rnd I m Q s)):Tri (iter step s) Q:=by
 generalize hn:m s=n
 induction n using Nat.strongRecOn generalizing s with
 | ind n ih =>
  obtain ⟨x,hx,hr⟩:=hs s h0
  rw [Aj,hx]
  cases x with
  | inl s'=>exact ih (m s') (hn ▸ hr.2) hr.1 rfl
  | inr o=>exact ⟨o,rfl,hr⟩
theorem gW {α:Type} {c:Bool} {x y:Option α} {Q:α→Prop} (h1:c=true→Tri x Q) (h2:c=false→Tri y Q):Tri (bif c then x else y) Q:=by
 cases c
 ·exact h2 rfl
 ·exact h1 rfl
def Up {Ω:Type} (n k:Nat) (J:Nat→Prop) (Q:Ω→Prop):Int ⊕ Ω→Prop
 | .inl s'=>s'=((k + 1:Nat):Int)∧k < n∧J (k + 1)
 | .inr o=>Q o
theorem Ht {Ω:Type} {step:Int→Option (Int ⊕ Ω)} {Q:Ω→Prop} (n:Nat) (J:Nat→Prop) (h0:J 0)
  (hs:∀ k:Nat,k≤n→J k→Tri (step (k:Int)) (Up n k J Q)):Tri (iter step 0) Q:=by
 refine xP (fun s:Int=>∃ k:Nat,s=(k:Int)∧k≤n∧J k) (fun s:Int=>n - s.toNat) ⟨0,rfl,Nat.zero_le _,h0⟩ ?_;rintro s ⟨k,rfl,hk,hJ⟩;refine eX (hs k hk hJ) ?_;rintro (s' | o) h
 ·obtain ⟨rfl,h1,h2⟩:=h;exact ⟨⟨k + 1,rfl,h1,h2⟩,by simp; omega⟩
 ·exact h
def Up2 {σ Ω:Type} (n k:Nat) (J:Nat→σ→Prop) (Q:Ω→Prop):(σ×Int) ⊕ Ω→Prop
 | .inl (s',x)=>x=((k + 1:Nat):Int)∧k < n∧J (k + 1) s'
 | .inr o=>Q o
theorem Ad {σ Ω:Type} {step:σ×Int→Option ((σ×Int) ⊕ Ω)} {Q:Ω→Prop} {s:σ} (n:Nat) (J:Nat→σ→Prop) (h0:J 0 s)
  (hs:∀ (k:Nat) (s:σ),k≤n→J k s→Tri (step (s,(k:Int))) (Up2 n k J Q)):Tri (iter step (s,0)) Q:=by
 refine xP (fun s:σ×Int=>∃ k:Nat,s.2=(k:Int)∧k≤n∧J k s.1) (fun s:σ×Int=>n - s.2.toNat) ⟨0,rfl,Nat.zero_le _,h0⟩ ?_;rintro ⟨s,x⟩ ⟨k,hx,hk,hJ⟩;subst hx;refine eX (hs k s hk hJ) ?_;rintro (⟨s',x⟩ | o) h
 ·obtain ⟨rfl,h1,h2⟩:=h;exact ⟨⟨k + 1,rfl,h1,h2⟩,by simp; omega⟩
 ·exact h
def Le {α:Type} (x y:Option α):Prop:=∀ r,x=some r→y=some r
theorem le_refl {α:Type} (x:Option α):Le x x:=fun _ h=>h
theorem bS {α:Type} [Inhabited α] {xs:List α} {j:Int} {n:Nat} (hj:j=n) (h:n < xs.length):idx xs j=xs[n]:=by
 subst hj;unfold idx
 simp [h]
theorem Hu {α:Type} [Inhabited α] {xs:List α} {i:Int} {j:Nat} {v:α} (h0:0≤i) (h1:i < xs.length):idx (xs.set i.toNat v) (j:Int)=if (j:Int)=i then v else idx xs (j:Int):=by
 unfold idx
 simp only [Int.toNat_natCast,List.getD_eq_getElem?_getD,List.getElem?_set]
 by_cases e:(j:Int)=i
 ·subst e;have:j < xs.length:=by omega
  simp [this]
 ·have:¬ (i.toNat=j):=by omega
  rw [if_neg this,if_neg e]
theorem LY {α:Type} [Inhabited α] (n:Nat) (j:Nat):idx (List.replicate n (default:α)) (j:Int)=default:=by
 unfold idx
 simp only [Int.toNat_natCast,List.getD_eq_getElem?_getD,List.getElem?_replicate]
 split <;> rfl
theorem Jr {α:Type} [Inhabited α] {xs ys:List α} (hl:xs.length=ys.length) (h:∀ j:Nat,j < xs.length→idx xs (j:Int)=idx ys (j:Int)):xs=ys:=by
 apply List.ext_getElem hl
 intro j h1 h2;have:=h j h1
 rwa [bS rfl h1,bS rfl h2] at this
theorem wrap_u64 {n:Nat} (h:n < 2 ^ 64):IntKind.wrap .u64 (n:Int)=n:=by
 unfold IntKind.wrap
 simp only [IntKind.bits,IntKind.signed,Bool.false_and]
 have:((n:Int) % (2 ^ 64:Int))=n:=Int.emod_eq_of_lt (by omega) (by omega)
 simp only [this]
 simp
theorem oD {x:Int} (h0 : -(2 ^ 63)≤x) (h1:x < 2 ^ 63):w64 x=x:=by
 unfold w64 IntKind.wrap
 simp only [IntKind.bits,IntKind.signed,Bool.true_and]
 by_cases hx:0≤x
 ·have:x % (2 ^ 64:Int)=x:=Int.emod_eq_of_lt hx (by omega)
  simp only [this]
  rw [if_neg]
  simp
  omega
 ·have:x % (2 ^ 64:Int)=x + 2 ^ 64:=by
   rw [← Int.add_emod_right]
   exact Int.emod_eq_of_lt (by omega) (by omega)
  simp only [this]
  rw [if_pos]
  ·omega
  ·simp
   omega
theorem Js {a b:Nat} (ha:a < 2 ^ 64) (hb:b < 2 ^ 64):cz .u64 (a:Int) (b:Int)=((a &&& b:Nat):Int):=by
 unfold cz;have h:a &&& b < 2 ^ 64:=Nat.and_lt_two_pow _ hb
 rw [show IntKind.bits .u64=64 from rfl,BitVec.ofInt_natCast,BitVec.ofInt_natCast,BitVec.toNat_and,BitVec.toNat_ofNat,BitVec.toNat_ofNat,Nat.mod_eq_of_lt ha,Nat.mod_eq_of_lt hb]
 exact wrap_u64 h
theorem Rj {a b:Nat} (ha:a < 2 ^ 64) (hb:b < 2 ^ 64):bOr .u64 (a:Int) (b:Int)=((a ||| b:Nat):Int):=by
 unfold bOr;have h:a ||| b < 2 ^ 64:=Nat.or_lt_two_pow ha hb
 rw [show IntKind.bits .u64=64 from rfl,BitVec.ofInt_natCast,BitVec.ofInt_natCast,BitVec.toNat_or,BitVec.toNat_ofNat,BitVec.toNat_ofNat,Nat.mod_eq_of_lt ha,Nat.mod_eq_of_lt hb]
 exact wrap_u64 h
def andNot (a b:Nat):Nat:=a &&& (2 ^ 64 - 1 - b)
theorem Gv {a b:Nat} (ha:a < 2 ^ 64):andNot a b < 2 ^ 64:=Nat.lt_of_le_of_lt Nat.and_le_left ha
theorem KF {a b i:Nat} (ha:a < 2 ^ 64) (hb:b < 2 ^ 64):(andNot a b).testBit i=(a.testBit i && !b.testBit i):=by
 unfold andNot
 rw [Nat.testBit_and]
 have e:2 ^ 64 - 1 - b=2 ^ 64 - (b + 1):=by omega
 rw [e,Nat.testBit_two_pow_sub_succ hb]
 by_cases hi:i < 64
 ·simp [hi]
 ·have:a.testBit i=false:=Nat.testBit_lt_two_pow (Nat.lt_of_lt_of_le ha (Nat.pow_le_pow_right (by decide) (by omega)))
  simp [this]
theorem Jt {a b:Nat} (ha:a < 2 ^ 64) (hb:b < 2 ^ 64):lK .u64 (a:Int) (b:Int)=((andNot a b:Nat):Int):=by
 unfold lK
 rw [show IntKind.bits .u64=64 from rfl,BitVec.ofInt_natCast,BitVec.ofInt_natCast,BitVec.toNat_and,BitVec.toNat_not,BitVec.toNat_ofNat,BitVec.toNat_ofNat,Nat.mod_eq_of_lt ha,Nat.mod_eq_of_lt hb]
 exact wrap_u64 (Gv ha)
theorem OT {i:Int} {n:Nat} (hi:i=n) (h:n < 64):jH .u64 1 i=((2 ^ n:Nat):Int):=by
 subst hi;unfold jH
 rw [show IntKind.bits .u64=64 from rfl,Int.toNat_natCast,Nat.min_eq_left (by omega)]
 have:(1:Int) * 2 ^ n=((2 ^ n:Nat):Int):=by rw [Int.one_mul]; exact (Int.natCast_pow 2 n).symm
 rw [this]
 exact wrap_u64 (Nat.pow_lt_pow_right (by decide) h)
theorem Ju {a n:Nat} {i:Int} (hi:i=n) (h:n < 64):ed .u64 (a:Int) i=((a >>> n:Nat):Int):=by
 subst hi;unfold ed
 rw [show IntKind.bits .u64=64 from rfl,Int.toNat_natCast,Nat.min_eq_left (by omega),Nat.shiftRight_eq_div_pow]
 have:(2:Int) ^ n=((2 ^ n:Nat):Int):=(Int.natCast_pow 2 n).symm
 rw [this,Int.fdiv_eq_ediv_of_nonneg _ (Int.natCast_nonneg _)]
 exact (Int.natCast_ediv a (2 ^ n)).symm
theorem Hw {a n:Nat}:(a >>> n) &&& 1=(a.testBit n).toNat:=by
 rw [Nat.and_one_is_mod,Nat.testBit_eq_decide_div_mod_eq,Nat.shiftRight_eq_div_pow]
 rcases Nat.mod_two_eq_zero_or_one (a / 2 ^ n) with h | h <;> simp [h]
theorem aQ {k:Nat} (h:k < 2 ^ 62):w64 ((k:Int) + 1)=((k + 1:Nat):Int):=by
 rw [oD (by omega) (by omega)]
 rfl
theorem Rk {a:Nat} (h0:a≠0) (h:a < 2 ^ 64):Lib.ctz 64 a < 64∧a.testBit (Lib.ctz 64 a)=true∧∀ i,(a &&& (a - 1)).testBit i=(a.testBit i && !decide (i=Lib.ctz 64 a)):=by
 unfold Lib.ctz
 rw [if_neg h0]
 obtain ⟨m,hm,hk⟩:=Lib.ctzFrom_spec 64 a (by omega) h;generalize Lib.ctzFrom 64 a=k at hm hk;have bits:∀ i,a.testBit i=(decide (k≤i) && (2 * m + 1).testBit (i - k)):=by
  intro i; rw [hm,Nat.mul_comm,Nat.testBit_mul_two_pow]
 have a1:a - 1=2 ^ k * (2 * m) + (2 ^ k - 1):=by
  rw [hm,Nat.mul_add,Nat.mul_one]
  have:=Nat.two_pow_pos k
  omega
 have bits1:∀ i,(a - 1).testBit i=if i < k then true else (2 * m).testBit (i - k):=by
  intro i
  rw [a1,Nat.testBit_two_pow_mul_add _ (by have:=Nat.two_pow_pos k; omega)]
  split
  ·rw [Nat.testBit_two_pow_sub_one]; simp [*]
  ·rfl
 refine ⟨hk,?_,?_⟩
 ·rw [bits]; simp
 ·intro i
  rw [Nat.testBit_and,bits,bits1]
  by_cases hik:i < k
  ·simp [hik,Nat.not_le.2 hik]
  ·simp only [hik,if_false]
   by_cases he:i=k
   ·subst he; simp
   ·obtain ⟨j,rfl⟩:∃ j,i=k + (j + 1):=⟨i - k - 1,by omega⟩
    have e3:k + (j + 1) - k=j + 1:=by omega
    rw [e3,Nat.testBit_succ,Nat.testBit_succ]
    have d1:(2 * m + 1) / 2=m:=by omega
    have d2:(2 * m) / 2=m:=by omega
    rw [d1,d2]
    have d3:¬ (k + (j + 1)=k):=by omega
    simp [d3]
def Wd (x:Int) (p:Nat→Prop):Prop:=∃ a:Nat,x=a∧a < 2 ^ 64∧∀ j,a.testBit j=true↔p j
theorem Wd.zero:Wd 0 (fun _=>False):=⟨0,rfl,by decide,by simp⟩
theorem Wd.congr {x:Int} {p q:Nat→Prop} (h:Wd x p) (e:∀ j,p j↔q j):Wd x q:=by
 obtain ⟨a,rfl,h1,h2⟩:=h;exact ⟨a,rfl,h1,fun j=>(h2 j).trans (e j)⟩
theorem Wd.or {x y:Int} {p q:Nat→Prop} (h:Wd x p) (h':Wd y q):Wd (bOr .u64 x y) (fun j=>p j∨q j):=by
 obtain ⟨a,rfl,h1,h2⟩:=h;obtain ⟨b,rfl,h3,h4⟩:=h';refine ⟨a ||| b,Rj h1 h3,Nat.or_lt_two_pow h1 h3,fun j => ?_⟩
 rw [Nat.testBit_or,Bool.or_eq_true,h2,h4]
theorem Wd.andNot {x y:Int} {p q:Nat→Prop} (h:Wd x p) (h':Wd y q):Wd (lK .u64 x y) (fun j=>p j ∧ ¬ q j):=by
 obtain ⟨a,rfl,h1,h2⟩:=h;obtain ⟨b,rfl,h3,h4⟩:=h';refine ⟨_,Jt h1 h3,Gv h1,fun j => ?_⟩;have e:=h4 j
 rw [KF h1 h3,Bool.and_eq_true,h2,Bool.not_eq_true']
 show (p j∧b.testBit j=false)↔(p j ∧ ¬ q j)
 rw [← e]
 simp
theorem Wd.bit {i:Int} {n:Nat} (hi:i=n) (h:n < 64):Wd (jH .u64 1 i) (fun j=>j=n):=by
 refine ⟨_,OT hi h,Nat.pow_lt_pow_right (by decide) h,fun j => ?_⟩
 rw [Nat.testBit_two_pow]
 simp [eq_comm]
theorem Wd.low {x:Int} {p:Nat→Prop} (h:Wd x p) (h0:x≠0):∃ k:Nat,Lib.ctz 64 x.toNat=k∧k < 64∧0≤x∧x < 18446744073709551616∧p k ∧
  Wd (cz .u64 x (IntKind.wrap .u64 (x - 1))) (fun j=>p j∧j≠k)∧(cz .u64 x (IntKind.wrap .u64 (x - 1))).toNat < x.toNat:=by
 obtain ⟨a,rfl,h1,h2⟩:=h;have ha:a≠0:=by intro e; exact h0 (by rw [e]; rfl)
 obtain ⟨l1,l2,l3⟩:=Rk ha h1;have e:((a:Int) - 1)=((a - 1:Nat):Int):=by omega
 rw [e,wrap_u64 (by omega),Js h1 (by omega),Int.toNat_natCast]
 refine ⟨_,rfl,l1,by omega,by omega,(h2 _).1 l2,⟨_,rfl,Nat.and_lt_two_pow _ (by omega),fun j => ?_⟩,?_⟩
 ·rw [l3,Bool.and_eq_true,h2]; simp
 ·rw [Int.toNat_natCast]
  have:a &&& (a - 1)≤a - 1:=Nat.and_le_right
  omega
theorem Wd.none {x:Int} {p:Nat→Prop} (h:Wd x p):x=0↔∀ j,¬ p j:=by
 obtain ⟨a,rfl,h1,h2⟩:=h
 constructor
 ·intro e j hj;have:a=0:=by omega
  subst this;have:=(h2 j).2 hj
  simp at this
 ·intro hn;have:a=0:=by
   apply Nat.eq_of_testBit_eq
   intro i
   rw [Nat.zero_testBit]
   cases hb:a.testBit i
   ·rfl
   ·exact absurd ((h2 i).1 hb) (hn i)
  subst this
  rfl
theorem Wd.look {x i:Int} {p:Nat→Prop} {n:Nat} (h:Wd x p) (hi:i=n) (hn:n < 64):(cz .u64 (ed .u64 x i) 1=1∧p n)∨(cz .u64 (ed .u64 x i) 1=0 ∧ ¬ p n):=by
 obtain ⟨a,rfl,h1,h2⟩:=h
 rw [Ju hi hn,show (1:Int)=((1:Nat):Int) from rfl,Js (Nat.lt_of_le_of_lt (Nat.shiftRight_le _ _) h1) (by decide),Hw,← h2 n]
 cases a.testBit n
 ·right; simp
 ·left; simp
end Go.Proofs.YtfpeabnehpclnaaGreatDoorE
namespace Go.Proofs.YtfpeabnehpclnaaGreatDoorE
open Go Go.Lib
set_option linter.unusedVariables false
set_option linter.unusedSimpArgs false
section
variable {P:Program} {o:Oper} {ev_:Operand→Value} {K:Value→World→Prop} {w:World} {M:Mem} {L:List bV}
variable {α:Type} {kt:Ty α} {enc:α→List Value} [Flat kt enc]
theorem Pb (kt:Ty α) [Flat kt enc] (x:α):∀ v ∈ enc x,v.oneCell'=true:=kt.rd_one (H:=fun _=>none) (Flat.rd_iff.2 rfl)
theorem Np (kt:Ty α) [Flat kt enc] (xs:List α):∀ v ∈ xs.flatMap enc,v.oneCell'=true:=by
 intro v hv;obtain ⟨x,_,hx⟩:=List.mem_flatMap.1 hv;exact Pb kt x v hx
theorem Inv.openrow {e:TypeId} {b n c:Nat} {xs:List α} (hI:Inv M w L) (li:Nat) (hL:L[li]? = some (.row kt e (some ⟨b,0,none⟩) n c xs)) :
  ∃ cs,Inv M w (L.set li (.blk b e cs))∧cs.length=c * kt.sz∧cs.take (n * kt.sz)=xs.flatMap enc∧xs.length=n∧n≤c∧c≤maxLen:=by
 obtain ⟨F1,a5,hown⟩:=hI.look hL;obtain ⟨hr,hln⟩:=hown;subst hln;rcases hr with ⟨h0,_⟩ | ⟨b',arr,hA,hFb,hb,hlc,hcm,hsz,hseq⟩
 ·cases h0
 ·cases hA;refine ⟨arr.toList,?_,by simpa using hsz,bX.flat.1 hseq,rfl,hlc,hcm⟩
  refine hI.turn hL (Nat.le_refl _) rfl rfl rfl ?_;rintro F hF ⟨hr,_⟩;rcases hr with ⟨h0,_⟩ | ⟨b2,a3,a4,a2,a1,_⟩
  ·cases h0
  ·cases a4;have:a3=arr:=by rw [hb] at a1; cases a1; rfl
   subst this;exact ⟨F,⟨a2,by simpa using a1⟩,fun _ _ _=>rfl,fun _ h => .inl h⟩
theorem Inv.closerow {e:TypeId} {b c:Nat} {cs:List Value} (hI:Inv M w L) (li:Nat) (xs:List α) (hL:L[li]? = some (.blk b e cs)) (hlen:cs.length=c * kt.sz) (hcs:cs.take (xs.length * kt.sz)=xs.flatMap enc)
  (hlc:xs.length≤c) (hcm:c≤maxLen):Inv M w (L.set li (.row kt e (some ⟨b,0,none⟩) xs.length c xs)):=by
 refine hI.turn hL (Nat.le_refl _) rfl rfl rfl ?_;rintro F hF ⟨hFb,hb⟩;exact ⟨F,⟨.inr ⟨b,cs.toArray,rfl,hFb,hb,hlc,hcm,by simpa using hlen,bX.flat.2 (by simpa using hcs)⟩,rfl⟩,fun _ _ _=>rfl,fun _ h => .inl h⟩
def Src (H:BM) (sz:Nat) (v:Value) (n:Nat) (cs:List Value):Prop :=
 cs.length=n * sz∧∃ A c,v = .slice A n c∧(n * sz=0∨∃ b o,A=some ⟨b,o,none⟩∧∀ j u,cs[j]? = some u→cellOf H b (o + j)=some u)
theorem Src.of_blk {e:TypeId} {b l h m sz:Nat} {cs:List Value} (hI:Inv M w L) (li:Nat) (hL:L[li]? = some (.blk b e cs)) (hlh:l≤h) (hm:h≤m) (hfit:h * sz≤cs.length) :
  Src (hp w) sz (sliced (some ⟨b,0,none⟩) l h m sz) (h - l) ((cs.drop (l * sz)).take ((h - l) * sz)):=by
 have hfit2:l * sz + (h - l) * sz=h * sz:=by rw [← Nat.add_mul]; congr 1; omega
 refine ⟨by rw [List.length_take,List.length_drop]; omega,_,_,rfl,?_⟩
 by_cases e:m=l
 ·left; rw [show h - l=0 by omega]; simp
 ·refine .inr ⟨b,l * sz,by rw [if_neg e,Option.map_some,addr_add,Nat.zero_add],fun j u hu => ?_⟩
  have hg:=hI.grp li hL (l * sz + j) u (by
   rw [List.getElem?_take] at hu
   split at hu
   ·rwa [List.getElem?_drop] at hu
   ·cases hu)
  rw [Nat.zero_add,rV] at hg
  exact hg
theorem Src.first {P:Program} {sz n m:Nat} {v:Value} {cs:List Value} (h:Src (hp w) sz v n cs) (hm:m≤n):(Builtin.firstCells sz m v).run P w = .ok (cs.take (m * sz)).toArray w:=by
 obtain ⟨hl,A,c,rfl,h⟩:=h;have hle:m * sz≤n * sz:=Nat.mul_le_mul_right _ hm;rcases h with h0 | ⟨b,o,rfl,hc⟩
 ·have h1:m * sz=0:=by omega
  have h2:cs.take (m * sz)=[]:=by rw [h1]; rfl
  rw [h2]
  cases A with
  | none=>rfl
  | some a=>simp [Builtin.firstCells,h1,loadCells,loadCellsFrom,Sem.run,pure]
 ·have:=run_loadCells (P:=P) (w:=w) b o (cs.take (m * sz)) (fun j u hu=>by
   rw [rV]
   rw [List.getElem?_take] at hu
   split at hu
   ·exact hc j u hu
   ·cases hu)
  rw [List.length_take,Nat.min_eq_left (by omega)] at this
  exact this
theorem KQ {P:Program} {w:World} {t e:TypeId} {inf:TypeInfo} (A:Option Addr) (n c:Nat) (kl kh km:IntKind) (l h m:Int) (ht:P.underlying t=some (.slice e)) (hi':P.info? e=some inf)
  (hb:0≤l∧l≤h∧h≤m∧m≤c):(Instr.sliceAt t (.slice A n c) (some (.int kl l)) (some (.int kh h)) (some (.int km m))).run P w = .ok (sliced A l.toNat h.toNat m.toNat inf.size) w:=by
 have hel:P.elem t=e:=by simp [Program.elem,ht]
 have ht':P.underlying t=some (.slice (P.elem t)):=by rw [hel]; exact ht
 rw [run_sliceAt_slice w t _ _ _ _ ht',run_slice_lhm w t A n c ht' kl kh km l h m (by omega) (by omega) (by omega) (by omega),hel,run_sizeOf hi']
 rfl
theorem Pd (t e:TypeId) (x lo hi mx:Operand) (inf:TypeInfo) (sz:Nat) (A:Option Addr) (n c:Nat) (kl kh km:IntKind) (l h m:Int) (hop:o.op = .slice t x (some lo) (some hi) (some mx))
  (hx:ev_ x = .slice A n c) (hl:ev_ lo = .int kl l) (hh:ev_ hi = .int kh h) (hm:ev_ mx = .int km m) (ht:P.underlying t=some (.slice e)) (hi':P.info? e=some inf) (hsz:inf.size=sz)
  (hb:0≤l∧l≤h∧h≤m∧m≤c) (h:K (sliced A l.toNat h.toNat m.toNat sz) w):Eff P o ev_ w K:=by
 subst hsz;refine gX _ (w':=w) ?_ h
 simp only [execOp,hop,hx,hl,hh,hm,Option.map_some,Sem.run_bind,KQ A n c kl kh km l _ m ht hi' hb,Result.andThen,Sem.run,pure]
theorem KR {P:Program} {w:World} {t e:TypeId} {inf:TypeInfo} (A:Option Addr) (n c:Nat) (lo hi:Option Value) (kl kh:IntKind) (l h:Int) (ht:P.underlying t=some (.slice e)) (hi':P.info? e=some inf)
  (hlo:lo.getD (.int .i64 0) = .int kl l) (hhi:hi.getD (.int .i64 n) = .int kh h) (hb:0≤l∧l≤h∧h≤c) :
  (Instr.sliceAt t (.slice A n c) lo hi none).run P w = .ok (sliced A l.toNat h.toNat c inf.size) w:=by
 have hel:P.elem t=e:=by simp [Program.elem,ht]
 have hz:(sizeOf (P.elem t)).run P w = .ok inf.size w:=by rw [hel]; exact run_sizeOf hi'
 have ht':P.underlying t=some (.slice (P.elem t)):=by rw [hel]; exact ht
 rw [run_sliceAt_slice w t _ _ _ _ ht']
 cases lo <;> cases hi <;> simp only [Option.getD_none,Option.getD_some] at hlo hhi
 ·cases hlo; cases hhi
  rw [run_slice_all w t A n c ht',hz]
  simp [Result.andThen]
 ·cases hlo; subst hhi
  rw [run_slice_h w t A n c ht' kh h (by omega) (by omega),hz]
  simp [Result.andThen]
 ·cases hhi; subst hlo
  rw [run_slice_l w t A n c ht' kl l (by omega) (by omega),hz]
  simp [Result.andThen]
 ·subst hlo hhi
  rw [run_slice_lh w t A n c ht' kl kh l h (by omega) (by omega) (by omega),hz]
  simp [Result.andThen]
theorem Fu (t e:TypeId) (x:Operand) (lo hi:Option Operand) (inf:TypeInfo) (sz:Nat) (A:Option Addr) (n c:Nat) (kl kh:IntKind) (l h:Int) (hop:o.op = .slice t x lo hi none)
  (hx:ev_ x = .slice A n c) (hlo:(lo.map ev_).getD (.int .i64 0) = .int kl l) (hhi:(hi.map ev_).getD (.int .i64 n) = .int kh h) (ht:P.underlying t=some (.slice e)) (hi':P.info? e=some inf) (hsz:inf.size=sz)
  (hb:0≤l∧l≤h∧h≤c) (h:K (sliced A l.toNat h.toNat c sz) w):Eff P o ev_ w K:=by
 subst hsz;refine gX _ (w':=w) ?_ h;have hrun:=KR (P:=P) (w:=w) A n c (lo.map ev_) (hi.map ev_) kl kh l _ ht hi' hlo hhi hb
 simp only [execOp,hop,hx,Option.map_none,Sem.run_bind,hrun,Result.andThen,Sem.run,pure]
theorem Inv.putcells {e:TypeId} {b j:Nat} {cs vs:List Value} (hI:Inv M w L) (li:Nat) (hL:L[li]? = some (.blk b e cs)) :
  w.heap[b]? = some (.cells cs.toArray e (0,0))∧Inv M (w.setRow b (splice cs j vs).toArray) (L.set li (.blk b e (splice cs j vs))):=by
 obtain ⟨F1,a1,hown⟩:=hI.look hL;have hb:w.heap[b]? = some (.cells cs.toArray e (0,0)):=hown.2;refine ⟨hb,hI.turn hL (by rw [setRow_size]; exact Nat.le_refl _) rfl rfl rfl ?_⟩;rintro F hF ⟨hFb,_⟩;exact ⟨F,⟨hFb,zP w b _ _ _ _ hb⟩,fun b' _ hn=>zQ w b b' _ (fun e=>hn (e ▸ hFb)),fun b' hb' => .inl hb'⟩
theorem KS (cs:List Value) (j:Nat):splice cs j []=cs:=by simp [splice]
theorem BX {e:TypeId} {b j:Nat} {cs vs:List Value} (hb:w.heap[b]? = some (.cells cs.toArray e (0,0))) (hfit:j + vs.length≤cs.length) (h1:∀ v ∈ vs,v.oneCell'=true) :
  (storeCells ⟨b,j,none⟩ vs).run P w = .ok () (w.setRow b (splice cs j vs).toArray):=by
 have hst:=run_storeCells_at P b j e vs 0 cs.toArray w hb (by simpa using hfit) h1
 simpa [splice] using hst
theorem JJ (s x:Operand) (t e:TypeId) (inf:TypeInfo) (sz:Nat) (li b n c m:Nat) (v:Value) (cs vs:List Value) (hop:o.op = .call { callee := .builtin .append,args := #[s,x],argTypes := #[t,t] })
  (a1:ev_ s = .slice (some ⟨b,0,none⟩) n c) (hx:ev_ x=v) (hu:P.underlying t=some (.slice e)) (hi:P.info? e=some inf) (hsz:inf.size=sz) (hI:Inv M w L) (hL:L[li]? = some (.blk b e cs))
  (hs:Src (hp w) sz v m vs) (hfit:n + m≤c) (hlen:cs.length=c * sz) (h1:∀ v ∈ vs,v.oneCell'=true)
  (hK:∀ w',Inv M w' (L.set li (.blk b e (splice cs (n * sz) vs)))→K (.slice (some ⟨b,0,none⟩) (n + m) c) w'):Eff P o ev_ w K:=by
 subst hsz;obtain ⟨hb,hI'⟩:=hI.putcells (j:=n * inf.size) (vs:=vs) li hL;have hf:=hs.first (P:=P) (Nat.le_refl m);obtain ⟨hl,A,c',rfl,hA⟩:=hs
 rw [List.take_of_length_le (by omega)] at hf
 have hmul:n * inf.size + m * inf.size≤c * inf.size:=by rw [← Nat.add_mul]; exact Nat.mul_le_mul_right _ hfit
 have hst:=BX (P:=P) (w:=w) (j:=n * inf.size) (vs:=vs) hb (by omega) h1;have hrun:(Builtin.append_ #[t,t] o.type #[.slice (some ⟨b,0,none⟩) n c,.slice A m c']).run P w = .ok (.slice (some ⟨b,0,none⟩) (n + m) c) (w.setRow b (splice cs (n * inf.size) vs).toArray):=by
  simp [Builtin.append_,run_underlying hu,sizeOf,typeInfo,hi,Builtin.lenOf,hfit,hf,addr_add,hst]
 refine gX _ ?_ (hK _ hI')
 simp only [execOp,hop,resolve,invoke,builtin,Sem.run_bind,Sem.run_pure,Result.andThen_ok,List.map_toArray,List.map_cons,List.map_nil,a1,hx,hrun]
theorem FW (z:Array Value) (n:Nat):(Builtin.zeroCells z n).toList.length=n * z.size:=by simp [Builtin.zeroCells]
theorem Mg (x:Operand) (t e:TypeId) (inf:TypeInfo) (sz:Nat) (z:Value) (li b l h m:Nat) (cs:List Value) (hop:o.op = .call { callee := .builtin .clear,args := #[x],argTypes := #[t] })
  (hx:ev_ x=sliced (some ⟨b,0,none⟩) l h m sz) (hu:P.underlying t=some (.slice e)) (hi:P.info? e=some inf) (hsz:inf.size=sz) (hz:inf.zero=some z) (hzs:z.cells.size=sz) (a2:z.cells.toList.all Value.oneCell'=true)
  (hI:Inv M w L) (hL:L[li]? = some (.blk b e cs)) (hm:h≤m) (hlh:l≤h) (hfit:h * sz≤cs.length)
  (hK:∀ w' vs,vs.length=(h - l) * sz→Inv M w' (L.set li (.blk b e (splice cs (l * sz) vs)))→K (.tuple #[]) w'):Eff P o ev_ w K:=by
 subst hsz;have hzl:=FW z.cells (h - l)
 rw [hzs] at hzl
 have hz1':∀ v ∈ (Builtin.zeroCells z.cells (h - l)).toList,v.oneCell'=true:=by
  intro v hv
  simp only [Builtin.zeroCells,Array.toList_map,List.mem_map] at hv
  obtain ⟨i,a1,rfl⟩:=hv;have hpos:0 < z.cells.size:=by
   rcases Nat.eq_zero_or_pos z.cells.size with h0 | h0
   ·rw [h0] at a1; simp at a1
   ·exact h0
  have hlt:=Nat.mod_lt i hpos
  rw [getElem!_pos z.cells (i % z.cells.size) hlt]
  exact List.all_eq_true.1 a2 _ (by simp)
 have hmul2:l * inf.size + (h - l) * inf.size=h * inf.size:=by rw [← Nat.add_mul]; congr 1; omega
 obtain ⟨hb,hI'⟩:=hI.putcells (j:=l * inf.size) (vs:=(Builtin.zeroCells z.cells (h - l)).toList) li hL;have hst:=BX (P:=P) (w:=w) (j:=l * inf.size) (vs:=(Builtin.zeroCells z.cells (h - l)).toList) hb (by omega) hz1';have hrun:(Builtin.clear_ #[t] o.type #[sliced (some ⟨b,0,none⟩) l h m inf.size]).run P w = .ok (.tuple #[]) (w.setRow b (splice cs (l * inf.size) (Builtin.zeroCells z.cells (h - l)).toList).toArray):=by
  cases hn:h - l with
  | zero =>
   have hv:(Builtin.zeroCells z.cells 0).toList=[]:=by simp [Builtin.zeroCells]
   rw [hv,KS,setRow_self w b cs.toArray e (0,0) hb]
   simp only [sliced,hn]
   cases (if m=l then some (⟨b,0,none⟩:Addr) else Option.map (fun x:Addr=>x.add (l * inf.size)) (some ⟨b,0,none⟩)) <;> simp [Builtin.clear_,run_underlying hu]
  | succ q =>
   have hne:¬ m=l:=by omega
   rw [hn] at hst
   simp [Builtin.clear_,sliced,hn,hne,run_underlying hu,zeroValue,typeInfo,hi,hz,addr_add,hst]
 refine gX _ ?_ (hK _ _ hzl hI')
 simp only [execOp,hop,resolve,invoke,builtin,Sem.run_bind,Sem.run_pure,Result.andThen_ok,List.map_toArray,List.map_cons,List.map_nil,hx,hrun]
theorem BZ {enc:α→List Value} {n:Nat} (h:∀ x,(enc x).length=n):∀ (xs:List α) (k:Nat),(xs.take k).flatMap enc=(xs.flatMap enc).take (k * n)
 | [],k=>by simp
 | x::xs,0=>by simp
 | x::xs,k + 1=>by
  rw [List.take_succ_cons,List.flatMap_cons,List.flatMap_cons,BZ h xs k,show (k + 1) * n=(enc x).length + k * n by rw [h x,Nat.add_mul]; omega,List.take_length_add_append]
theorem Ca {enc:α→List Value} {n:Nat} (h:∀ x,(enc x).length=n):∀ (xs:List α) (k:Nat),(xs.drop k).flatMap enc=(xs.flatMap enc).drop (k * n)
 | [],k=>by simp
 | x::xs,0=>by simp
 | x::xs,k + 1=>by
  rw [List.drop_succ_cons,List.flatMap_cons,Ca h xs k,show (k + 1) * n=(enc x).length + k * n by rw [h x,Nat.add_mul]; omega,List.drop_length_add_append]
theorem Fv {enc:α→List Value} {sz:Nat} (h:∀ x,(enc x).length=sz) {cs:List Value} {xs:List α} {n j:Nat} (hn:xs.length=n) (hcs:cs.take (n * sz)=xs.flatMap enc) :
  (cs.drop (j * sz)).take ((n - j) * sz)=(xs.drop j).flatMap enc:=by
 rw [Ca h,← hcs,List.drop_take,Nat.sub_mul]
theorem KT {cs vs zs:List Value} {a:Nat} (ha:a + vs.length≤cs.length):(splice (splice cs a vs) (a + vs.length) zs).take (a + vs.length)=cs.take a++vs:=by
 have h1:(splice cs a vs).take (a + vs.length)=cs.take a++vs:=by
  unfold splice
  rw [← List.append_assoc,List.take_append_of_le_length (by simp; omega),List.take_of_length_le (by simp; omega)]
 have h2:(splice cs a vs).length=cs.length:=oG ha
 rw [← h1]
 generalize splice cs a vs=ds at h2;unfold splice
 rw [List.take_append_of_le_length (by simp; omega),List.take_take,Nat.min_self]
theorem Nq {enc:α→List Value} {sz:Nat} (h:∀ x,(enc x).length=sz) {cs zs:List Value} {xs:List α} {n i j:Nat} (hn:xs.length=n) (hcs:cs.take (n * sz)=xs.flatMap enc) (hij:i≤j) (hj:j≤n) (hl:n * sz≤cs.length) :
  (splice (splice cs (i * sz) ((cs.drop (j * sz)).take ((n - j) * sz))) ((i + (n - j)) * sz) zs).take ((i + (n - j)) * sz)=(xs.take i++xs.drop j).flatMap enc:=by
 rw [Fv h hn hcs]
 have hlen:((xs.drop j).flatMap enc).length=(n - j) * sz:=by rw [zR h,List.length_drop,hn]
 have hle:(i + (n - j)) * sz≤n * sz:=Nat.mul_le_mul_right _ (by omega);have he:(i + (n - j)) * sz=i * sz + ((xs.drop j).flatMap enc).length:=by rw [hlen,Nat.add_mul]
 rw [he,KT (by rw [← he]; omega),List.flatMap_append,BZ h,← hcs,List.take_take,Nat.min_eq_left (Nat.mul_le_mul_right _ (by omega))]
theorem JK (b o l h m s:Nat):sliced (some ⟨b,o,none⟩) l h m s = .slice (some ⟨b,if m=l then o else o + l * s,none⟩) (h - l) (m - l):=by
 unfold sliced
 by_cases e:m=l <;> simp [e,addr_add]
def lq (y:Int):Value:=match y with | .ofNat n => .iface n (.agg #[]) | .negSucc _ => .nilIface
theorem wW {R:Ending→World→Prop} (g:FuncId) (all:Array Value) (hent:Sem.pureRun P (execOp ev_ o)=some (.enter g all)) (hcall:Calls P g all w R)
  (h:∀ e w',R e w'→∃ v,e = .returned v∧K v w'):Eff P o ev_ w K:=JP g all (Sem.pureRun_run _ hent w) hcall h
end
end Go.Proofs.YtfpeabnehpclnaaGreatDoorE
namespace Go.Proofs.YtfpeabnehpclnaaGreatDoorE
open Go
set_option linter.unusedVariables false
set_option linter.unusedSimpArgs false
set_option linter.unusedSectionVars false
def wV {α:Type} (N:BM) (kL k:Ty α):Prop:=kL.sz=k.sz∧∀ H x cs,Sub N H→kL.rd H x cs→k.rd H x cs
theorem mH {α:Type} {N:BM} {k:Ty α}:wV N k k:=⟨rfl,fun _ _ _ _ h=>h⟩
theorem Fh {α:Type} {N:BM} {e:TypeId} {k:Ty α}:wV N (Mh N k) (cB e k):=⟨rfl,fun _ _ _ hs ⟨A,c,e,hl,h⟩=>⟨A,c,e,hl,h.mono hs⟩⟩
theorem jO {α β:Type} {N:BM} {a a':Ty α} {b b':Ty β} (ha:wV N a a') (hb:wV N b b'):wV N (cu a b) (cu a' b') :=
 ⟨by show a.sz + b.sz=a'.sz + b'.sz; rw [ha.1,hb.1],fun H x cs hs ⟨c1,c2,e,h1,h2⟩=>⟨c1,c2,e,ha.2 H _ _ hs h1,hb.2 H _ _ hs h2⟩⟩
theorem De {α β:Type} {N:BM} {k k':Ty α} {g:β→α} (h:wV N k k'):wV N (k.iso g) (k'.iso g):=⟨h.1,fun H x cs hs hr=>h.2 H _ _ hs hr⟩
theorem wV.rdS {α:Type} {N H:BM} {kL k:Ty α} (h:wV N kL k) (hs:Sub N H) {A:Option Addr} {xs:List α} (hr:rdS kL H A xs):rdS k H A xs:=by
 rcases hr with hr | ⟨b,o,hA,hcs⟩
 ·exact .inl hr
 ·refine .inr ⟨b,o,hA,fun j x hj => ?_⟩;obtain ⟨cs,h1,h2⟩:=hcs j x hj;exact ⟨cs,h.2 H x cs hs h1,fun i u hu=>by rw [← h.1]; exact h2 i u hu⟩
theorem El {α:Type} {N:BM} {k:Ty α} {A:Option Addr} {n c:Nat} {xs:List α} (hr:rdS k N A xs) (hn:xs.length=n) (hl:xs.length≤c):Mk (Mh N k) [] xs [.slice A n c] :=
 fun _ _ _=>⟨A,c,by rw [hn],hl,hr⟩
def RdL {α:Type} (k:Ty α) (H:BM):List α→List Value→Prop
 | [],cs=>cs=[]
 | x::xs,cs=>∃ c1 c2,cs=c1++c2∧k.rd H x c1∧RdL k H xs c2
theorem RdL.get {α:Type} {k:Ty α} {H:BM}:∀ {xs:List α} {cs:List Value},RdL k H xs cs→∀ j x,xs[j]? = some x→∃ c,k.rd H x c∧∀ i u,c[i]? = some u→cs[j * k.sz + i]? = some u
 | [],_,_,j,x,hj=>by simp at hj
 | x0::xs,_,⟨c1,c2,e,h4,h5⟩,j,x,hj=>by
  have hl:=k.rd_len h4;cases j with
  | zero =>
   simp only [List.getElem?_cons_zero,Option.some.injEq] at hj
   subst hj;refine ⟨c1,h4,fun i u hu => ?_⟩
   rw [e,Nat.zero_mul,Nat.zero_add,List.getElem?_append_left (List.getElem?_eq_some_iff.1 hu).1]
   exact hu
  | succ j =>
   obtain ⟨c,hc,hget⟩:=h5.get j x (by simpa using hj);refine ⟨c,hc,fun i u hu => ?_⟩
   rw [e,show (j + 1) * k.sz + i=c1.length + (j * k.sz + i) by rw [hl,Nat.add_mul]; omega,List.getElem?_append_right (by omega),Nat.add_sub_cancel_left]
   exact hget i u hu
theorem OX {α:Type} {k:Ty α} {w:World} {b:Nat} {xs:List α} {cs:List Value} (hg:Grp.ok w (b,0,cs)) (h:RdL k (hp w) xs cs):rdS k (hp w) (some ⟨b,0,none⟩) xs:=by
 refine .inr ⟨b,0,rfl,fun j x hj => ?_⟩;obtain ⟨c,hc,hget⟩:=h.get j x hj;refine ⟨c,hc,fun i u hu => ?_⟩;have h1:=hg _ _ (hget i u hu)
 rw [rV] at h1
 rw [show 0 + j * k.sz + i=0 + (j * k.sz + i) by omega]
 exact h1
theorem Me {α:Type} {k:Ty α} {enc:α→List Value} [Flat k enc] {H:BM} (x:α) (cs:List Value) (h:cs=enc x):k.rd H x cs:=Flat.rd_iff.2 h
theorem OY {α:Type} {k:Ty α} {e:TypeId} {H:BM} {A:Option Addr} {n c:Nat} {xs:List α} (hr:rdS k H A xs) (hn:xs.length=n) (hl:xs.length≤c):(cB e k).rd H xs [.slice A n c]:=⟨A,c,by rw [hn],hl,hr⟩
theorem Mf {α β:Type} {a:Ty α} {b:Ty β} {H:BM} {x:α×β} {cs c1 c2:List Value} (e:cs=c1++c2) (h1:a.rd H x.1 c1) (h2:b.rd H x.2 c2):(cu a b).rd H x cs:=⟨c1,c2,e,h1,h2⟩
theorem Sl {α β:Type} {k:Ty α} {g:β→α} {H:BM} {x:β} {cs:List Value} (h:k.rd H (g x) cs):(k.iso g).rd H x cs:=h
theorem yJ {P:Program} {w:World} {kt:TypeId} {κ:Type} {ek:κ→Value} (he:∀ a b,∃ r,eq2 P kt (ek a) (ek b)=some r∧(r=true↔a=b)) (x:κ):∀ (es:List MapEntry) (ks:List κ) (i:Nat),es.map (·.key)=ks.map ek →
  ((Instr.findAsking kt (ek x) es i).run P w = .ok none w∧∀ k ∈ ks,k≠x)∨∃ j e,(Instr.findAsking kt (ek x) es i).run P w = .ok (some (i + j,e.val)) w∧es[j]? = some e∧ks[j]? = some x∧∀ i k,i < j→ks[i]? = some k→k≠x
 | [],[],_,_ => .inl ⟨rfl,by simp⟩
 | [],_::_,_,h=>by simp at h
 | _::_,[],_,h=>by simp at h
 | e::es,k::ks,i,h=>by
  simp only [List.map_cons,List.cons.injEq] at h
  obtain ⟨hek,h⟩:=h;obtain ⟨r,hr,hiff⟩:=he x k;have hrun:=Ik (w:=w) hr
  rw [← hek] at hrun
  cases r with
  | true =>
   have hx:=hiff.1 rfl;subst hx;exact .inr ⟨0,e,by simp [Instr.findAsking,Sem.run_bind,hrun,Result.andThen,pure,Sem.run],rfl,rfl,fun i _ hi=>by omega⟩
  | false =>
   have hne:k≠x:=fun q=>by subst q; have:=hiff.2 rfl; cases this
   rcases yJ (w:=w) he x es ks (i + 1) h with ⟨h1,h2⟩ | ⟨j,e',h1,h2,h3,h4⟩
   ·exact .inl ⟨by simp [Instr.findAsking,Sem.run_bind,hrun,Result.andThen,h1],fun q hq=>by
     cases hq with
     | head=>exact hne
     | tail _ hq=>exact h2 q hq⟩
   ·refine .inr ⟨j + 1,e',by rw [show i + (j + 1)=i + 1 + j by omega]; simp [Instr.findAsking,Sem.run_bind,hrun,Result.andThen,h1],by simpa using h2,by simpa using h3,fun q k' hq hk' => ?_⟩
    cases q with
    | zero=>cases hk'; exact hne
    | succ q=>exact h4 q k' (by omega) (by simpa using hk')
theorem Ru {P:Program} {kt:TypeId} {fs:Array Field} (hd:P.underlying kt=some (.struct fs)) {κ:Type} [DecidableEq κ] (ek:κ→Value) (hc:∀ em x,Sem.pureRun P (Instr.checkKey em 10000 kt (ek x))=some ())
  (he:∀ a b,∃ r,eq2 P kt (ek a) (ek b)=some r∧(r=true↔a=b)) (hs:∀ x,Instr.sameBits 10000 (ek x) (ek x)=true):FX P kt ek where
 check:=fun w em x=>Sem.pureRun_run _ (hc em x) w
 find:=fun w x es ks h=>by
  have hfind:(Instr.findKey kt (ek x) es).run P w=(match es with | [] => .ok none w | _=>(Instr.findAsking kt (ek x) es 0).run P w):=by
   cases es with
   | nil=>simp [Instr.findKey,bD hd,Instr.findNow,Sem.run_bind,Result.andThen,pure,Sem.run]
   | cons e es=>simp [Instr.findKey,bD hd,Instr.findNow,Instr.sameNow,Sem.run_bind,Result.andThen,pure,Sem.run]
  rw [hfind]
  rcases yJ (P:=P) (w:=w) he x es ks 0 h with ⟨h1,h2⟩ | ⟨j,e,h1,h2,h3,h4⟩
  ·exact .inl ⟨by cases es with | nil=>rfl | cons e es=>exact h1,h2⟩
  ·refine .inr ⟨j,e,?_,h2,h3,h4⟩
   rw [Nat.zero_add] at h1
   cases es with
   | nil=>simp at h2
   | cons e es=>exact h1
 stays:=fun w x=>by simp [Instr.keyThatStays,hs,pure,Sem.run]
def wG {κ ν:Type} (ek:κ→Value) (kv:Ty ν) (b:Nat) (m:List (κ×ν)):bV :=
 .any (fun H F=>F b∧∃ es clock,H b=some (.map es clock)∧es.toList.map (·.key)=m.map (fun p=>ek p.1)∧bX kv H (fun b'=>F b'∧b'≠b) (m.map (·.2)) (es.toList.map (·.val)))
  (fun h hF=>⟨hF _ h.1,by obtain ⟨_,es,clock,h1,h2,h3⟩:=h; exact ⟨es,clock,h1,h2,h3.mono fun b' q=>⟨hF _ q.1,q.2⟩⟩⟩)
  (fun h hF=>⟨h.1,by obtain ⟨h0,es,clock,h1,h2,h3⟩:=h; exact ⟨es,clock,(hF _ h0).trans h1,h2,h3.congr fun b' q=>hF _ q.1⟩⟩)
def MapAt {κ:Type} (ek:κ→Value) (H:BM) (b:Nat) (ks:List κ) (k:κ) (v:Value):Prop :=
 ∃ es clock,H b=some (.map es clock)∧es.toList.map (·.key)=ks.map ek ∧
  ((∃ (j:Nat) (e:MapEntry),es.toList[j]? = some e∧ks[j]? = some k∧(∀ i k',i < j→ks[i]? = some k'→k'≠k)∧e.val=v)∨((∀ k' ∈ ks,k'≠k)∧v = .slice none 0 0))
def qO {κ ν:Type} [DecidableEq κ]:List (κ×ν)→κ→List Value→List (κ×(ν ⊕ List Value))
 | [],_,_=>[]
 | p::m,x,v=>if p.1=x then (p.1,.inr v)::m.map (fun q=>(q.1,.inl q.2)) else (p.1,.inl p.2)::qO m x v
theorem Ag {κ ν:Type} [DecidableEq κ] {v:List Value} {y:ν}:∀ {m:List (κ×ν)} {x:κ},gG (qO m x v) x (.inl y)=(gG m x y).map (fun q=>(q.1,.inl q.2))
 | [],x=>rfl
 | p::m,x=>by
  by_cases h:p.1=x
  ·simp [qO,gG,h]
  ·simp [qO,gG,h,Ag (m:=m)]
theorem Fj {κ ν:Type} [DecidableEq κ] {v:List Value}:∀ {m:List (κ×ν)} {x:κ},(qO m x v).map (·.1)=m.map (·.1)
 | [],_=>rfl
 | p::m,x=>by
  by_cases h:p.1=x
  ·simp [qO,h,List.map_map,Function.comp_def]
  ·simp [qO,h,Fj (m:=m)]
theorem Fp {κ ν:Type} [DecidableEq κ] {v:List Value}:∀ {m:List (κ×ν)} {x:κ} {j:Nat},(m.map (·.1))[j]? = some x→(∀ i k,i < j→(m.map (·.1))[i]? = some k→k≠x)→(qO m x v).map (·.2)=((m.map (·.2)).map Sum.inl).set j (.inr v)
 | p::m,x,0,h,_=>by
  simp only [List.map_cons,List.getElem?_cons_zero,Option.some.injEq] at h
  simp [qO,h,List.map_map,Function.comp_def]
 | p::m,x,j + 1,h,hn=>by
  have h1:p.1≠x:=hn 0 p.1 (by omega) rfl
  simp [qO,h1,Fp (m:=m) (j:=j) (by simpa using h) (fun i k hi hk=>hn (i + 1) k (by omega) (by simpa using hk))]
theorem Bc {κ ν:Type} [DecidableEq κ] {v:List Value}:∀ {m:List (κ×ν)} {x:κ},(∀ k ∈ m.map (·.1),k≠x)→qO m x v=m.map (fun q=>(q.1,.inl q.2))
 | [],_,_=>rfl
 | p::m,x,h=>by
  rw [qO,if_neg (h p.1 (by simp)),Bc (fun k hk=>h k (by simp at hk ⊢; exact .inr hk))]
  rfl
section
variable {P:Program} {o:Oper} {ev_:Operand→Value} {K:Value→World→Prop} {w:World} {M:Mem} {L:List bV}
variable {κ ν:Type} [DecidableEq κ] {ek:κ→Value}
theorem Fq (κ ν:Type) (ek:κ→Value) (kv:Ty ν) (t:TypeId) (hop:o.op = .makeMap t none) (hI:Inv M w L) (h:∀ b w',Inv M w' (L++[wG ek kv b ([]:List (κ×ν))])→K (.map (some b)) w'):Eff P o ev_ w K:=by
 refine gX (.map (some w.heap.size)) (w':=w.alloc (.map #[] 0)) ?_ (h _ _ (hI.alloc _ ⟨rfl,#[],0,pg w _,rfl,rfl⟩))
 simp only [execOp,hop,Option.map_none]
 rfl
theorem Fs {m:List (κ×ν)} {es:List MapEntry} (h:es.map (·.key)=m.map (fun p=>ek p.1)):es.map (·.key)=(m.map (·.1)).map ek:=by
 rw [h,List.map_map]; rfl
theorem Inv.mapAtO {kv:Ty ν} (h:Inv M w L) (li:Nat) {b:Nat} {m:List (κ×ν)} (hL:L[li]? = some (wG ek kv b m)) :
  ∃ es clock,hp w b=some (.map es clock)∧es.toList.map (·.key)=(m.map (·.1)).map ek∧∃ F,bX kv (hp w) F (m.map (·.2)) (es.toList.map (·.val)):=by
 obtain ⟨F1,_,hown⟩:=h.look hL;obtain ⟨_,es,clock,h1,h2,h3⟩:=hown;exact ⟨es,clock,h1,Fs h2,_,h3⟩
theorem KP [Inhabited ν] {m:List (κ×ν)} {x:κ} {j:Nat} (h:(m.map (·.1))[j]? = some x) (hn:∀ i k,i < j→(m.map (·.1))[i]? = some k→k≠x):(m.map (·.2))[j]? = some (mat m x)∧kC m x=true:=by
 cases hm:m[j]? with
 | none=>rw [List.getElem?_map,hm] at h; cases h
 | some p =>
  obtain ⟨k,y⟩:=p
  rw [List.getElem?_map,hm] at h
  have hk:k=x:=Option.some.inj h;subst hk;obtain ⟨e1,e2⟩:=Cm hm hn;exact ⟨by rw [List.getElem?_map,hm,e1]; rfl,e2⟩
theorem xR {α:Type} {kt:Ty α} {e:TypeId} (t kty et:TypeId) (a x:Operand) (ok:Bool) (li b:Nat) (m:List (κ×List α)) (k:κ) (hop:o.op = .lookup t a x ok) (ht:P.underlying t=some (.map kty et)) (hK:FX P kty ek) (hz:∀ w:World,(zeroValue et).run P w = .ok (.slice none 0 0) w)
  (ha:ev_ a = .map (some b)) (hx:ev_ x=ek k) (hI:Inv M w L) (hL:L[li]? = some (wG ek (cB e kt) b m))
  (h:∀ A c,rdS kt (hp w) A (mat m k)→(mat m k).length≤c→MapAt ek (hp w) b (m.map (·.1)) k (.slice A (mat m k).length c)→K (bif ok then .tuple #[.slice A (mat m k).length c,.bool (kC m k)] else .slice A (mat m k).length c) w):Eff P o ev_ w K:=by
 obtain ⟨es,clock,hb,hks,F,hseq⟩:=hI.mapAtO li hL;have hb':w.heap[b]? = some (.map es clock):=hb;rcases hK.find w k es.toList _ hks with ⟨h1,h2⟩ | ⟨j,en,h1,h2,h3,h4⟩
 ·obtain ⟨e1,e2⟩:=xU h2;have e1:mat m k=[]:=e1;refine gX _ ?_ (h none 0 (.inl e1) (by rw [e1]; exact Nat.le_refl _) ⟨es,clock,hb,hks,.inr ⟨h2,by rw [e1]; rfl⟩⟩);have hrun:(Instr.lookup t (.map (some b)) (ek k) ok).run P w = .ok (bif ok then .tuple #[.slice none 0 0,.bool false] else .slice none 0 0) w:=by
   simp only [Instr.lookup,Sem.run_bind,bD ht,Result.andThen,MapKept.run_getObj_map hb',hK.check,h1,hz,pure,Sem.run]
   cases ok <;> rfl
  simp only [execOp,hop,ha,hx,Sem.run_bind,hrun,Result.andThen,Sem.run,pure,e1,e2]
  rfl
 ·obtain ⟨hv,e2⟩:=KP h3 h4;obtain ⟨cs,⟨A,c,hcs,hl,hrd⟩,hget⟩:=hseq.get j _ hv;subst hcs;have hval:en.val = .slice A (mat m k).length c:=by
   have:=hget 0 _ rfl
   rw [show (cB e kt).sz=1 from rfl,Nat.mul_one,Nat.add_zero,List.getElem?_map,h2] at this
   exact Option.some.inj this
  refine gX _ ?_ (h A c hrd hl ⟨es,clock,hb,hks,.inl ⟨j,en,h2,h3,h4,hval⟩⟩);have hrun:(Instr.lookup t (.map (some b)) (ek k) ok).run P w = .ok (bif ok then .tuple #[.slice A (mat m k).length c,.bool true] else .slice A (mat m k).length c) w:=by
   simp only [Instr.lookup,Sem.run_bind,bD ht,Result.andThen,MapKept.run_getObj_map hb',hK.check,h1,hval,pure,Sem.run]
   cases ok <;> rfl
  simp only [execOp,hop,ha,hx,Sem.run_bind,hrun,Result.andThen,Sem.run,pure,e2]
theorem Du {m:List (κ×ν)}:(m.map (fun q=>(q.1,(Sum.inl q.2:ν ⊕ List Value)))).map (·.2)=(m.map (·.2)).map Sum.inl:=by simp [List.map_map,Function.comp_def]
theorem Dv {m:List (κ×ν)}:(m.map (fun q=>(q.1,(Sum.inl q.2:ν ⊕ List Value)))).map (fun p=>ek p.1)=m.map (fun p=>ek p.1):=by simp [List.map_map,Function.comp_def]
theorem Inv.takeM {α:Type} {kt:Ty α} {e:TypeId} {b n c:Nat} {A:Option Addr} {m:List (κ×List α)} {k:κ} (h:Inv M w L) (li:Nat) (hL:L[li]? = some (wG ek (cB e kt) b m))
  (hat:MapAt ek (hp w) b (m.map (·.1)) k (.slice A n c)) (hn:n=(mat m k).length) :
  Inv M w (.row kt e A (mat m k).length c (mat m k)::L.set li (wG ek (DV (cB e kt)) b (qO m k [.slice A (mat m k).length c]))):=by
 subst hn;refine h.part hL ?_;rintro F ⟨hFb,es,clock,hb,hks,hseq⟩;obtain ⟨es',clock',hb',hks',hat⟩:=hat;have hes:es'=es:=by rw [hb] at hb'; cases hb'; rfl
 subst hes;rcases hat with ⟨j,en,hj,hkj,hfst,hval⟩ | ⟨hno,hv⟩
 ·obtain ⟨hvj,_⟩:=KP hkj hfst;obtain ⟨c0,E1,E2,e1,e2,e3,e4,e5,e6,e7⟩:=(Be hseq).at (j:=j) (x:=Sum.inl (mat m k)) (by rw [List.getElem?_map,hvj]; rfl);have e4:(cB e kt).own (hp w) E1 (mat m k) c0:=e4;obtain ⟨A',cc,a2,hinner⟩:=e4;subst a2;have a1:(DV (cB e kt)).sz=1:=rfl;have h6:=e6 0 _ rfl;have h6':=h6
  rw [a1,Nat.mul_one,Nat.add_zero,List.getElem?_map,hj] at h6
  have h6:en.val=_:=Option.some.inj h6
  rw [hval] at h6
  cases h6;refine ⟨E1,fun b2=>F b2 ∧ ¬ E1 b2,fun b2 h=>(e1 b2 h).1,fun b2 h=>h.1,fun b2 h h'=>h'.2 h,⟨hinner,rfl⟩,⟨⟨hFb,fun h=>(e1 b h).2 rfl⟩,es',clock,hb,?_,?_⟩⟩
  ·rw [hks]
   have:=Fj (v:=[.slice A (mat m k).length c]) (m:=m) (x:=k);have:=congrArg (List.map ek) this
   simpa [List.map_map,Function.comp_def] using this.symm
  ·rw [Fp hkj hfst]
   have h7:=e7 (hp w) (fun _=>False) (fun b2=>(F b2 ∧ ¬ E1 b2)∧b2≠b) (Sum.inr [.slice A (mat m k).length c]) [.slice A (mat m k).length c] ⟨rfl,rfl,oneOf rfl⟩
    (fun _ _=>rfl) (fun _ h=>h.elim) (fun _ h=>h.elim) (fun b2 hE=>⟨⟨(e2 b2 hE).1,fun h=>e3 b2 h hE⟩,(e2 b2 hE).2⟩)
   rw [KV] at h7
   ·exact h7
   ·have hlt:=(List.getElem?_eq_some_iff.1 h6').1
    rw [a1] at hlt ⊢
    simp at hlt ⊢
    omega
   ·intro q u hu;have hq:q=0:=by
     have:=(List.getElem?_eq_some_iff.1 hu).1
     simpa using this
    subst hq;cases hu;exact h6'
 ·have hm:mat m k=[]:=(xU hno).1;have hA:A=none:=by injection hv
  have hc:c=0:=by injection hv
  refine ⟨fun _=>False,F,fun _ h=>h.elim,fun _ h=>h,fun _ h=>h.elim,⟨.inl ⟨hA,hc,hm⟩,rfl⟩,⟨hFb,es',clock,hb,?_,?_⟩⟩
  ·rw [Bc hno,Dv]; exact hks
  ·rw [Bc hno,Du]; exact Be hseq
def yE {α:Type} (ek:κ→Value) (kt:Ty α) (e:TypeId) (b:Nat) (m:List (κ×List α)) (k:κ) (A:Option Addr) (c:Nat):bV :=
 .any (fun H F=>(wG ek (cB e kt) b m).Own H F∧MapAt ek H b (m.map (·.1)) k (.slice A (mat m k).length c))
  (by intro H F F' h hF; exact ⟨h.1.mono hF,h.2⟩)
  (by
   intro H H' F h hF;refine ⟨h.1.congr hF,?_⟩;obtain ⟨⟨a1,_⟩,es,clock,h1,h2⟩:=h;exact ⟨es,clock,(hF _ a1).trans h1,h2⟩)
section
variable {α:Type} {kt:Ty α} {e:TypeId} {b c:Nat} {A:Option Addr} {m:List (κ×List α)} {k:κ}
theorem Inv.pin (h:Inv M w L) (li:Nat) (hL:L[li]? = some (wG ek (cB e kt) b m)) (hat:MapAt ek (hp w) b (m.map (·.1)) k (.slice A (mat m k).length c)):Inv M w (L.set li (yE ek kt e b m k A c)) :=
 h.turn hL (Nat.le_refl _) rfl rfl rfl fun F hF hown=>⟨F,⟨hown,hat⟩,fun _ _ _=>rfl,fun _ h => .inl h⟩
theorem Inv.unpin (h:Inv M w L) (li:Nat) (hL:L[li]? = some (yE ek kt e b m k A c)):Inv M w (L.set li (wG ek (cB e kt) b m)) :=
 h.turn hL (Nat.le_refl _) rfl rfl rfl fun F hF hown=>⟨F,hown.1,fun _ _ _=>rfl,fun _ h => .inl h⟩
theorem Inv.pinat (h:Inv M w L) (li:Nat) (hL:L[li]? = some (yE ek kt e b m k A c)):MapAt ek (hp w) b (m.map (·.1)) k (.slice A (mat m k).length c):=by
 obtain ⟨F1,_,hown⟩:=h.look hL;exact hown.2
theorem Inv.pinboth (h:Inv M w L) (li:Nat) (hL:L[li]? = some (yE ek kt e b m k A c)):rdS kt (hp w) A (mat m k)∧(mat m k).length≤c:=by
 obtain ⟨es',clock',hb',hks',hat⟩:=h.pinat li hL;have a1:(L.set li (wG ek (cB e kt) b m))[li]? = some (wG ek (cB e kt) b m):=by
  rw [List.getElem?_set_self (List.getElem?_eq_some_iff.1 hL).1]
 obtain ⟨es,clock,hb,hks,F,hseq⟩:=(h.unpin li hL).mapAtO li a1;have hes:es'=es:=by rw [hb] at hb'; cases hb'; rfl
 subst hes;rcases hat with ⟨j,en,hj,hkj,hfst,hval⟩ | ⟨hno,hv⟩
 ·obtain ⟨hvj,_⟩:=KP hkj hfst;obtain ⟨cs,⟨A',c',hcs,hl,hrd⟩,hget⟩:=hseq.get j _ hvj;subst hcs;have h6:=hget 0 _ rfl
  rw [show (cB e kt).sz=1 from rfl,Nat.mul_one,Nat.add_zero,List.getElem?_map,hj] at h6
  have h6:en.val=_:=Option.some.inj h6
  rw [hval] at h6
  injection h6 with h7 h8 h9
  subst h7 h9;exact ⟨hrd,hl⟩
 ·have hm:mat m k=[]:=(xU hno).1;exact ⟨.inl hm,by rw [hm]; exact Nat.zero_le _⟩
theorem Inv.pinrd (h:Inv M w L) (li:Nat) (hL:L[li]? = some (yE ek kt e b m k A c)):rdS kt (hp w) A (mat m k):=(h.pinboth li hL).1
theorem Inv.pinle (h:Inv M w L) (li:Nat) (hL:L[li]? = some (yE ek kt e b m k A c)):(mat m k).length≤c:=(h.pinboth li hL).2
theorem Inv.takeP (h:Inv M w L) (li:Nat) (hL:L[li]? = some (yE ek kt e b m k A c)) :
  Inv M w (.row kt e A (mat m k).length c (mat m k)::L.set li (wG ek (DV (cB e kt)) b (qO m k [.slice A (mat m k).length c]))):=by
 have a1:(L.set li (wG ek (cB e kt) b m))[li]? = some (wG ek (cB e kt) b m):=by
  rw [List.getElem?_set_self (List.getElem?_eq_some_iff.1 hL).1]
 have:=(h.unpin li hL).takeM li a1 (h.pinat li hL) rfl
 rwa [List.set_set] at this
end
theorem Inv.mapback {kv:Ty ν} {b:Nat} {ys:List (κ×(ν ⊕ List Value))} (h:Inv M w L) (li:Nat) (m:List (κ×ν)) (hL:L[li]? = some (wG ek (DV kv) b ys)) (hz:ys=m.map (fun q=>(q.1,.inl q.2))) :
  Inv M w (L.set li (wG ek kv b m)):=by
 subst hz;refine h.turn hL (Nat.le_refl _) rfl rfl rfl ?_;rintro F hF ⟨h1,es,clock,h2,h3,h4⟩
 rw [Du] at h4
 rw [Dv] at h3
 exact ⟨F,⟨h1,es,clock,h2,h3,Dz h4⟩,fun _ _ _=>rfl,fun _ h => .inl h⟩
theorem Df {kv:Ty ν} (t kty et:TypeId) (a x y:Operand) (li:Nat) (js rest:List Nat) (R L':List bV) (b:Nat) (m:List (κ×ν)) (k:κ) (v:ν) (u:Value) (hop:o.op = .mapUpdate t a x y) (ht:P.underlying t=some (.map kty et)) (hK:FX P kty ek)
  (ha:ev_ a = .map (some b)) (hx:ev_ x=ek k) (hy:ev_ y=u) (a4:kv.sz=1) (hI:Inv M w L) (hn:(li::(js++rest)).Nodup) (hL:(li::(js++rest)).map (L[·]?)=(wG ek kv b m::(R++L')).map some) (hmk:Mk kv R v [u])
  (h:∀ w',Inv M w' (wG ek kv b (gG m k v)::L')→K undef w'):Eff P o ev_ w K:=by
 have a1:=hI.pick _ hn hL;obtain ⟨F1,F2,h1,h2,h3,⟨hFb,es,clock,hb,hks,hseq⟩,hsep⟩:=a1.sep;obtain ⟨G1,G2,g1,g2,g3,hsR,hsL⟩:=hsep.split;have hy':=hmk _ _ hsR;have hb':w.heap[b]? = some (.map es clock):=hb;have a3:¬ F2 b:=h3 _ hFb;have hblt:b < w.heap.size:=(h1 _ hFb).2;have key:∃ es' clock',(Instr.mapUpdate t (.map (some b)) (ek k) u).run P w = .ok () { w with heap:=w.heap.setIfInBounds b (.map es' clock') }∧es'.toList.map (·.key)=(gG m k v).map (fun p=>ek p.1) ∧
   ∀ H',(∀ b2,b2≠b→H' b2=hp w b2)→bX kv H' (fun b2=>(F1 b2∨G1 b2)∧b2≠b) ((gG m k v).map (·.2)) (es'.toList.map (·.val)):=by
  have hG:∀ b2,G1 b2→b2≠b:=fun b2 hG e=>a3 (e ▸ g1 b2 hG);rcases hK.find w k es.toList _ (Fs hks) with ⟨q1,q2⟩ | ⟨j,e,q1,q2,q3,q4⟩
  ·refine ⟨es.push { key:=ek k,val:=u,born:=clock },clock + 1,?_,?_,?_⟩
   ·simp only [Instr.mapUpdate,Sem.run_bind,bD ht,Result.andThen,MapKept.run_getObj_map hb',hK.check,q1,MapKept.run_setObj_map _ hb',pure,Sem.run]
   ·rw [Ak q2,Array.toList_push,List.map_append,hks,List.map_append]; rfl
   ·intro H' hH
    rw [Ak q2,Array.toList_push,List.map_append,List.map_append]
    have:=(hseq.congr (H':=H') (fun b2 q=>hH b2 q.2)).snoc (G:=G1) (kv.own_congr hy' (fun b2 q=>hH b2 (hG b2 q))) (fun b2 q q'=>h3 b2 q.1 (g1 b2 q'));exact this.mono (fun b2 q=>q.elim (fun q=>⟨.inl q.1,q.2⟩) (fun q=>⟨.inr q,hG b2 q⟩))
  ·have hj:es[j]? = some e:=by simpa using q2
   have hvj:∃ v0,(m.map (·.2))[j]? = some v0:=by
    have hlt:=(List.getElem?_eq_some_iff.1 q3).1
    rw [List.length_map] at hlt
    exact ⟨m[j].2,by rw [List.getElem?_map,List.getElem?_eq_getElem hlt]; rfl⟩
   obtain ⟨v0,a5⟩:=hvj;have hek:e.key=ek k:=by
    have:=congrArg (·[j]?) (Fs hks)
    simp only [List.getElem?_map,q2] at this
    rw [List.getElem?_map] at q3
    cases hm:m[j]? with
    | none=>rw [hm] at q3; cases q3
    | some p =>
     rw [hm] at this q3
     have h5:p.1=k:=Option.some.inj q3;have h6:e.key=ek p.1:=Option.some.inj this
     rw [h6,h5]
   refine ⟨es.modify j (fun e=>{ e with key:=ek k,val:=u }),clock,?_,?_,?_⟩
   ·simp only [Instr.mapUpdate,Sem.run_bind,bD ht,Result.andThen,MapKept.run_getObj_map hb',hK.check,q1,hj,Option.map_some,Option.getD_some,hek,hK.stays,MapKept.run_setObj_map _ hb',pure,Sem.run]
   ·rw [Al q3 q4,List.map_set,← hks]
    apply List.ext_getElem?
    intro i;have hjl:j < es.toList.length:=(List.getElem?_eq_some_iff.1 q2).1
    rw [List.getElem?_map,Array.getElem?_toList,Array.getElem?_modify,List.getElem?_set,List.length_map]
    by_cases e':j=i
    ·subst e'
     rw [if_pos rfl,if_pos rfl,if_pos hjl,hj]
     rfl
    ·rw [if_neg e',if_neg e',List.getElem?_map,Array.getElem?_toList]
   ·intro H' hH
    rw [Al q3 q4,List.map_set]
    obtain ⟨c0,E1,E2,e1,e2,e3,e4,e5,e6,e7⟩:=hseq.at a5;have h7:=e7 H' G1 (fun b2=>(F1 b2∨G1 b2)∧b2≠b) v [u] (kv.own_congr hy' (fun b2 q=>hH b2 (hG b2 q))) (fun b2 q=>hH b2 (e2 b2 q).2) (fun b2 q q'=>h3 b2 (e2 b2 q').1 (g1 b2 q))
     (fun b2 q=>⟨.inr q,hG b2 q⟩) (fun b2 q=>⟨.inl (e2 b2 q).1,(e2 b2 q).2⟩)
    have hv:(es.modify j (fun e=>{ e with key:=ek k,val:=u })).toList.map (·.val)=splice (es.toList.map (·.val)) (j * kv.sz) [u]:=by
     have hjl:j < es.toList.length:=(List.getElem?_eq_some_iff.1 q2).1
     rw [a4,Nat.mul_one]
     apply List.ext_getElem?
     intro i;unfold splice
     rw [List.getElem?_map,Array.getElem?_toList,Array.getElem?_modify]
     have hjl':j < es.size:=by simpa using hjl
     rcases Nat.lt_trichotomy i j with hi | hi | hi
     ·rw [if_neg (by omega),List.getElem?_append_left (by simp; omega),List.getElem?_take,if_pos hi,List.getElem?_map,Array.getElem?_toList]
     ·subst hi
      rw [if_pos rfl,hj,List.getElem?_append_right (by simp; omega)]
      simp [Nat.min_eq_left (Nat.le_of_lt hjl')]
     ·rw [if_neg (by omega),List.getElem?_append_right (by simp; omega),List.length_take,List.length_map,Nat.min_eq_left (by omega),List.singleton_append]
      obtain ⟨d,hd⟩:∃ d,i=j + (d + 1):=⟨i - j - 1,by omega⟩
      subst hd
      rw [Nat.add_sub_cancel_left,List.getElem?_cons_succ,List.getElem?_drop,List.getElem?_map,Array.getElem?_toList]
      simp only [List.length_singleton]
      rw [show j + (d + 1)=j + 1 + d by omega]
    rw [hv]
    exact h7
 obtain ⟨es',clock',hrun,hk',hs'⟩:=key;have hset:=MapKept.heap_set (w:=w) (o' := .map es' clock') hb';have hother:∀ b2,b2≠b→hp { w with heap:=w.heap.setIfInBounds b (.map es' clock') } b2=hp w b2:=fun b2 hne=>hset.2 b2 hne;refine Ce (w':={ w with heap:=w.heap.setIfInBounds b (.map es' clock') }) ?_ (h _ ?_)
 ·simp only [execOp,hop,ha,hx,hy,Sem.run_bind,hrun,Result.andThen,Sem.run,pure]
 ·refine ⟨fun b2 o2 a2 => ?_,by simpa using a1.size,a1.os,a1.tape,a1.output,?_⟩
  ·rw [hother b2 (fun e=>by subst e; rw [(h1 _ hFb).1] at a2; cases a2)]
   exact a1.fix b2 o2 a2
  ·have hsz:({ w with heap:=w.heap.setIfInBounds b (.map es' clock') }:World).heap.size=w.heap.size:=by simp
   rw [hsz]
   refine ⟨fun b2=>F1 b2∨G1 b2,G2,fun b2 q=>q.elim (h1 b2) (fun q=>h2 b2 (g1 b2 q)),fun b2 q=>h2 b2 (g2 b2 q),?_,⟨.inl hFb,es',clock',hset.1,hk',hs' _ hother⟩,hsL.congr (fun b2 q=>hother b2 (fun e=>a3 (e ▸ g2 b2 q)))⟩;rintro b2 (q | q) q'
   ·exact h3 b2 q (g2 b2 q')
   ·exact g3 b2 q q'
end
def BV {α:Type} (k:Ty α) (ys:List α) (cs:List Value):bV := .any (fun H F=>bX k H F ys cs) (fun h hF=>h.mono hF) (fun h hF=>h.congr hF)
section
variable {P:Program} {o:Oper} {ev_:Operand→Value} {K:Value→World→Prop} {w:World} {M:Mem} {L:List bV}
theorem Inv.openseq {α:Type} {kt:Ty α} {e:TypeId} {b n c:Nat} {xs:List α} (hI:Inv M w L) (li:Nat) (hL:L[li]? = some (.row kt e (some ⟨b,0,none⟩) n c xs)) :
  ∃ cs,Inv M w (BV kt xs (cs.take (n * kt.sz))::L.set li (.blk b e cs))∧cs.length=c * kt.sz∧xs.length=n∧n≤c∧c≤maxLen:=by
 obtain ⟨F1,a5,hown⟩:=hI.look hL;obtain ⟨hr,hln⟩:=hown;subst hln;rcases hr with ⟨h0,_⟩ | ⟨b',arr,hA,hFb,hb,hlc,hcm,hsz,hseq⟩
 ·cases h0
 ·cases hA;refine ⟨arr.toList,?_,by simpa using hsz,rfl,hlc,hcm⟩
  refine hI.part hL ?_;rintro F ⟨hr,_⟩;rcases hr with ⟨h0,_⟩ | ⟨b2,a3,a4,a2,a1,_,_,_,hseq2⟩
  ·cases h0
  ·cases a4;have:a3=arr:=by rw [hb] at a1; cases a1; rfl
   subst this;exact ⟨fun b'=>F b'∧b'≠b,fun b'=>b'=b,fun b' q=>q.1,fun b' q=>q ▸ a2,fun b' q q'=>q.2 q',hseq2,rfl,by simpa using a1⟩
end
section
variable {P:Program} {o:Oper} {ev_:Operand→Value} {K:Value→World→Prop} {w:World} {M:Mem} {L:List bV}
theorem Inv.tail {a:bV} (h:Inv M w (a::L)):Inv M w L:=by
 obtain ⟨F1,F2,h1,h2,h3,h4,h5⟩:=h.sep;exact ⟨h.fix,h.size,h.os,h.tape,h.output,h5.mono h2⟩
def noM:BM:=fun _=>none
theorem Ib {H:BM}:Sub noM H:=fun _ _ h=>nomatch h
def orA {α:Type} (N:BM) (k:Ty α) (e:TypeId) (A:Option Addr) (n c:Nat) (xs:List α):bV :=
 .any (fun H F=>(∃ N':BM,(∀ b o,N' b=some o→N b=some o∨(F b∧H b=some o))∧rdS k N' A xs∧xs.length≤c)∧xs.length=n)
  (fun ⟨⟨N',h1,h2⟩,hn⟩ hF=>⟨⟨N',fun b o h=>(h1 b o h).imp id fun h=>⟨hF b h.1,h.2⟩,h2⟩,hn⟩)
  (fun ⟨⟨N',h1,h2⟩,hn⟩ hF=>⟨⟨N',fun b o h=>(h1 b o h).imp id fun h=>⟨h.1,(hF b h.1).trans h.2⟩,h2⟩,hn⟩)
section
variable {α:Type} {k:Ty α} {e:TypeId} {A A':Option Addr} {n c c':Nat} {xs ys:List α} {N N':BM}
theorem Inv.addOr (h:Inv M w L) (e:TypeId) (hr:rdS k N A xs) (hl:xs.length≤c) (hn:xs.length=n):Inv M w (L++[orA N k e A n c xs]):=by
 refine ⟨h.fix,h.size,h.os,h.tape,h.output,?_⟩;have ho:(orA N k e A n c xs).Own (hp w) (fun _=>False):=⟨⟨N,fun _ _ h => .inl h,hr,hl⟩,hn⟩;exact (h.sep.append (G:=fun _=>False) (m:=[orA N k e A n c xs]) ⟨fun _=>False,fun _=>False,fun _ h=>h,fun _ h=>h,fun _ h=>h.elim,ho,trivial⟩ (fun _ _ h=>h)).mono fun b hb=>hb.elim id False.elim
open Classical in
theorem eG.part {H:BM} {F:Nat→Prop} (h:eG k e H F A c xs):∃ N':BM,(∀ b o,N' b=some o→F b∧H b=some o)∧rdS k N' A xs:=by
 refine ⟨fun b=>if F b then H b else none,fun b o hb => ?_,eG.rd (h.congr (H':=fun b=>if F b then H b else none) fun b hb=>if_pos hb)⟩
 by_cases hF:F b
 ·exact ⟨hF,by simpa only [hF,if_true] using hb⟩
 ·simp only [hF,if_false] at hb
  cases hb
theorem Inv.toOr (h:Inv M w L) (i:Nat) (N:BM) (hL:L[i]? = some (.row k e A n c xs)):Inv M w (L.set i (orA N k e A n c xs)) :=
 h.turn hL (Nat.le_refl _) rfl rfl rfl fun F hF hown=>⟨F,⟨let ⟨N',h1,h2⟩:=eG.part hown.1; ⟨N',fun b o hb => .inr (h1 b o hb),h2,hown.1.le⟩,hown.2⟩,fun _ _ _=>rfl,fun _ h => .inl h⟩
theorem Inv.orsub (h:Inv M w L) (i:Nat) (hL:L[i]? = some (orA N k e A n c xs)) (hs:∀ H,rdS k H A xs→rdS k H A' ys) (hl:ys.length≤c'):Inv M w (L.set i (orA N k e A' ys.length c' ys)) :=
 h.turn hL (Nat.le_refl _) rfl rfl rfl fun F hF ⟨⟨N',h1,h2,_⟩,_⟩=>⟨F,⟨⟨N',h1,hs _ h2,hl⟩,rfl⟩,fun _ _ _=>rfl,fun _ h => .inl h⟩
theorem Inv.orrd (h:Inv M w L) (i:Nat) (hs:Sub N (hp w)) (hL:L[i]? = some (orA N k e A n c xs)):rdS k (hp w) A xs:=by
 obtain ⟨F1,_,⟨N',h1,h2,_⟩,_⟩:=h.look hL;exact h2.mono fun b o hb=>(h1 b o hb).elim (hs b o) (·.2)
theorem Inv.orle (h:Inv M w L) (i:Nat) (hL:L[i]? = some (orA N k e A n c xs)):xs.length≤c:=by
 obtain ⟨F1,_,⟨N',h1,h2,h3⟩,_⟩:=h.look hL;exact h3
end
theorem OZ (t e:TypeId) (n:Nat) (ps:Array (Nat×Operand)) (inf:TypeInfo) (z:Value) (arr:Array Value) (cs:List Value) (hop:o.op = .buildSlice t n ps)
  (ht:P.underlying t=some (.slice e)) (hi:P.info? e=some inf) (hz:inf.zero=some z) (hn:Nat.ble (n * inf.size) 1024=true) (hpos:Nat.blt 0 (n * inf.size)=true)
  (hfill:Instr.fill (fun i=>some (i * inf.size,inf.size)) ((Array.range (n * inf.size)).map (z.cells[· % z.cells.size]!)) (ps.map fun p=>(p.1,ev_ p.2)).toList=some arr) (hcs:arr.toList=cs) (hI:Inv M w L)
  (h:∀ b w',Sub (hp w) (hp w')→Inv M w' (L++[.blk b e cs])→K (.slice (some ⟨b,0,none⟩) n n) w'):Eff P o ev_ w K:=by
 subst hcs;have h1:=Nat.le_of_ble_eq_true hn;have h2:0 < n * inf.size:=Nat.le_of_ble_eq_true hpos;refine gX (.slice (some ⟨w.heap.size,0,none⟩) n n) (w':=w.alloc (.cells arr e)) ?_ ?_
 ·have h3:¬ n * inf.size > 2 ^ 24:=by omega
  have h4:¬ n * inf.size=0:=by omega
  simp only [execOp,hop,Instr.buildSlice,Sem.run_bind,bD ht,Result.andThen,run_sizeOf hi,h3,h4,if_false,Sem.run,pure]
  simp only [zeroValue,typeInfo,program,Sem.run_bind,Sem.run,hi,hz,Result.andThen,pure,hfill,newRow,newObj]
  rfl
 ·have:=hI.alloc_blk e arr.toList
  rw [Array.toArray_toList] at this
  refine h _ _ (fun b o hb => ?_) this;have hlt:b < w.heap.size:=(Array.getElem?_eq_some_iff.1 hb).1;exact (BR w _ hlt).trans hb
end
end Go.Proofs.YtfpeabnehpclnaaGreatDoorE
namespace Go.Proofs.YtfpeabnehpclnaaGreatDoorE
open Go
set_option linter.unusedVariables false
set_option linter.unusedSimpArgs false
section
variable {M:Mem} {w:World} {L:List bV}
variable {P:Program} {o:Oper} {ev_:Operand→Value} {K:Value→World→Prop}
end
end Go.Proofs.YtfpeabnehpclnaaGreatDoorE
namespace Go.Proofs.YtfpeabnehpclnaaGreatDoorE
open Go
set_option linter.unusedVariables false
set_option linter.unusedSimpArgs false
theorem bX.cut {α:Type} {k:Ty α} {H:BM}:∀ {xs ys:List α} {F:Nat→Prop} {cs:List Value},bX k H F (xs++ys) cs →
  ∃ G1 G2,(∀ b,G1 b→F b)∧(∀ b,G2 b→F b)∧(∀ b,G1 b → ¬ G2 b)∧bX k H G1 xs (cs.take (xs.length * k.sz))∧bX k H G2 ys (cs.drop (xs.length * k.sz))
 | [],ys,F,cs,h=>⟨fun _=>False,F,fun _ h=>h.elim,fun _ h=>h,fun _ h=>h.elim,by simp [bX],by simpa using h⟩
 | x::xs,ys,F,cs,⟨c1,c2,F1,F2,e,h1,h2,h3,h4,h5⟩=>by
  obtain ⟨G1,G2,g1,g2,g3,g4,g5⟩:=h5.cut;have hl:=k.rd_len (k.own_rd h4);have e1:cs.take ((x::xs).length * k.sz)=c1++c2.take (xs.length * k.sz):=by
   rw [e,List.length_cons,Nat.add_mul,Nat.one_mul,Nat.add_comm,← hl,List.take_length_add_append]
  have e2:cs.drop ((x::xs).length * k.sz)=c2.drop (xs.length * k.sz):=by
   rw [e,List.length_cons,Nat.add_mul,Nat.one_mul,Nat.add_comm,← hl,List.drop_length_add_append]
  rw [e1,e2]
  refine ⟨fun b=>F1 b∨G1 b,G2,fun b h=>h.elim (h1 b) (fun h=>h2 b (g1 b h)),fun b h=>h2 b (g2 b h),?_,⟨c1,_,F1,G1,rfl,fun _ h => .inl h,fun _ h => .inr h,fun b h h'=>h3 b h (g1 b h'),h4,g4⟩,g5⟩;rintro b (h | h) h'
  ·exact h3 b h (g2 b h')
  ·exact g3 b h h'
section
variable {M:Mem} {w:World} {L:List bV} {α:Type} {k:Ty α}
theorem Inv.cutseq {xs ys zs:List α} {cs:List Value} (hI:Inv M w L) (li:Nat) (hz:zs=xs++ys) (hL:L[li]? = some (BV k zs cs)) :
  Inv M w (BV k xs (cs.take (xs.length * k.sz))::L.set li (BV k ys (cs.drop (xs.length * k.sz)))):=by
 subst hz;refine hI.part hL ?_;intro F h;obtain ⟨G1,G2,g1,g2,g3,g4,g5⟩:=bX.cut (show bX k (hp w) F (xs++ys) cs from h);exact ⟨G1,G2,g1,g2,g3,g4,g5⟩
theorem Inv.joinseq {xs ys:List α} {cs ds:List Value} (hI:Inv M w (BV k xs cs::BV k ys ds::L)):Inv M w (BV k (xs++ys) (cs++ds)::L):=by
 obtain ⟨F1,F2,h1,h2,h3,h4,G1,G2,g1,g2,g3,g4,g5⟩:=hI.sep;refine ⟨hI.fix,hI.size,hI.os,hI.tape,hI.output,fun b=>F1 b∨G1 b,G2,fun b h=>h.elim (h1 b) (fun h=>h2 b (g1 b h)),fun b h=>h2 b (g2 b h),?_,?_,g5⟩
 ·rintro b (h | h) h'
  ·exact h3 b h (g2 b h')
  ·exact g3 b h h'
 ·exact bX.append (show bX k (hp w) F1 xs cs from h4) (show bX k (hp w) G1 ys ds from g4) (fun b h h'=>h3 b h (g1 b h'))
theorem Inv.closeseq {e:TypeId} {b c:Nat} {xs:List α} {cs ds:List Value} (hI:Inv M w (BV k xs cs :: .blk b e ds::L)) (hlen:ds.length=c * k.sz) (hcs:ds.take (xs.length * k.sz)=cs) (hlc:xs.length≤c) (hcm:c≤maxLen) :
  Inv M w (.row k e (some ⟨b,0,none⟩) xs.length c xs::L):=by
 obtain ⟨F1,F2,h1,h2,h3,h4,G1,G2,g1,g2,g3,⟨hFb,hb⟩,g5⟩:=hI.sep;refine ⟨hI.fix,hI.size,hI.os,hI.tape,hI.output,fun b=>F1 b∨G1 b,G2,fun b h=>h.elim (h1 b) (fun h=>h2 b (g1 b h)),fun b h=>h2 b (g2 b h),?_,⟨.inr ⟨b,ds.toArray,rfl,.inr hFb,hb,hlc,hcm,by simpa using hlen,?_⟩,rfl⟩,g5⟩
 ·rintro b (h | h) h'
  ·exact h3 b h (g2 b h')
  ·exact g3 b h h'
 ·rw [show ds.toArray.toList=ds from rfl,hcs]
  exact bX.mono (show bX k (hp w) F1 xs cs from h4) (fun b' h=>⟨.inl h,fun e=>h3 b' h (g1 b' (e ▸ hFb))⟩)
theorem Rv {x:α} {c:List Value} {H:BM} {F:Nat→Prop} (h:(BV k [x] c).Own H F):k.rd H x c:=by
 obtain ⟨c1,c2,G1,G2,e1,_,_,_,h4,h5⟩:=show bX k H F [x] c from h;have:c2=[]:=h5;subst this
 rw [List.append_nil] at e1
 subst e1;exact k.own_rd h4
theorem Inv.grpAt {e:TypeId} {b q:Nat} {c cs:List Value} (hI:Inv M w L) (lj:Nat) (hB:L[lj]? = some (.blk b e cs)) (hc:∀ j u,c[j]? = some u→cs[q + j]? = some u):Grp.ok w (b,0 + q,c):=by
 intro j u hu;have:=hI.grp lj hB (q + j) u (hc j u hu)
 simpa [Nat.add_assoc] using this
end
def Sn (X:BM):bV := .any (fun H F=>∀ b o,X b=some o→F b∧H b=some o) (fun h hF=>fun b o hb=>⟨hF b (h b o hb).1,(h b o hb).2⟩)
 (fun h hF=>fun b o hb=>⟨(h b o hb).1,(hF b (h b o hb).1).trans (h b o hb).2⟩)
section
variable {M:Mem} {w:World} {L:List bV} {α:Type} {k kL:Ty α}
open Classical in
theorem Inv.lendX {a:bV} (h:Inv M w L) (i:Nat) (hi:L[i]? = some a) :
  ∃ (M':Mem) (F:Nat→Prop) (X:BM),Sub M.blk M'.blk∧(∀ w' L',Inv M' w' L'→Inv M w' (a::L'))∧a.Own M'.blk F∧Inv M' w (L.set i Sq)∧Sub X M'.blk∧a.Own X F∧∀ w' L',Inv M' w' L'→Inv M w' (Sn X::L'):=by
 obtain ⟨F1,F2,h1,h2,h3,hown,hsep⟩:=h.sep.take hi;have hat:∀ b,F1 b→(if F1 b then hp w b else M.blk b)=hp w b:=fun b hb=>if_pos hb;have hsome:∀ b,F1 b→∃ o,hp w b=some o:=fun b hb=>by
  have:=(h1 b hb).2;exact ⟨w.heap[b],by simp [hp,this]⟩
 have hsub:Sub M.blk (fun b=>if F1 b then hp w b else M.blk b):=fun b o hb=>by
  show (if F1 b then hp w b else M.blk b)=some o
  split
  ·exact h.fix b o hb
  ·exact hb
 have key:∀ (a':bV),(∀ w',(∀ b,F1 b→hp w' b=hp w b)→a'.Own (hp w') F1)→∀ w' L',Inv { M with blk:=fun b=>if F1 b then hp w b else M.blk b,n:=w.heap.size } w' L'→Inv M w' (a'::L'):=by
  intro a' ha w' L' h';have hsz:w.heap.size≤w'.heap.size:=h'.size;have hsame:∀ b,F1 b→hp w' b=hp w b:=fun b hb=>by
   obtain ⟨o,ho⟩:=hsome b hb
   rw [ho]
   exact h'.fix b o ((hat b hb).trans ho)
  refine ⟨fun b o hb=>h'.fix b o (hsub b o hb),Nat.le_trans h.size hsz,h'.os,h'.tape,h'.output,F1,fun b=>(if F1 b then hp w b else M.blk b)=none∧b < w'.heap.size,fun b hb=>⟨(h1 b hb).1,Nat.lt_of_lt_of_le (h1 b hb).2 hsz⟩,fun b hb=>⟨?_,hb.2⟩,fun b hb hb' => ?_,ha w' hsame,h'.sep⟩
  ·have h0:=hb.1
   split at h0
   ·rename_i hF
    exact (h1 b hF).1
   ·exact h0
  ·have h0:=hb'.1
   rw [hat b hb] at h0
   obtain ⟨o,ho⟩:=hsome b hb
   rw [ho] at h0
   cases h0
 refine ⟨{ M with blk:=fun b=>if F1 b then hp w b else M.blk b,n:=w.heap.size },F1,fun b=>if F1 b then hp w b else none,hsub,key a fun w' hw=>hown.congr fun b hb=>hw b hb,hown.congr hat,?_,?_,hown.congr fun b hb=>if_pos hb,key (Sn _) fun w' hw => ?_⟩
 ·refine ⟨fun b o hb => ?_,Nat.le_refl _,h.os,h.tape,h.output,hsep.mono fun b hb=>⟨?_,(h2 b hb).2⟩⟩
  ·have hb:(if F1 b then hp w b else M.blk b)=some o:=hb
   split at hb
   ·exact hb
   ·exact h.fix b o hb
  ·show (if F1 b then hp w b else M.blk b)=none
   rw [if_neg (fun hF=>h3 b hF hb)]
   exact (h2 b hb).1
 ·intro b o hb
  show (if F1 b then hp w b else M.blk b)=some o
  by_cases hF:F1 b
  ·simpa [hF] using hb
  ·simp [hF] at hb
 ·intro b o hb
  by_cases hF:F1 b
  ·refine ⟨hF,?_⟩
   rw [hw b hF]
   simpa [hF] using hb
  ·simp [hF] at hb
end
theorem Ic {cs vs:List Value} {j n:Nat} (hj:j≤cs.length) (hn:vs.length=n):(splice cs j vs).take (j + n)=cs.take j++vs:=by
 subst hn;unfold splice;have:(cs.take j).length=j:=by rw [List.length_take]; omega
 rw [← List.append_assoc,show j + vs.length=(cs.take j++vs).length by rw [List.length_append,this],List.take_left]
theorem Ie {cs vs:List Value} {j n:Nat} (hj:j≤cs.length) (hn:n≤j):(splice cs j vs).take n=cs.take n:=by
 unfold splice;have:(cs.take j).length=j:=by rw [List.length_take]; omega
 rw [List.take_append_of_le_length (by omega),List.take_take,Nat.min_eq_left hn]
theorem JF {cs vs:List Value} {j m:Nat} (hj:j + vs.length≤cs.length) (hm:j + vs.length≤m):(splice cs j vs).drop m=cs.drop m:=by
 unfold splice;have:(cs.take j).length=j:=by rw [List.length_take]; omega
 rw [← List.append_assoc,show m=(cs.take j++vs).length + (m - (j + vs.length)) by rw [List.length_append,this]; omega,List.drop_length_add_append,List.drop_drop,List.length_append,this]
theorem JG {cs vs:List Value} {j m:Nat} (hj:j + vs.length≤cs.length) (hm:j + vs.length≤m):(splice cs j vs)[m]? = cs[m]? := by
 have h:=congrArg (fun l=>l[0]?) (JF hj hm)
 simpa [List.getElem?_drop] using h
theorem JH {cs:List Value} {n j:Nat} {u:Value} (h:(cs.take n)[j]? = some u):cs[j]? = some u:=by
 rw [List.getElem?_take] at h
 split at h
 ·exact h
 ·cases h
theorem drop_at {α:Type} [Inhabited α] (xs:List α) (x:Int) (h:0≤x∧x < (xs.length:Int)):xs.drop x.toNat=[idx xs x]++xs.drop (x.toNat + 1):=by
 have hx:x.toNat < xs.length:=by omega
 have hj:xs[x.toNat]? = some (idx xs x):=Pf (xs:=xs) (by omega)
 rw [List.drop_eq_getElem_cons hx]
 rw [List.getElem?_eq_getElem hx] at hj
 rw [Option.some.inj hj]
 rfl
end Go.Proofs.YtfpeabnehpclnaaGreatDoorE
namespace Go.Proofs.YtfpeabnehpclnaaGreatDoorE
open Go Go.Proofs
set_option linter.unusedVariables false
set_option linter.unusedSimpArgs false
abbrev vI (x:Int):Value := .int .i64 x
abbrev vP (b o:Nat):Value := .pointer (some ⟨b,o,none⟩)
abbrev vS (a:Option Addr) (n c:Nat):Value := .slice a n c
abbrev vB (b:Bool):Value := .bool b
theorem gO {w:World}:pV w []:=trivial
theorem gA {w:World} {a:Grp} (h:Grp.ok w a):pV w [a]:=⟨h,trivial⟩
theorem gB {w:World} {a b:Grp} (h:Grp.ok w a) (h2:Grp.ok w b):pV w [a,b]:=⟨h,h2,trivial⟩
theorem gC {w:World} {a b c:Grp} (h:Grp.ok w a) (h2:Grp.ok w b) (h3:Grp.ok w c):pV w [a,b,c]:=⟨h,h2,h3,trivial⟩
theorem gD {w:World} {a b c d:Grp} (h:Grp.ok w a) (h2:Grp.ok w b) (h3:Grp.ok w c) (h4:Grp.ok w d):pV w [a,b,c,d]:=⟨h,h2,h3,h4,trivial⟩
theorem gK {w:World} {a:Grp} {r:List Grp} (h:Grp.ok w a) (hr:pV w r):pV w (a::r):=⟨h,hr⟩
def nfB (E:Env) (ops:Array Oper) (G:List Grp) (hs:List Hint) (i:Nat) (f:Nat→Value):Nat→Value:=(lL (iU E.P E.N ops G hs i f)).getD f
theorem JE {E:Env} {ops:Array Oper} {G:List Grp} {hs:List Hint} {i:Nat} {f:Nat→Value} (h:(lL (iU E.P E.N ops G hs i f)).isSome=true) :
  lL (iU E.P E.N ops G hs i f)=some (nfB E ops G hs i f):=by
 unfold nfB;cases e:lL (iU E.P E.N ops G hs i f) with
 | none=>rw [e] at h; cases h
 | some g=>rfl
theorem bx {E:Env} {ops:Array Oper} {k:List Item} {w:World} {f:Nat→Value} (i:Nat) (hs:List Hint) {G:List Grp} (hG:pV w G) (bs:List (Int×Nat)) (hB:uW bs)
  (h:GoO E ops (i + hs.length) k (nfB E ops G hs i f) w) (hr:(lL (iU E.P E.N ops G hs i f)).isSome=true:=by kernel_rfl)
  (ha:ig (iU E.P E.N ops G hs i f) true=ig (iU E.P E.N ops G hs i f) false:=by kernel_rfl)
  (hb:uH (iU E.P E.N ops G hs i f)=bs:=by kernel_rfl):GoO E ops i k f w:=by
 refine Rd.go (n:=hs.length + 0) (Dh i G hs _ bs hG hB (JE hr) ha hb ?_)
 simpa [Rd] using h
theorem bg {E:Env} {ops:Array Oper} {k:List Item} {w:World} {f:Nat→Value} (i:Nat) (hs:List Hint) {G:List Grp} (hG:pV w G)
  (h:GoO E ops (i + hs.length) k (nfB E ops G hs i f) w) (hr:(lL (iU E.P E.N ops G hs i f)).isSome=true:=by kernel_rfl)
  (ha:ig (iU E.P E.N ops G hs i f) true=ig (iU E.P E.N ops G hs i f) false:=by kernel_rfl)
  (hb:uH (iU E.P E.N ops G hs i f)=[]:=by kernel_rfl):GoO E ops i k f w:=bx i hs hG [] trivial h hr ha hb
theorem bp {E:Env} {ops:Array Oper} {k:List Item} {w:World} {f:Nat→Value} (i n:Nat)
  (h:GoO E ops (i + n) k (nfB E ops [] (List.replicate n .p) i f) w) (hr:(lL (iU E.P E.N ops [] (List.replicate n .p) i f)).isSome=true:=by kernel_rfl)
  (ha:ig (iU E.P E.N ops [] (List.replicate n .p) i f) true=ig (iU E.P E.N ops [] (List.replicate n .p) i f) false:=by kernel_rfl)
  (hb:uH (iU E.P E.N ops [] (List.replicate n .p) i f)=[]:=by kernel_rfl):GoO E ops i k f w :=
 bx i _ gO [] trivial (by rw [List.length_replicate]; exact h) hr ha hb
theorem bZ {x:Int} {n:Nat} (h:0≤x∧x < (n:Int)):uW [(x,n)]:=⟨h,trivial⟩
theorem bC {x:Int} {n:Nat} {r:List (Int×Nat)} (h:0≤x∧x < (n:Int)) (hr:uW r):uW ((x,n)::r):=⟨h,hr⟩
theorem rp {E:Env} {id:Nat} {ops:Array Oper} {k:List Item} {w:World} {f:Nat→Value} (n:Nat)
  (h:Go E k (nfB E ops [] (List.replicate n .p) 0 f) w) (hn:Nat.ble ops.size (0 + n)=true:=by kernel_rfl) (hr:(lL (iU E.P E.N ops [] (List.replicate n .p) 0 f)).isSome=true:=by kernel_rfl)
  (ha:ig (iU E.P E.N ops [] (List.replicate n .p) 0 f) true=ig (iU E.P E.N ops [] (List.replicate n .p) 0 f) false:=by kernel_rfl)
  (hb:uH (iU E.P E.N ops [] (List.replicate n .p) 0 f)=[]:=by kernel_rfl):Go E (.code (.region id ops false)::k) f w :=
 ax (bp 0 n (lc hn h) hr ha hb)
theorem rg {E:Env} {id:Nat} {ops:Array Oper} {k:List Item} {w:World} {f:Nat→Value} (hs:List Hint) {G:List Grp} (hG:pV w G)
  (h:Go E k (nfB E ops G hs 0 f) w) (hn:Nat.ble ops.size (0 + hs.length)=true:=by kernel_rfl) (hr:(lL (iU E.P E.N ops G hs 0 f)).isSome=true:=by kernel_rfl)
  (ha:ig (iU E.P E.N ops G hs 0 f) true=ig (iU E.P E.N ops G hs 0 f) false:=by kernel_rfl)
  (hb:uH (iU E.P E.N ops G hs 0 f)=[]:=by kernel_rfl):Go E (.code (.region id ops false)::k) f w :=
 ax (bg 0 hs hG (lc hn h) hr ha hb)
theorem ro {E:Env} {ops:Array Oper} {k:List Item} {f:Nat→Value} {w:World} {i:Nat} (h:Go E k f w) (hi:Nat.ble ops.size i=true:=by kernel_rfl):GoO E ops i k f w:=lc hi h
theorem gt {E:Env} {k:List Item} {f:Nat→Value} {w:World} {c:Operand} {x y:Code} {t:Bool} (ht:t=true) (h:Go E (.code x::k) f w) (hc:ev E.N f c = .bool t:=by kernel_rfl):Go E (.code (.cond c x y)::k) f w:=zJ hc ht h
theorem ge {E:Env} {k:List Item} {f:Nat→Value} {w:World} {c:Operand} {x y:Code} {t:Bool} (ht:t=false) (h:Go E (.code y::k) f w) (hc:ev E.N f c = .bool t:=by kernel_rfl):Go E (.code (.cond c x y)::k) f w:=zK hc ht h
theorem gr {E:Env} {k:List Item} {f:Nat→Value} {w:World} {v:Value} {fn:Func} (hf:E.P.funcs[E.fn]? = some fn) (hR:E.R (.returned v) w) (hv:Sem.pureRun E.P (results fn (tm E.N f))=some v:=by kernel_rfl) (h0:E.plain:=by exact ⟨rfl,rfl⟩):Go E (.code .ret::k) f w :=
 sS v hf hv hR h0
def Sm (args:Array Value) (i:Nat):Value:=(nth args.toList i).getD undef
theorem cg {P:Program} {g:FuncId} {fn:Func} {c:Code} {args:Array Value} {w:World} {R:Ending→World→Prop} (hf:P.funcs[g]? = some fn)
  (h:∀ cs,Go ⟨P,g,fn.ntmps,cs,R,[],none⟩ [.code c] (Sm args) w) (hb:fn.body=some c:=by rfl) (ha:args++Array.replicate (fn.ntmps - args.size) undef=tm fn.ntmps (Sm args):=by kernel_rfl):Calls P g args w R :=
 zU (Sm args) hf hb ha h
theorem at_ {us:List (Nat×Value)} {f:Nat→Value} (hu:us.map (fun p=>f p.1)=us.map (·.2):=by kernel_rfl):f=bq f us:=BQ us hu
theorem oe {E:Env} {ops:Array Oper} {k:List Item} {f:Nat→Value} {w:World} (i:Nat) {o:Oper} (hn:nth ops.toList i=some o) (h:Eff E.P o (ev E.N f) w (fun v w'=>GoO E ops (i + 1) k (qJ f o.dst v) w'))
  (hw:wants E.N ops f o=true:=by kernel_rfl):GoO E ops i k f w:=yK i o hn hw h
theorem dx {E:Env} {k:List Item} {f:Nat→Value} {w:World} {M:Mem} {L:List bV} {id:Nat} {l:List Oper} (hs:List Hint) {G:List Grp} (hG:pV w G) (bs:List (Int×Nat)) (hB':uW bs) (hI:Inv M w L)
  (h:∀ w',Inv M w' L→Go E k (nfB E l.toArray G hs 0 f) w') (hm:E.P.follows .mixedOrders=true:=by kernel_rfl) (hB:Region.lexB .any l.toArray=true:=by kernel_rfl) (hl:hs.length=l.length:=by rfl)
  (hr:(lL (iU E.P E.N l.toArray G hs 0 f)).isSome=true:=by kernel_rfl)
  (ha:ig (iU E.P E.N l.toArray G hs 0 f) true=ig (iU E.P E.N l.toArray G hs 0 f) false:=by kernel_rfl)
  (hb:uH (iU E.P E.N l.toArray G hs 0 f)=bs:=by kernel_rfl) (h0:E.plain:=by exact ⟨rfl,rfl⟩):Go E (.code (.region id l.toArray true)::k) f w:=by
 refine RG hm hB ?_ h0
 rw [← hl]
 exact Dh (n:=0) 0 G hs _ bs (Dj hG) hB' (JE hr) ha hb (h _ hI.drew')
def nfH (E:Env) (ops:Array Oper) (G:List Grp) (hs:List (Nat×Hint)) (l:Array Bool) (f:Nat→Value):Nat→Value:=((wu (xB E.P E.N ops G hs l f)).getD (f,[])).1
def nlH (E:Env) (ops:Array Oper) (G:List Grp) (hs:List (Nat×Hint)) (l:Array Bool) (f:Nat→Value):Array Bool:=((wu (xB E.P E.N ops G hs l f)).getD (f,[])).2.toArray
theorem hx {E:Env} {k:List Item} {f:Nat→Value} {w:World} {ops:Array Oper} {S:World→Prop} {n:Nat} {l:Array Bool} (hs:List (Nat×Hint)) {G:List Grp} (hG:∀ w,S w→pV w G) (hS:S w) (bs:List (Int×Nat)) (hB:uW bs)
  (h:Held E k ops S n (nlH E ops G hs l f) (nfH E ops G hs l f) w) (a1:Region.noSelect ops=true:=by kernel_rfl)
  (hr:(wu (xB E.P E.N ops G hs l f)).isSome=true:=by kernel_rfl) (ha:um (xB E.P E.N ops G hs l f) true=um (xB E.P E.N ops G hs l f) false:=by kernel_rfl)
  (hb:Cf (xB E.P E.N ops G hs l f)=bs:=by kernel_rfl):Held E k ops S (n + hs.length) l f w:=by
 unfold nlH nfH at h;cases e:xB E.P E.N ops G hs l f with
 | none=>rw [e] at hr; cases hr
 | some r =>
  obtain ⟨f',l2,oa,ob⟩:=r
  rw [e] at hr ha hb h
  simp only [um] at ha
  simp only [Cf] at hb
  subst hb;refine Ah a1 hG hS e ?_ hB ?_
  ·simpa using ha
  ·simpa [wu] using h
theorem hg {E:Env} {k:List Item} {f:Nat→Value} {w:World} {ops:Array Oper} {S:World→Prop} {n:Nat} {l:Array Bool} (hs:List (Nat×Hint)) {G:List Grp} (hG:∀ w,S w→pV w G) (hS:S w)
  (h:Held E k ops S n (nlH E ops G hs l f) (nfH E ops G hs l f) w) (a1:Region.noSelect ops=true:=by kernel_rfl)
  (hr:(wu (xB E.P E.N ops G hs l f)).isSome=true:=by kernel_rfl) (ha:um (xB E.P E.N ops G hs l f) true=um (xB E.P E.N ops G hs l f) false:=by kernel_rfl)
  (hb:Cf (xB E.P E.N ops G hs l f)=[]:=by kernel_rfl):Held E k ops S (n + hs.length) l f w:=hx hs hG hS [] trivial h a1 hr ha hb
theorem ho {E:Env} {k:List Item} {f:Nat→Value} {w:World} {ops:Array Oper} {S:World→Prop} {n:Nat} {l:Array Bool} (i:Nat) {o:Oper} (hn:nth ops.toList i=some o) 
  (h:Eff E.P o (ev E.N f) w (fun v w'=>S w'∧Held E k ops S n (l.setIfInBounds i true) (qJ f o.dst v) w')) (hr:Region.ready .any ops l=[i]:=by kernel_rfl) (hw:wants E.N ops f o=true:=by kernel_rfl):Held E k ops S (n + 1) l f w:=JS i o hn hr hw h
theorem hd {E:Env} {k:List Item} {f:Nat→Value} {w:World} {ops:Array Oper} {S:World→Prop} {n:Nat} {l:Array Bool} (h:Go E k f w) (hr:Region.ready .any ops l=[]:=by kernel_rfl):Held E k ops S n l f w:=Gy hr h
theorem ec {P:Program} {o:Oper} {ev_:Operand→Value} {w:World} {K:Value→World→Prop} {R:Ending→World→Prop} {c:Operand} {xs:Array Operand} {ts:Array TypeId} {g:FuncId} {args:Array Value}
  (hent:Sem.pureRun P (callFunc g args)=some (.enter g args)) (hcall:Calls P g args w R) (h:∀ e w',R e w'→∃ v,e = .returned v∧K v w')
  (hop:o.op = .call { callee := .value c,args:=xs,argTypes:=ts }:=by rfl) (hc:ev_ c = .func (.func g) #[] #[]:=by kernel_rfl) (ha:xs.map (ev_)=args:=by kernel_rfl):Eff P o ev_ w K :=
 jF c xs ts g #[] #[] args args hop hc ha (by simp) hent hcall h
end Go.Proofs.YtfpeabnehpclnaaGreatDoorE
namespace Go.Proofs.YtfpeabnehpclnaaGreatDoorE
open Go Go.Proofs
set_option linter.unusedVariables false
set_option linter.unusedSimpArgs false
def Ma:Value→Nat
 | .pointer (some a)=>a.off
 | _=>0
def lenOf:Value→Nat
 | .slice _ n _=>n
 | _=>0
def capOf:Value→Nat
 | .slice _ _ c=>c
 | _=>0
def Tt (L:List bV) (js:List Nat):List bV:=js.filterMap (L[·]?)
section
variable {P:Program} {o:Oper} {ev_:Operand→Value} {K:Value→World→Prop} {w:World} {M:Mem} {L L':List bV}
theorem Inv.pK (h:Inv M w L) (js:List Nat) (hn:js.Nodup:=by decide) (hL:js.map (L[·]?)=L'.map some:=by kernel_rfl):Inv M w L':=h.pick js hn hL
theorem iq {t:TypeId} (cs:List Value) (hI:Inv M w L) (hop:o.op = .alloc t) (h:∀ b w',Inv M w' (L++[.blk b t cs])→K (.pointer (some ⟨b,0,none⟩)) w')
  (hz:((P.info? t).bind (·.zero)).map (fun z=>z.cells.toList)=some cs:=by kernel_rfl):Eff P o ev_ w K:=by
 cases e:(P.info? t).bind (·.zero) with
 | none=>rw [e] at hz; cases hz
 | some z=>rw [e] at hz; exact Rt t z cs hop e (Option.some.inj hz) hI h
theorem fJ {t:TypeId} {x:Operand} (cs:List Value) (hI:Inv M w L) (hop:o.op = .box t x) (h:∀ b w',Inv M w' (L++[.blk b t cs])→K (.pointer (some ⟨b,0,none⟩)) w')
  (hcs:(ev_ x).cells.toList=cs:=by kernel_rfl):Eff P o ev_ w K:=SY t x (ev_ x) cs hop rfl hcs hI h
theorem eP {t:TypeId} {a x:Operand} {b:Nat} {t':TypeId} {cs:List Value} (li:Nat) (cs':List Value) (hI:Inv M w L) (hop:o.op = .store t a x) (hL:L[li]? = some (.blk b t' cs))
  (h:∀ w',Inv M w' (L.set li (.blk b t' cs'))→K undef w') (ha:ev_ a = .pointer (some ⟨b,Ma (ev_ a),none⟩):=by kernel_rfl) (hs:(P.info? t).map (·.size)=some (ev_ x).cells.size:=by kernel_rfl)
  (h1:(ev_ x).cells.toList.all Value.oneCell'=true:=by kernel_rfl) (hl:Nat.ble (Ma (ev_ a) + (ev_ x).cells.size) cs.length=true:=by kernel_rfl)
  (hcs:splice cs (Ma (ev_ a)) (ev_ x).cells.toList=cs':=by kernel_rfl):Eff P o ev_ w K:=Ia t a x li b t' cs cs' (Ma (ev_ a)) (ev_ x) hop ha rfl hs h1 hI hL hl hcs h
theorem Rm {α:Type} [Inhabited α] {kt:Ty α} {enc:α→List Value} [Flat kt enc] {t:TypeId} {a x:Operand} {b:Nat} {e:TypeId} {n c:Nat} {xs:List α} (li:Nat) (x':α) {j:Int} (q:Nat)
  (hI:Inv M w L) (hop:o.op = .store t a x) (hL:L[li]? = some (.row kt e (some ⟨b,0,none⟩) n c xs)) (hj:0≤j∧j < n)
  (h:∀ w',Inv M w' (L.set li (.row kt e (some ⟨b,0,none⟩) n c (xs.set j.toNat x')))→K undef w')
  (ha:ev_ a = .pointer (some ⟨b,0 + j.toNat * kt.sz + q,none⟩):=by kernel_rfl) (hs:(P.info? t).map (·.size)=some (ev_ x).cells.size:=by kernel_rfl) (h1:(ev_ x).cells.toList.all Value.oneCell'=true:=by kernel_rfl)
  (hq:Nat.ble (q + (ev_ x).cells.size) kt.sz=true:=by kernel_rfl) (hx':splice (enc (idx xs j)) q (ev_ x).cells.toList=enc x':=by kernel_rfl):Eff P o ev_ w K :=
 Ta t a x li b e n c xs x' j q (ev_ x) hop ha rfl hs h1 hI hL hj hq hx' h
def partsOf (P:Program) (e:TypeId) (n:Nat) (vs:List (Nat×Value)):Option (List Value) :=
 match P.info? e with
 | none=>none
 | some inf=>match inf.zero with
  | none=>none
  | some z=>bif Nat.ble (n * inf.size) 1024 && Nat.blt 0 (n * inf.size) then (Instr.fill (fun i=>some (i * inf.size,inf.size)) ((Array.range (n * inf.size)).map (z.cells[· % z.cells.size]!)) vs).map (·.toList) else none
theorem mf {t e:TypeId} {n:Nat} {ps:Array (Nat×Operand)} (cs:List Value) (hI:Inv M w L) (hop:o.op = .buildSlice t n ps) (ht:P.underlying t=some (.slice e))
  (h:∀ b w',Sub (hp w) (hp w')→Inv M w' (L++[.blk b e cs])→K (.slice (some ⟨b,0,none⟩) n n) w')
  (hp:partsOf P e n (ps.map fun p=>(p.1,ev_ p.2)).toList=some cs:=by kernel_rfl):Eff P o ev_ w K:=by
 unfold partsOf at hp
 split at hp
 ·cases hp
 ·rename_i inf hi
  split at hp
  ·cases hp
  ·rename_i z hz
   cases e1:Nat.ble (n * inf.size) 1024 with
   | false=>rw [e1,Bool.false_and,cond_false] at hp; cases hp
   | true =>
    cases e2:Nat.blt 0 (n * inf.size) with
    | false=>rw [e1,e2,Bool.and_false,cond_false] at hp; cases hp
    | true =>
     rw [e1,e2,Bool.and_true,cond_true] at hp
     cases e3:Instr.fill (fun i=>some (i * inf.size,inf.size)) ((Array.range (n * inf.size)).map (z.cells[· % z.cells.size]!)) (ps.map fun p=>(p.1,ev_ p.2)).toList with
     | none=>rw [e3] at hp; cases hp
     | some arr=>rw [e3] at hp; exact OZ t e n ps inf z arr cs hop ht hi hz e1 e2 e3 (Option.some.inj hp) hI h
def BO (P:Program) (e:TypeId):Option (Nat×Nat×Nat):=(P.info? e).bind fun i=>i.zero.map fun z=>(i.size,z.cells.size,i.bytes)
theorem AJ {e:TypeId} {a b c:Nat} (h:BO P e=some (a,b,c)):∃ inf z,P.info? e=some inf∧inf.zero=some z∧inf.size=a∧z.cells.size=b∧inf.bytes=c:=by
 unfold BO at h;cases e1:P.info? e with
 | none=>rw [e1] at h; cases h
 | some inf =>
  rw [e1,Option.bind_some] at h
  cases e2:inf.zero with
  | none=>rw [e2] at h; cases h
  | some z=>rw [e2] at h; cases h; exact ⟨inf,z,rfl,e2,rfl,rfl,rfl⟩
theorem ul {α:Type} {kt:Ty α} {t e t2:TypeId} {s x:Operand} {A:Option Addr} {n c:Nat} {xs ys:List α} {b bs:Nat} {news:List Value} (li bi m:Nat) (js rest:List Nat) (R L':List bV)
  (hI:Inv M w L) (hrow:L[li]? = some (.row kt e A n c xs)) (hblk:L[bi]? = some (.blk b t2 news)) (hbytes:((n + m) + (n + m) / 4 + 192) * bs≤281474976710656∧n + m≤9223372036854775807) (hmk:MkS kt R ys news)
  (h:∀ A' c' w',Inv M w' (.row kt e A' (xs++ys).length c' (xs++ys)::L')→K (.slice A' (xs++ys).length c') w')
  (hop:o.op = .call { callee := .builtin .append,args := #[s,x],argTypes := #[t,t] }:=by rfl) (hs:ev_ s = .slice A n c:=by kernel_rfl) (hx:ev_ x = .slice (some ⟨b,0,none⟩) m (capOf (ev_ x)):=by kernel_rfl)
  (ht:P.underlying t=some (.slice e):=by kernel_rfl) (hf:BO P e=some (kt.sz,kt.sz,bs):=by kernel_rfl) (hpos:Nat.blt 0 kt.sz=true:=by kernel_rfl)
  (hn:(li::(js++rest)).Nodup:=by decide) (hL:(js++rest).map (L[·]?)=(R++L').map some:=by kernel_rfl)
  (hl:news.length=m * kt.sz:=by kernel_rfl) (hm:ys.length=m:=by kernel_rfl):Eff P o ev_ w K:=by
 obtain ⟨inf,z,h1,h2,h3,h4,rfl⟩:=AJ hf;exact JB kt t e e s x inf z A n c xs ys b 0 m (capOf (ev_ x)) news li js rest R L' hop hs hx ht h1 h2 h3 h4 hpos hI hn (by rw [List.map_cons,List.map_cons,hrow,hL]) hl hm (hI.grp bi hblk) hbytes hmk h
theorem Tu {α:Type} {kt:Ty α} {enc:α→List Value} [Flat kt enc] {t e:TypeId} {s x:Operand} {A A2:Option Addr} {n c:Nat} {xs ys:List α} {bs:Nat} (li:Nat) (rest:List Nat) (L':List bV)
  (hI:Inv M w L) (hrow:L[li]? = some (.row kt e A n c xs)) (hr:rdS kt (hp w) A2 ys) (hbytes:((n + ys.length) + (n + ys.length) / 4 + 192) * bs≤281474976710656∧n + ys.length≤9223372036854775807)
  (h:∀ A' c' w',Inv M w' (.row kt e A' (xs++ys).length c' (xs++ys)::L')→K (.slice A' (xs++ys).length c') w')
  (hop:o.op = .call { callee := .builtin .append,args := #[s,x],argTypes := #[t,t] }:=by rfl) (hs:ev_ s = .slice A n c:=by kernel_rfl) (hx:ev_ x = .slice A2 ys.length (capOf (ev_ x)):=by kernel_rfl)
  (ht:P.underlying t=some (.slice e):=by kernel_rfl) (hf:BO P e=some (kt.sz,kt.sz,bs):=by kernel_rfl) (hpos:Nat.blt 0 kt.sz=true:=by kernel_rfl)
  (hn:(li::rest).Nodup:=by decide) (hL:rest.map (L[·]?)=L'.map some:=by kernel_rfl):Eff P o ev_ w K:=by
 obtain ⟨inf,z,h1,h2,h3,h4,rfl⟩:=AJ hf;exact Dr t e e s x inf z A A2 n c xs ys (capOf (ev_ x)) li rest L' hop hs hx ht h1 h2 h3 h4 hpos hI hn (by rw [List.map_cons,List.map_cons,hrow,hL]) hr hbytes h
end
section
variable {E:Env} {k:List Item} {ops:Array Oper} {f:Nat→Value} {w:World} {M:Mem} {L L' R:List bV}
theorem qN {id:Nat} (hI:Inv M w L) (h:Inv M w.drew L→Held E k ops (fun w=>Inv M w L) ops.size (Array.replicate ops.size false) f w.drew)
  (hm:E.P.follows .mixedOrders=true:=by kernel_rfl) (h0:E.plain:=by exact ⟨rfl,rfl⟩):Go E (.code (.region id ops true)::k) f w:=Im _ hm (h hI.drew') h0
theorem vZ {id:Nat} (js:List Nat) (hI:Inv M w L) (h:Inv M w.drew L→Held E k ops (fun w=>Inv M w (Tt L js)) ops.size (Array.replicate ops.size false) f w.drew)
  (hm:E.P.follows .mixedOrders=true:=by kernel_rfl) (h0:E.plain:=by exact ⟨rfl,rfl⟩):Go E (.code (.region id ops true)::k) f w:=Im _ hm (h hI.drew') h0
theorem Inv.asr {α:Type} {kt:Ty α} {b:Nat} {e:TypeId} {cs:List Value} {xs:List α} (n:Nat) (h:Inv M w L) (li:Nat) (js rest:List Nat) (R L':List bV) (hb:L[li]? = some (.blk b e cs)) (hmk:MkS kt R xs cs)
  (hn:(li::(js++rest)).Nodup:=by decide) (hL:(js++rest).map (L[·]?)=(R++L').map some:=by kernel_rfl) (hl:cs.length=xs.length * kt.sz:=by kernel_rfl) (hx:xs.length=n:=by kernel_rfl)
  (hm:Nat.ble n maxLen=true:=by kernel_rfl):Inv M w (.row kt e (some ⟨b,0,none⟩) n n xs::L'):=h.asrow n li js rest hn (by rw [List.map_cons,List.map_cons,hb,hL]) hmk hl hx hm
end
theorem Inv.addNil {M:Mem} {w:World} {L:List bV} (h:Inv M w L) {α:Type} (k:Ty α) (N:BM) (e:TypeId):Inv M w (L++[orA N k e none 0 0 ([]:List α)]):=h.addOr e (.inl rfl) (Nat.le_refl _) rfl
theorem Inv.memOr {M:Mem} {w:World} {L:List bV} {α:Type} {k:Ty α} {X:BM} {A:Option Addr} {c:Nat} {xs:List α} (e:TypeId) (hr:rdS k X A xs) (hl:xs.length≤c) (h:Inv M w (Sn X::L)):Inv M w (orA noM k e A xs.length c xs::L):=by
 obtain ⟨F1,F2,h1,h2,h3,h4,h5⟩:=h.sep;exact ⟨h.fix,h.size,h.os,h.tape,h.output,F1,F2,h1,h2,h3,⟨⟨X,fun b o hb => .inr (h4 b o hb),hr,hl⟩,rfl⟩,h5⟩
def Jv {α:Type} (k:Ty α):Ty (List α) where
 sz:=1
 own:=fun H F xs cs=>∃ A c N',cs=[.slice A xs.length c]∧xs.length≤c∧(∀ b o,N' b=some o→F b∧H b=some o)∧rdS k N' A xs
 rd:=fun H xs cs=>∃ A c,cs=[.slice A xs.length c]∧xs.length≤c∧rdS k H A xs
 own_mono:=by
  rintro H F F' xs cs ⟨A,c,N',e,hl,h,hr⟩ hF;exact ⟨A,c,N',e,hl,fun b o hb=>⟨hF b (h b o hb).1,(h b o hb).2⟩,hr⟩
 own_congr:=by
  rintro H H' F xs cs ⟨A,c,N',e,hl,h,hr⟩ hF;exact ⟨A,c,N',e,hl,fun b o hb=>⟨(h b o hb).1,(hF b (h b o hb).1).trans (h b o hb).2⟩,hr⟩
 own_rd:=by
  rintro H F xs cs ⟨A,c,N',e,hl,h,hr⟩;exact ⟨A,c,e,hl,hr.mono fun b o hb=>(h b o hb).2⟩
 rd_mono:=fun ⟨A,c,e,hl,h⟩ hs=>⟨A,c,e,hl,h.mono hs⟩
 rd_len:=fun ⟨_,_,e,_⟩=>by rw [e]; rfl
 rd_one:=fun ⟨_,_,e,_⟩=>by rw [e]; exact oneOf rfl
theorem Fe {α:Type} {N:BM} {e:TypeId} {k:Ty α}:wV N (Jv k) (cB e k):=⟨rfl,fun _ _ _ _ h=>h⟩
theorem Mc {α:Type} {k:Ty α} {e:TypeId} {A:Option Addr} {n c:Nat} {xs:List α}:Mk (Jv k) [orA noM k e A n c xs] xs [.slice A n c]:=by
 rintro H F ⟨F1,F2,h1,h2,h3,⟨⟨N',q1,q2,q3⟩,q4⟩,_⟩;exact ⟨A,c,N',by rw [q4],q3,fun b o hb=>(q1 b o hb).elim (fun h=>nomatch h) (fun h=>⟨h1 b h.1,h.2⟩),q2⟩
theorem Jw {α:Type} {k:Ty α} {e:TypeId} {A:Option Addr} {n c:Nat} {xs:List α}:Mk (Jv k) [.row k e A n c xs] xs [.slice A n c]:=by
 rintro H F ⟨F1,F2,h1,h2,h3,h4,_⟩;obtain ⟨N',q1,q2⟩:=eG.part h4.1;exact ⟨A,c,N',by rw [h4.2],h4.1.le,fun b o hb=>⟨h1 b (q1 b o hb).1,(q1 b o hb).2⟩,q2⟩
theorem yR {α:Type} {k:Ty α} {enc:α→List Value} [Flat k enc] (x:α):Mk k [] x (enc x):=oZ x _ rfl
theorem lu {α:Type} {k:Ty α} {enc:α→List Value} [Flat k enc] (xs:List α):MkS k [] xs (xs.flatMap enc):=fun _ _ _=>bX.flat.2 rfl
end Go.Proofs.YtfpeabnehpclnaaGreatDoorE
namespace Go.Proofs.YtfpeabnehpclnaaGreatDoorE
open Go Go.Proofs
set_option linter.unusedVariables false
set_option linter.unusedSimpArgs false
end Go.Proofs.YtfpeabnehpclnaaGreatDoorE
namespace Go.Proofs.YtfpeabnehpclnaaGreatDoorE
open Go Go.Proofs
set_option linter.unusedVariables false
set_option linter.unusedSimpArgs false
def arC {α:Type} [Inhabited α] (f:α→Value) (n:Nat) (xs:List α):List Value:=(List.range n).map fun (i:Nat)=>f (idx xs (i:Int))
def uG {α:Type} [Inhabited α] (n:Nat) (xs:List α) (j:Int) (v:α):List α:=(List.range n).map fun (i:Nat)=>bif (i:Int) == j then v else idx xs (i:Int)
section
variable {α:Type} [Inhabited α] {f:α→Value} {n:Nat} {xs:List α}
theorem Af:(arC f n xs).length=n:=by simp [arC]
theorem HZ {j:Nat} (h:j < n):(arC f n xs)[j]? = some (f (idx xs (j:Int))):=by
 simp [arC,List.getElem?_map,List.getElem?_range h]
theorem zO {j:Int} {v:α} {i:Nat} (h:i < n):idx (uG n xs j v) (i:Int)=if (i:Int)=j then v else idx xs (i:Int):=by
 have e:(uG n xs j v)[i]? = some (bif (i:Int) == j then v else idx xs (i:Int)):=by simp [uG,List.getElem?_map,List.getElem?_range h]
 have hl:i < (uG n xs j v).length:=by simp [uG,h]
 rw [bS (n:=i) rfl hl]
 rw [List.getElem?_eq_getElem hl] at e
 rw [Option.some.inj e]
 by_cases hi:(i:Int)=j
 ·rw [if_pos hi,show ((i:Int) == j)=true by rw [beq_iff_eq]; exact hi,cond_true]
 ·rw [if_neg hi,show ((i:Int) == j)=false by rw [beq_eq_false_iff_ne]; exact hi,cond_false]
theorem Rq {j:Int} {v:α} (h:0≤j∧j < (n:Int)):(arC f n xs).set j.toNat (f v)=arC f n (uG n xs j v):=by
 apply List.ext_getElem?
 intro i
 by_cases hi:i < n
 ·rw [List.getElem?_set,HZ hi,HZ hi,Af,zO hi]
  by_cases e:j.toNat=i
  ·rw [if_pos e,if_pos (by omega),if_pos (by omega)]
  ·rw [if_neg e,if_neg (by omega)]
 ·rw [List.getElem?_eq_none (by rw [List.length_set,Af]; omega),List.getElem?_eq_none (by rw [Af]; omega)]
theorem OW {pre post:List Value} {j:Int} (hj:0≤j∧j < (n:Int)):(pre++(arC f n xs++post))[pre.length + j.toNat]? = some (f (idx xs j)):=by
 rw [List.getElem?_append_right (by omega),Nat.add_sub_cancel_left,List.getElem?_append_left (by rw [Af]; omega),HZ (by omega)]
 congr 3
 omega
variable {P:Program} {o:Oper} {ev_:Operand→Value} {w:World} {K:Value→World→Prop} {M:Mem} {L:List bV}
theorem Inv.arr (hI:Inv M w L) (i:Nat) {b:Nat} {t:TypeId} {cs:List Value} {j:Int} (pre post:List Value) (off:Nat) (hL:L[i]? = some (.blk b t cs)) (hj:0≤j∧j < (n:Int))
  (hcs:cs=pre++(arC f n xs++post):=by kernel_rfl) (ho:pre.length=off:=by kernel_rfl):Grp.ok w (b,off + j.toNat * 1,[f (idx xs j)]):=by
 subst hcs ho;intro q u hu;obtain ⟨rfl,rfl⟩:q=0∧u=f (idx xs j):=by
  cases q with
  | zero=>exact ⟨rfl,(Option.some.inj hu).symm⟩
  | succ q=>simp at hu
 have hg:=hI.grp i hL (pre.length + j.toNat) (f (idx xs j)) (OW hj)
 rw [Nat.mul_one]
 simpa using hg
theorem dR.arr {H:BM} {b:Nat} {cs:List Value} {j:Int} (h:dR H (b,0,cs)) (pre post:List Value) (off:Nat) (hj:0≤j∧j < (n:Int))
  (hcs:cs=pre++(arC f n xs++post):=by kernel_rfl) (ho:pre.length=off:=by kernel_rfl):dR H (b,off + j.toNat * 1,[f (idx xs j)]):=by
 subst hcs ho;intro q u hu;obtain ⟨rfl,rfl⟩:q=0∧u=f (idx xs j):=by
  cases q with
  | zero=>exact ⟨rfl,(Option.some.inj hu).symm⟩
  | succ q=>simp at hu
 have hg:=h (pre.length + j.toNat) (f (idx xs j)) (OW hj)
 rw [Nat.mul_one]
 simpa using hg
theorem Rs {t:TypeId} {a x:Operand} {b:Nat} {t':TypeId} {cs:List Value} {j:Int} {v:α} (li:Nat) (pre post:List Value) (off:Nat) (hI:Inv M w L) (hop:o.op = .store t a x) (hL:L[li]? = some (.blk b t' cs))
  (hj:0≤j∧j < (n:Int)) (h:∀ w',Inv M w' (L.set li (.blk b t' (pre++(arC f n (uG n xs j v)++post))))→K undef w')
  (hcs:cs=pre++(arC f n xs++post):=by kernel_rfl) (ho:pre.length=off:=by kernel_rfl) (ha:ev_ a = .pointer (some ⟨b,off + j.toNat * 1,none⟩):=by kernel_rfl) (hx:ev_ x=f v:=by kernel_rfl)
  (h1:(f v).cells.toList=[f v]:=by kernel_rfl) (h2:Value.oneCell' (f v)=true:=by kernel_rfl)
  (hs:(P.info? t).map (·.size)=some 1:=by kernel_rfl):Eff P o ev_ w K:=by
 subst hcs ho;have hz:(f v).cells.size=1:=by rw [← Array.length_toList,h1]; rfl
 refine Ia t a x li b t' _ _ (pre.length + j.toNat * 1) (f v) hop ha hx (by rw [hz]; exact hs) (by rw [h1]; simp [h2]) hI hL ?_ rfl ?_
 ·refine Nat.ble_eq_true_of_le ?_
  simp only [List.length_append,Af,Nat.mul_one,hz]
  omega
 ·intro w' hI';refine h w' ?_;have e:splice (pre++(arC f n xs++post)) (pre.length + j.toNat * 1) (f v).cells.toList=pre++(arC f n (uG n xs j v)++post):=by
   rw [← Rq hj,Nat.mul_one,h1]
   have hlt:j.toNat < (arC f n xs).length:=by rw [Af]; omega
   generalize arC f n xs=A at hlt;unfold splice
   rw [List.take_append,List.take_of_length_le (by omega),Nat.add_sub_cancel_left,List.drop_append,List.drop_eq_nil_of_le (by simp; omega)]
   simp only [List.length_singleton,List.nil_append]
   rw [List.take_append_of_le_length (by omega),show pre.length + j.toNat + 1 - pre.length=j.toNat + 1 by omega,List.drop_append_of_le_length (by omega),List.append_assoc]
   congr 1
   rw [List.set_eq_take_append_cons_drop,if_pos hlt]
   simp
  rw [← e]
  exact hI'
end
section
variable {E:Env} {Ds:List Nat} {k:List Item} {f:Nat→Value} {w:World} {M:Mem} {L:List bV}
theorem JC {ω α:Type} (X:List bV) (gf:FuncId) (first cap:Array Value) {x:Operand} {ps:Array Tmp} {assign body:Code} (enc:α→Array Value) (us:α→List (Nat×Value)) (B:Loop→Nat→Nat→ω→bV) (Y:ω→α→Option (Bool×ω)) (s0 o:ω)
  (hro:E.ro=none) (hx:ev E.N f x = .func (.func gf) first cap) (hent:∀ a:Array Value,Sem.pureRun E.P (callFunc gf a)=some (.enter gf a)) (hus:∀ a,(ps.zip (enc a)).toList=us a) (hsz:∀ a,Nat.beq (enc a).size ps.size=true) (hI:Inv M w L)
  (h0:∀ r D l w',Inv M w' (qI D (.deferred (some []))::qI l (.loop (recAt r .ready none))::L)→Inv M w' (B r D l s0::X))
  (hcall:∀ rc D l w1,Inv M w1 (B rc D l s0::X)→(∀ s a x w L,Y s a=some x→Inv M w (B rc D l s::L)→Io E.P l (enc a) w (fun v w'=>v = .bool x.1∧Inv M w' (B rc D l x.2::L))) →
   Calls E.P gf (first ++ #[.func (.yield l) #[] #[]]++cap) w1 fun e w'=>e = .returned (.tuple #[])∧Inv M w' [B rc D l o])
  (hround:∀ rc D l s a r w T,Y s a=some r→Inv M w [B rc D l s,T] →
   (∃ q st pd,w.heap[l]? = some (.loop q)∧q=recAt rc st pd)∧∀ c cs,Go ⟨E.P,E.fn,E.N,c::cs,fun e w'=>∃ v,e = .returned v∧(v = .bool r.1∧Inv M w' [B rc D l r.2,T]),[],some l⟩ [.code assign,.beginRound,.code body] (bq f (us a)) w)
  (hend:∀ rc D l w',Inv M w' [B rc D l o]→∃ jump w4,(Instr.endLoop l).run E.P w' = .ok jump w4∧Go (E.marks (D::Ds)) ((jump.map Item.code).toList++k) f w4) :
  Go (E.marks Ds) (.code (.rangeFunc x ps assign body)::k) f w:=by
 have a6:=hI.objNew (.deferred (some []));have hl:(w.alloc (.deferred (some []))).heap.size=w.heap.size + 1:=World.size_alloc _ _
 let rc:Loop:={ state := .ready,pending:=none,fn:=E.fn,tmps:=tm E.N f,params:=ps,assign:=assign,body:=body,defers:=w.heap.size }
 have a1:=a6.objNew (.loop rc)
 rw [hl] at a1
 have a4:Inv M ((w.alloc (.deferred (some []))).alloc (.loop rc)) (qI w.heap.size (.deferred (some []))::qI (w.heap.size + 1) (.loop (recAt rc .ready none))::L):=by
  refine ⟨a1.fix,a1.size,a1.os,a1.tape,a1.output,?_⟩;obtain ⟨F1,F2,h1,h2,h3,h4,h5⟩:=a1.sep.split;obtain ⟨G1,G2,g1,g2,g3,g4,g5⟩:=h4.split;have h6:=(g5.append h5 (fun b hb hb'=>h3 b (g2 b hb) hb')).append g4 (fun b hb hb'=>hb.elim (fun hb=>g3 b hb' hb) (fun hb=>h3 b (g1 b hb') hb));exact h6.mono fun b hb=>hb.elim (fun hb=>hb.elim (fun hb=>h1 b (g2 b hb)) (h2 b)) (fun hb=>h1 b (g1 b hb))
 have a2:=h0 rc _ _ _ a4;have hyield:∀ s a x w' L',Y s a=some x→Inv M w' (B rc w.heap.size (w.heap.size + 1) s::L')→Io E.P (w.heap.size + 1) (enc a) w' (fun v w''=>v = .bool x.1∧Inv M w'' (B rc w.heap.size (w.heap.size + 1) x.2::L')):=by
  intro s a x w' L' hY hB;obtain ⟨⟨q,st,pd,hq,rfl⟩,hgo⟩:=hround rc w.heap.size (w.heap.size + 1) s a x w' (rest L') hY hB.tails;refine ⟨_,_,_,_,run_yield hq (Nat.eq_of_beq_eq_true (hsz a)),?_⟩;have hr:=Pi (P:=E.P) (l:=w.heap.size + 1) (g:=E.fn) (N:=E.N) (assign:=assign) (body:=body) (w:=w') (f:=bq f (us a)) (R:=fun v w''=>v = .bool x.1∧Inv M w'' [B rc w.heap.size (w.heap.size + 1) x.2,rest L']) rfl hgo;have ht:((recAt rc st pd).params.zip (enc a)).foldl (fun tmps (t,a)=>tmps.setIfInBounds t a) (recAt rc st pd).tmps=tm E.N (bq f (us a)):=by
   show (ps.zip (enc a)).foldl (fun tmps p=>tmps.setIfInBounds p.1 p.2) (tm E.N f)=_
   rw [← Mi E.N (us a) f,← hus a,Array.foldl_toList]
  rw [ht]
  exact hr.mono fun v w'' h=>⟨h.1,h.2.untails⟩
 have hc:=hcall rc w.heap.size (w.heap.size + 1) _ a2 hyield;have he:(Instr.enterLoop (E.marks Ds).b.fn ((E.marks Ds).fr f).tmps ps assign body (E.marks Ds).b.roundOf).run E.P w = .ok (w.heap.size + 1,[{ target := .collected w.heap.size,args := #[] }]) ((w.alloc (.deferred (some []))).alloc (.loop rc)):=by
  rw [show (E.marks Ds).b.roundOf=none from hro]
  exact run_enterLoop_outer (E.marks Ds).b.fn ((E.marks Ds).fr f).tmps ps assign body
 have hres:(resolve ((E.marks Ds).fr f).eval (rangeCall x (w.heap.size + 1)) 0).run E.P ((w.alloc (.deferred (some []))).alloc (.loop rc)) =
   .ok { target := .fn (.func gf) cap,args:=first ++ #[.func (.yield (w.heap.size + 1)) #[] #[]] } ((w.alloc (.deferred (some []))).alloc (.loop rc)):=by
  simp only [uo]
  have hx':ev (E.marks Ds).N f x = .func (.func gf) first cap:=hx;have hc':∀ v,ev (E.marks Ds).N f (.const v)=v:=fun _=>rfl
  simp [resolve,rangeCall,Deferred.ofValue,hx',hc']
 have hinv:(invoke (.fn (.func gf) cap) (first ++ #[.func (.yield (w.heap.size + 1)) #[] #[]])).run E.P ((w.alloc (.deferred (some []))).alloc (.loop rc)) = .ok (.enter gf (first ++ #[.func (.yield (w.heap.size + 1)) #[] #[]]++cap)) _ :=
  Sem.pureRun_run _ (hent _) _
 have hs:=stepR_rangeFunc (P:=E.P) (b:=(E.marks Ds).b) (a:=(E.marks Ds).fr f) (k:=k) (cs:=E.cs) (w:=w) he hres hinv;obtain ⟨e,w3,fr',hR,hsteps,_,hleave⟩:=hc ((E.marks Ds).b.atR { (E.marks Ds).fr f with defers:=[{ target := .collected w.heap.size,args := #[] }]++((E.marks Ds).fr f).defers } (.inRangeFunc (w.heap.size + 1)::k)::E.cs);obtain ⟨rfl,hB⟩:=hR;obtain ⟨jump,w4,hendl,m,a5,a3⟩:=hend rc w.heap.size (w.heap.size + 1) w3 hB;refine ⟨m,Steps.head hs (Steps.trans hsteps (Steps.head ?_ (Steps.head (stepR_endRangeFunc hendl) a5))),a3⟩
 rw [← finish_atR_inRangeFunc (w.heap.size + 1) (.tuple #[])]
 exact step_leave_returned hleave
end
end Go.Proofs.YtfpeabnehpclnaaGreatDoorE
