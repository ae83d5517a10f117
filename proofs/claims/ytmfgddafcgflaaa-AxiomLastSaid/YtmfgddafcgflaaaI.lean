import Derived.Test.YtmfgddafcgflaaaU
import Derived.MapKept
import Derived.WideLaws
import Derived.RangeFuncRecord
import Derived.RangeFuncIn
import Derived.RangeFuncLeaves
import Derived.Lib.TrailingZeros
import Derived.Lib.AppendZerosOnto
import Derived.Lib.Overlaps
import Derived.OrdersIn
import Derived.Laws.IdiomRangeMap
import Derived.Shelf.SortM.Plain
import Derived.Shelf.SortM.SortNone
import Derived.Sort.OwnSortedInts
namespace Go.Proofs.YtmfgddafcgflaaaE
open Go
set_option linter.unusedVariables false
set_option linter.unusedSimpArgs false
set_option linter.unusedSectionVars false
def jl {κ ν:Type} [DecidableEq κ] (m:List (κ×ν)) (x:κ):Bool:=m.any (fun p=>decide (p.1=x))
def mat {κ ν:Type} [DecidableEq κ] [Inhabited ν]:List (κ×ν)→κ→ν
 | [],_=>default
 | p::m,x=>if p.1=x then p.2 else mat m x
def eB {κ ν:Type} [DecidableEq κ]:List (κ×ν)→κ→ν→List (κ×ν)
 | [],x,y=>[(x,y)]
 | p::m,x,y=>if p.1=x then (x,y)::m else p::eB m x y
def uf (es:Array MapEntry) (clock:Nat):Prop:=(es.toList.map (·.born)).Nodup∧∀ x ∈ es.toList.map (·.born),x < clock
theorem uf.nil {c:Nat}:uf #[] c:=⟨List.nodup_nil,fun _ h=>by cases h⟩
theorem uf.push {es:Array MapEntry} {clock:Nat} (h:uf es clock) {e:MapEntry} (he:e.born=clock):uf (es.push e) (clock + 1):=by
 constructor
 ·rw [Array.toList_push,List.map_append,List.nodup_append]
  refine ⟨h.1,by simp,fun a ha b hb => ?_⟩
  have h1:=h.2 a ha
  simp only [List.map_cons,List.map_nil,List.mem_singleton] at hb
  omega
 ·intro x hx
  rw [Array.toList_push,List.map_append] at hx
  rcases List.mem_append.1 hx with hx | hx
  ·have:=h.2 x hx; omega
  ·simp only [List.map_cons,List.map_nil,List.mem_singleton] at hx
   omega
theorem uf.same {es es':Array MapEntry} {clock:Nat} (h:uf es clock) (he:es'.toList.map (·.born)=es.toList.map (·.born)):uf es' clock:=by
 unfold uf
 rw [he]
 exact h
def zl {κ ν:Type} (ek:κ→Value) (ev:ν→Value) (b:Nat) (m:List (κ×ν)):aY :=
 .any (fun H F=>F b∧∃ es clock,H b=some (.map es clock)∧es.toList.map (fun e=>(e.key,e.val))=m.map (fun p=>(ek p.1,ev p.2))∧uf es clock)
  (fun h hF=>⟨hF _ h.1,h.2⟩) (fun h hF=>⟨h.1,by rw [hF _ h.1]; exact h.2⟩)
def fJ {κ ν:Type} (ek:κ→Value) (ev:ν→Value) (H:BM) (b:Nat) (m:List (κ×ν)):Prop :=
 ∃ es clock,H b=some (.map es clock)∧es.toList.map (fun e=>(e.key,e.val))=m.map (fun p=>(ek p.1,ev p.2))∧uf es clock
theorem fJ.mono {κ ν:Type} {ek:κ→Value} {ev:ν→Value} {H H':BM} {b:Nat} {m:List (κ×ν)} (h:fJ ek ev H b m) (hs:Sub H H'):fJ ek ev H' b m:=by
 obtain ⟨es,clock,h1,h2⟩:=h;exact ⟨es,clock,hs _ _ h1,h2⟩
structure zm (P:Program) (kt:TypeId) {κ:Type} [DecidableEq κ] (ek:κ→Value):Prop where
 check:∀ (w:World) (em:Bool) (x:κ),(Instr.checkKey em 10000 kt (ek x)).run P w = .ok () w
 find:∀ (w:World) (x:κ) (es:List MapEntry) (ks:List κ),es.map (·.key)=ks.map ek →
  ((Instr.findKey kt (ek x) es).run P w = .ok none w∧∀ k ∈ ks,k≠x) ∨
  ∃ j e,(Instr.findKey kt (ek x) es).run P w = .ok (some (j,e.val)) w∧es[j]? = some e∧ks[j]? = some x∧∀ i k,i < j→ks[i]? = some k→k≠x
 stays:∀ (w:World) (x:κ),(Instr.keyThatStays (ek x) (ek x)).run P w = .ok (ek x) w
theorem uW {d:TypeDesc} {κ:Type} (ek:κ→Value) (hinj:∀ a b,ek a=ek b→a=b) (hk:∀ x,MapKept.IsKey d (ek x)) (x:κ):∀ (es:List MapEntry) (ks:List κ) (i:Nat),es.map (·.key)=ks.map ek →
  (Instr.findNow d (ek x) es i=some none∧∀ k ∈ ks,k≠x)∨∃ j e,Instr.findNow d (ek x) es i=some (some (i + j,e.val))∧es[j]? = some e∧ks[j]? = some x∧∀ i k,i < j→ks[i]? = some k→k≠x
 | [],[],_,_ => .inl ⟨rfl,by simp⟩
 | [],_::_,_,h=>by simp at h
 | _::_,[],_,h=>by simp at h
 | e::es,k::ks,i,h=>by
  simp only [List.map_cons,List.cons.injEq] at h
  obtain ⟨hek,h⟩:=h;obtain ⟨r,hr,hiff⟩:=MapKept.sameNow_of_keys (d:=d) (hk x) (hk k)
  rw [← hek] at hr hiff
  cases r with
  | true =>
   have hx:x=k:=hinj _ _ ((hiff.1 rfl).trans hek);subst hx;exact .inr ⟨0,e,by simp [Instr.findNow,hr],rfl,rfl,fun i _ hi=>by omega⟩
  | false =>
   have hne:k≠x:=fun q=>by subst q; have:=hiff.2 hek.symm; cases this
   rcases uW ek hinj hk x es ks (i + 1) h with ⟨h1,h2⟩ | ⟨j,e',h1,h2,h3,h4⟩
   ·exact .inl ⟨by simp [Instr.findNow,hr,h1],fun q hq=>by
     cases hq with
     | head=>exact hne
     | tail _ hq=>exact h2 q hq⟩
   ·refine .inr ⟨j + 1,e',by simp [Instr.findNow,hr,h1]; omega,by simpa using h2,by simpa using h3,fun q k' hq hk' => ?_⟩
    cases q with
    | zero=>cases hk'; exact hne
    | succ q=>exact h4 q k' (by omega) (by simpa using hk')
theorem yC {P:Program} {kt:TypeId} {d:TypeDesc} (hd:P.underlying kt=some d) {κ:Type} [DecidableEq κ] (ek:κ→Value) (hinj:∀ a b,ek a=ek b→a=b) (hk:∀ x,MapKept.IsKey d (ek x)):zm P kt ek where
 check:=fun w em x=>MapKept.run_checkKey hd (hk x) em 9999
 find:=fun w x es ks h=>by
  rcases uW ek hinj hk x es ks 0 h with ⟨h1,h2⟩ | ⟨j,e,h1,h2,h3,h4⟩
  ·exact .inl ⟨MapKept.run_findKey hd h1,h2⟩
  ·exact .inr ⟨j,e,by rw [Nat.zero_add] at h1; exact MapKept.run_findKey hd h1,h2,h3,h4⟩
 stays:=fun w x=>MapKept.run_keyThatStays (hk x)
theorem fP {P:Program} {kt:TypeId} {q:IntKind} (hd:P.underlying kt=some (.int q)):zm P kt (fun x:Int => .int q x) :=
 yC hd _ (fun a b h=>by cases h; rfl) (fun x=>by simp [MapKept.IsKey])
theorem uX {P:Program} {kt:TypeId} (hd:P.underlying kt=some .string):zm P kt (fun x:ByteArray => .string x) :=
 yC hd _ (fun a b h=>by cases h; rfl) (fun x=>by simp [MapKept.IsKey])
section
variable {κ ν:Type} [DecidableEq κ] {ek:κ→Value} {ev:ν→Value}
theorem qg [Inhabited ν]:∀ {m:List (κ×ν)} {x:κ},(∀ k ∈ m.map (·.1),k≠x)→mat m x=default∧jl m x=false
 | [],_,_=>⟨rfl,rfl⟩
 | p::m,x,h=>by
  have h1:p.1≠x:=h p.1 (by simp);have h2:=qg (m:=m) (x:=x) (fun k hk=>h k (by simp at hk ⊢; exact .inr hk));refine ⟨by rw [mat,if_neg h1]; exact h2.1,?_⟩
  have:=h2.2;unfold jl at this ⊢
  rw [List.any_cons,this,decide_eq_false h1]
  rfl
theorem uY [Inhabited ν]:∀ {m:List (κ×ν)} {x:κ} {j:Nat} {y:ν},m[j]? = some (x,y)→(∀ i k,i < j→(m.map (·.1))[i]? = some k→k≠x)→mat m x=y∧jl m x=true
 | p::m,x,0,y,h,_=>by
  simp only [List.getElem?_cons_zero,Option.some.injEq] at h
  subst h;exact ⟨by rw [mat,if_pos rfl],by unfold jl; simp⟩
 | p::m,x,j + 1,y,h,hn=>by
  have h1:p.1≠x:=hn 0 p.1 (by omega) rfl;have h2:=uY (m:=m) (x:=x) (j:=j) (y:=y) (by simpa using h) (fun i k hi hk=>hn (i + 1) k (by omega) (by simpa using hk));refine ⟨by rw [mat,if_neg h1]; exact h2.1,?_⟩
  have:=h2.2;unfold jl at this ⊢
  rw [List.any_cons,this,Bool.or_true]
theorem sP:∀ {m:List (κ×ν)} {x:κ} {y:ν},(∀ k ∈ m.map (·.1),k≠x)→eB m x y=m++[(x,y)]
 | [],_,_,_=>rfl
 | p::m,x,y,h=>by
  have h1:p.1≠x:=h p.1 (by simp)
  rw [eB,if_neg h1,sP (fun k hk=>h k (by simp at hk ⊢; exact .inr hk))]
  rfl
theorem sQ:∀ {m:List (κ×ν)} {x:κ} {y:ν} {j:Nat},(m.map (·.1))[j]? = some x→(∀ i k,i < j→(m.map (·.1))[i]? = some k→k≠x)→eB m x y=m.set j (x,y)
 | p::m,x,y,0,h,_=>by
  simp only [List.map_cons,List.getElem?_cons_zero,Option.some.injEq] at h
  rw [eB,if_pos h]
  rfl
 | p::m,x,y,j + 1,h,hn=>by
  have h1:p.1≠x:=hn 0 p.1 (by omega) rfl
  rw [eB,if_neg h1,sQ (j:=j) (by simpa using h) (fun i k hi hk=>hn (i + 1) k (by omega) (by simpa using hk))]
  rfl
end
section
variable {P:Program} {o:Oper} {ev_:Operand→Value} {K:Value→World→Prop} {w:World} {M:Mem} {L:List aY}
variable {κ ν:Type} [DecidableEq κ] {ek:κ→Value} {ev:ν→Value}
theorem Inv.mapAt (h:Inv M w L) (li:Nat) {b:Nat} {m:List (κ×ν)} (hL:L[li]? = some (zl ek ev b m)):fJ ek ev (hp w) b m:=by
 obtain ⟨F1,_,hown⟩:=h.look hL;exact hown.2
theorem qh (κ ν:Type) (ek:κ→Value) (ev:ν→Value) (t:TypeId) (hop:o.op = .makeMap t none) (hI:Inv M w L) (h:∀ b w',Inv M w' (L++[zl ek ev b ([]:List (κ×ν))])→K (.map (some b)) w'):Eff P o ev_ w K:=by
 refine eH (.map (some w.heap.size)) (w':=w.alloc (.map #[] 0)) ?_ (h _ _ (hI.alloc _ ⟨rfl,#[],0,lX w _,rfl,uf.nil⟩))
 simp only [execOp,hop,Option.map_none]
 rfl
theorem Ci {m:List (κ×ν)} {es:List MapEntry} (h:es.map (fun e=>(e.key,e.val))=m.map (fun p=>(ek p.1,ev p.2))):es.map (·.key)=(m.map (·.1)).map ek:=by
 have:=congrArg (List.map Prod.fst) h
 simpa [List.map_map,Function.comp_def] using this
theorem Ex {m:List (κ×ν)} {es:List MapEntry} (h:es.map (fun e=>(e.key,e.val))=m.map (fun p=>(ek p.1,ev p.2))) {j:Nat} {e:MapEntry} (he:es[j]? = some e):∃ p,m[j]? = some p∧e.key=ek p.1∧e.val=ev p.2:=by
 have h1:(es.map (fun e=>(e.key,e.val)))[j]? = some (e.key,e.val):=by rw [List.getElem?_map,he]; rfl
 rw [h,List.getElem?_map] at h1
 cases hm:m[j]? with
 | none=>rw [hm] at h1; cases h1
 | some p =>
  rw [hm] at h1
  have h2:=Option.some.inj h1;exact ⟨p,rfl,(congrArg Prod.fst h2).symm,(congrArg Prod.snd h2).symm⟩
theorem iy [Inhabited ν] (t kt et:TypeId) (a x:Operand) (ok:Bool) (b:Nat) (m:List (κ×ν)) (k:κ) (hop:o.op = .lookup t a x ok) (ht:P.underlying t=some (.map kt et)) (hK:zm P kt ek) (hz:∀ w:World,(zeroValue et).run P w = .ok (ev default) w)
  (ha:ev_ a = .map (some b)) (hx:ev_ x=ek k) (hm:fJ ek ev (hp w) b m) (h:K (bif ok then .tuple #[ev (mat m k),.bool (jl m k)] else ev (mat m k)) w):Eff P o ev_ w K:=by
 obtain ⟨es,clock,hb,hes,_⟩:=hm;have hb:w.heap[b]? = some (.map es clock):=hb;refine eH _ ?_ h;have hrun:(Instr.lookup t (.map (some b)) (ek k) ok).run P w = .ok (bif ok then .tuple #[ev (mat m k),.bool (jl m k)] else ev (mat m k)) w:=by
  rcases hK.find w k es.toList _ (Ci hes) with ⟨h1,h2⟩ | ⟨j,e,h1,h2,h3,h4⟩
  ·obtain ⟨e1,e2⟩:=qg h2
   rw [e1,e2]
   simp only [Instr.lookup,Sem.run_bind,aU ht,Result.andThen,MapKept.run_getObj_map hb,hK.check,h1,hz,pure,Sem.run]
   cases ok <;> rfl
  ·obtain ⟨p,a2,a3,a1⟩:=Ex hes h2;have hk':p.1=k:=by
    rw [List.getElem?_map,a2] at h3
    exact Option.some.inj h3
   obtain ⟨pk,pv⟩:=p;have hk':pk=k:=hk';subst hk';obtain ⟨e1,e2⟩:=uY a2 h4
   rw [e1,e2]
   have a1:e.val=ev pv:=a1
   simp only [Instr.lookup,Sem.run_bind,aU ht,Result.andThen,MapKept.run_getObj_map hb,hK.check,h1,a1,pure,Sem.run]
   cases ok <;> rfl
 simp only [execOp,hop,ha,hx,Sem.run_bind,hrun,Result.andThen,Sem.run,pure]
theorem Ey (t:TypeId) (ty:TypeId) (a:Operand) (b:Nat) (m:List (κ×ν)) (kt et:TypeId) (hop:o.op = .call { callee := .builtin .len,args := #[a],argTypes := #[t] }) (hty:o.type=ty) (ht:P.underlying t=some (.map kt et)) (ha:ev_ a = .map (some b)) (hm:fJ ek ev (hp w) b m)
  (h:K (.int .i64 (m.length:Int)) w):Eff P o ev_ w K:=by
 obtain ⟨es,clock,hb,hes,_⟩:=hm;have hb:w.heap[b]? = some (.map es clock):=hb;have hlen:es.size=m.length:=by
  have:=congrArg List.length hes
  simpa using this
 refine eH _ ?_ h;have ht':P.underlying t=some (.map (P.mapKeyOf t) (P.mapElemOf t)):=by rw [ht]; simp [Program.mapKeyOf,Program.mapElemOf,ht]
 have hrun:=run_len_map (P:=P) w t o.type b es clock ht' hb
 rw [hlen] at hrun
 have hargs:(#[a].map ev_:Array Value) = #[.map (some b)]:=by simp [ha]
 simp only [execOp,hop,resolve,invoke,builtin,Sem.run_bind,Sem.run,pure,Result.andThen,hargs,hrun]
 rfl
theorem sw (t kt et:TypeId) (a x y:Operand) (li b:Nat) (m:List (κ×ν)) (k:κ) (v:ν) (hop:o.op = .mapUpdate t a x y) (ht:P.underlying t=some (.map kt et)) (hK:zm P kt ek)
  (ha:ev_ a = .map (some b)) (hx:ev_ x=ek k) (hy:ev_ y=ev v) (hI:Inv M w L) (hL:L[li]? = some (zl ek ev b m)) (h:∀ w',Inv M w' (L.set li (zl ek ev b (eB m k v)))→K undef w'):Eff P o ev_ w K:=by
 obtain ⟨F1,a3,hFb,es,clock,hb,hes,hbn⟩:=hI.look hL;have hb:w.heap[b]? = some (.map es clock):=hb;have hlt:b < w.heap.size:=(Array.getElem?_eq_some_iff.1 hb).1;have key:∃ o',(Instr.mapUpdate t (.map (some b)) (ek k) (ev v)).run P w = .ok () { w with heap:=w.heap.setIfInBounds b o' }∧∃ es' clock',o' = .map es' clock'∧es'.toList.map (fun e=>(e.key,e.val))=(eB m k v).map (fun p=>(ek p.1,ev p.2))∧uf es' clock':=by
  rcases hK.find w k es.toList _ (Ci hes) with ⟨h1,h2⟩ | ⟨j,e,h1,h2,h3,h4⟩
  ·refine ⟨_,?_,es.push { key:=ek k,val:=ev v,born:=clock },clock + 1,rfl,?_⟩
   ·simp only [Instr.mapUpdate,Sem.run_bind,aU ht,Result.andThen,MapKept.run_getObj_map hb,hK.check,h1,MapKept.run_setObj_map _ hb,pure,Sem.run]
   ·refine ⟨?_,hbn.push rfl⟩
    rw [sP h2,Array.toList_push,List.map_append,hes,List.map_append]
    rfl
  ·obtain ⟨p,a1,a2,a4⟩:=Ex hes h2;have hj:es[j]? = some e:=by simpa using h2
   have hk':p.1=k:=by
    rw [List.getElem?_map,a1] at h3
    exact Option.some.inj h3
   have hek:e.key=ek k:=by rw [a2,hk']
   refine ⟨_,?_,es.modify j (fun e=>{ e with key:=ek k,val:=ev v }),clock,rfl,?_⟩
   ·simp only [Instr.mapUpdate,Sem.run_bind,aU ht,Result.andThen,MapKept.run_getObj_map hb,hK.check,h1,hj,Option.map_some,Option.getD_some,hek,hK.stays,MapKept.run_setObj_map _ hb,pure,Sem.run]
   ·refine ⟨?_,hbn.same ?_⟩
    rotate_left
    ·apply List.ext_getElem?
     intro i
     rw [List.getElem?_map,List.getElem?_map,Array.getElem?_toList,Array.getElem?_modify,Array.getElem?_toList]
     by_cases e':j=i
     ·subst e'
      rw [if_pos rfl]
      cases es[j]? <;> rfl
     ·rw [if_neg e']
    rw [sQ h3 h4,List.map_set,← hes]
    apply List.ext_getElem?
    intro i;have hjl:j < es.toList.length:=(List.getElem?_eq_some_iff.1 h2).1
    rw [List.getElem?_map,Array.getElem?_toList,Array.getElem?_modify,List.getElem?_set,List.length_map]
    by_cases e':j=i
    ·subst e'
     rw [if_pos rfl,if_pos rfl,if_pos hjl,hj]
     rfl
    ·rw [if_neg e',if_neg e',List.getElem?_map,Array.getElem?_toList]
 obtain ⟨o',hrun,es',clock',rfl,hes',hbn'⟩:=key;refine xO (w':={ w with heap:=w.heap.setIfInBounds b (.map es' clock') }) ?_ (h _ ?_)
 ·simp only [execOp,hop,ha,hx,hy,Sem.run_bind,hrun,Result.andThen,Sem.run,pure]
 ·have hset:=MapKept.heap_set (w:=w) (o' := .map es' clock') hb;refine hI.turn hL (w':={ w with heap:=w.heap.setIfInBounds b (.map es' clock') }) (by simp) rfl rfl rfl ?_;rintro F hF ⟨hFb',_⟩;exact ⟨F,⟨hFb',es',clock',hset.1,hes',hbn'⟩,fun b2 _ hn=>hset.2 b2 (fun e=>hn (e ▸ hFb')),fun _ h => .inl h⟩
end
end Go.Proofs.YtmfgddafcgflaaaE
namespace Go.Proofs.YtmfgddafcgflaaaE
open Go
set_option linter.unusedVariables false
set_option linter.unusedSimpArgs false
set_option linter.unusedSectionVars false
def kZ (b:Nat) (o:Obj):aY := .any (fun H F=>F b∧H b=some o) (fun h hF=>⟨hF _ h.1,h.2⟩) (fun h hF=>⟨h.1,by rw [hF _ h.1]; exact h.2⟩)
section
variable {M:Mem} {w:World} {L:List aY} {P:Program}
theorem Inv.objAt (h:Inv M w L) (li:Nat) {b:Nat} {o:Obj} (hL:L[li]? = some (kZ b o)):w.heap[b]? = some o:=by
 obtain ⟨F1,_,hown⟩:=h.look hL;exact hown.2
theorem Inv.objNew (h:Inv M w L) (o:Obj):Inv M (w.alloc o) (L++[kZ w.heap.size o]):=h.alloc o ⟨rfl,lX w _⟩
theorem Inv.objPut (h:Inv M w L) (li:Nat) {b:Nat} {o:Obj} (o':Obj) (hL:L[li]? = some (kZ b o)):Inv M (w.putObj b o') (L.set li (kZ b o')):=by
 have hb:=h.objAt li hL;have hset:=MapKept.heap_set (w:=w) (o':=o') hb;refine h.turn hL (w':=w.putObj b o') (by simp [World.putObj]) rfl rfl rfl ?_;rintro F hF ⟨hFb,_⟩;exact ⟨F,⟨hFb,hset.1⟩,fun b2 _ hn=>hset.2 b2 (fun e=>hn (e ▸ hFb)),fun _ h => .inl h⟩
def zi (P:Program) (l:Nat) (args:Array Value) (w:World) (R:Value→World→Prop):Prop :=
 ∃ g tmps assign body,(Instr.yield l args).run P w = .ok (.round l g tmps assign body) w∧vT P l g tmps assign body w R
theorem vT.mono {l:Nat} {g:FuncId} {tmps:Array Value} {assign body:Code} {R R':Value→World→Prop} (h:vT P l g tmps assign body w R) (hR:∀ v w,R v w→R' v w):vT P l g tmps assign body w R':=by
 intro c cs;obtain ⟨v,w',h1,h2⟩:=h c cs;exact ⟨v,w',hR v w' h1,h2⟩
end
section
variable {E:Env} {k:List Item} {f:Nat→Value} {w:World} {M:Mem} {L:List aY} {ops:Array Oper}
theorem Gg {R:Value→World→Prop} (i:Nat) (o:Oper) (hn:nth ops.toList i=some o) (hw:wants E.N ops f o=true) (l:Nat) (args:Array Value) (x:Operand) (xs:Array Operand) (ts:Array TypeId)
  (hop:o.op = .call { callee := .value x,args:=xs,argTypes:=ts }) (hx:ev E.N f x = .func (.yield l) #[] #[]) (hxs:xs.map (ev E.N f)=args) (hY:zi E.P l args w R)
  (h:∀ v w',R v w'→GoO E ops (i + 1) k (lc f o.dst v) w'):GoO E ops i k f w:=by
 obtain ⟨g,tmps,assign,body,hy,hr⟩:=hY;have ho:ops[i]? = some o:=by rw [xP] at hn; simpa using hn
 have hrun:(execOp (ev E.N f) o).run E.P w = .ok (.round l g tmps assign body) w:=by
  simp only [execOp,hop,resolve,hx,hxs,Sem.run_bind,Deferred.ofValue,Sem.run,pure,Result.andThen,invoke,Array.empty_append,hy]
 unfold GoO
 rw [oF (qi ho)]
 exact go_round o ho hw hrun hr fun v w' hv=>h v w' hv
theorem Ev {P:Program} {l:Nat} {g:FuncId} {N:Nat} {tmps:Array Value} {assign body:Code} {R:Value→World→Prop} (ht:tmps=tm N f)
  (h:∀ c cs,Go ⟨P,g,N,c::cs,fun e w=>∃ v,e = .returned v∧R v w,[],some l⟩ [.code assign,.beginRound,.code body] f w):vT P l g tmps assign body w R:=by
 intro c cs;obtain ⟨m,hs,v,w',c',cs',hc,⟨v',hv,hR⟩,rfl⟩:=h c cs;cases hc;cases hv;refine ⟨v,w',hR,?_⟩;have e:Frame.round l g tmps assign body .normal=Frame.atR { (default:Frame) with fn:=g,kind := .normal,roundOf:=some l } ⟨tm N f,[]⟩ [.code assign,.beginRound,.code body]:=by
  simp [Frame.round,Frame.atR,ht]
 rw [e]
 exact hs
theorem Al {l:Nat} {r:Loop} (hro:E.ro=some l) (hI:Inv M w L) (li:Nat) (hL:L[li]? = some (kZ l (.loop r))) (hr:r.state = .ready)
  (h:∀ w',Inv M w' (L.set li (kZ l (.loop { r with state := .busy })))→Go E k f w'):Go E (.beginRound::k) f w :=
 .step (stepR_beginRound hro (run_beginRound (hI.objAt li hL) hr)) (h _ (hI.objPut li _ hL))
theorem uT {l:Nat} {r:Loop} {c:Frame} {cs:List Frame} (hro:E.ro=some l) (hcs:E.cs=c::cs) (hI:Inv M w L) (li:Nat) (hL:L[li]? = some (kZ l (.loop r)))
  (hR:∀ w',Inv M w' (L.set li (kZ l (.loop { r with state := .ready,pending:=none })))→E.R (.returned (.bool true)) w'):Go E [] f w:=by
 have hs:=stepR_round_end (P:=E.P) (b:=E.b) (a:=E.fr f) (c:=c) (cs:=cs) (w:=w) hro rfl (run_endRound none (hI.objAt li hL))
 rw [← hcs] at hs
 refine ⟨_,Steps.one hs,?_⟩;unfold Env.End
 rw [hro]
 exact ⟨_,_,c,cs,hcs,hR _ (hI.objPut li _ hL),rfl⟩
theorem uU {P:Program} {l:Nat} {r:Loop} (hI:Inv M w L) (li:Nat) (hL:L[li]? = some (kZ l (.loop r))) (hb:r.state ≠ .busy) :
  ∃ w',(Instr.endLoop l).run P w = .ok r.pending w'∧Inv M w' (L.set li (kZ l (.loop { r with state := .exhausted }))) :=
 ⟨_,run_endLoop (hI.objAt li hL) hb,hI.objPut li _ hL⟩
end
end Go.Proofs.YtmfgddafcgflaaaE
namespace Go.Proofs.YtmfgddafcgflaaaE
open Go
set_option linter.unusedVariables false
set_option linter.unusedSimpArgs false
set_option linter.unusedSectionVars false
def sEq (a b:ByteArray):Bool:=a.toList == b.toList
theorem Af (bs:ByteArray):bs.size=bs.data.toList.length:=by rw [Array.length_toList]; rfl
theorem ww (bs:ByteArray):∀ (n i:Nat) (r:List UInt8),bs.size - i=n→ByteArray.toList.loop bs i r=r.reverse++bs.data.toList.drop i
 | n,i,r,h=>by
  unfold ByteArray.toList.loop
  split
  ·rename_i hi
   cases n with
   | zero=>omega
   | succ n =>
    rw [ww bs n (i + 1) _ (by omega)]
    have hi':i < bs.data.toList.length:=by rw [← Af]; exact hi
    rw [List.drop_eq_getElem_cons hi']
    have hg:bs.get! i=bs.data.toList[i]:=by
     have h2:i < bs.data.size:=by simpa using hi'
     show bs.data[i]! = _
     rw [getElem!_pos bs.data i h2]
     simp
    simp [hg]
  ·rename_i hi
   have:bs.data.toList.length≤i:=by rw [← Af]; omega
   rw [List.drop_of_length_le this]
   simp
theorem toList_eq (bs:ByteArray):bs.toList=bs.data.toList:=by
 unfold ByteArray.toList
 rw [ww bs _ 0 [] rfl]
 simp
theorem Gc {a b:ByteArray}:sEq a b=true↔a=b:=by
 unfold sEq
 rw [toList_eq,toList_eq,beq_iff_eq]
 constructor
 ·intro h;cases a;cases b
  simpa using h
 ·rintro rfl; rfl
theorem zb {P:Program} {o:Oper} {ev_:Operand→Value} {K:Value→World→Prop} {w:World} {α:Type} (kt:Ty α) (t e:TypeId) (x:Operand) (lo hi:Option Operand) (inf:TypeInfo) (A:Option Addr) (c:Nat) (xs:List α) (kl kh:IntKind) (l h:Int) (hop:o.op = .slice t x lo hi none)
  (hx:ev_ x = .slice A xs.length c) (hlo:(lo.map ev_).getD (.int .i64 0) = .int kl l) (hhi:(hi.map ev_).getD (.int .i64 xs.length) = .int kh h)
  (ht:P.underlying t=some (.slice e)) (hi':P.info? e=some inf) (hsz:inf.size=kt.sz) (hc:xs.length≤c) (hb:0≤l∧l≤h∧h≤xs.length)
  (h:∀ A' c',(∀ H,rdS kt H A xs→rdS kt H A' (bV xs l h))→(bV xs l h).length≤c'→K (.slice A' (bV xs l h).length c') w):Eff P o ev_ w K:=by
 have hrun:=tK (w:=w) A xs.length c (lo.map ev_) (hi.map ev_) kl kh l _ ht hi' hlo hhi hb hc;refine eH _ (w':=w) ?_ (h _ (c - l.toNat) (fun H hr=>hr.sub hc hb hsz) ?_)
 ·simp only [execOp,hop,hx,Option.map_none,Sem.run_bind,hrun,Result.andThen,Sem.run,pure,sj hb]
 ·rw [sj hb]; omega
def Bo {ι:Type} (p:ι→Prop) (L:ι→List aY):aY :=
 .any (fun H F=>∃ i,p i∧sep (L i) H F) (fun ⟨i,hp,h⟩ hF=>⟨i,hp,h.mono hF⟩) (fun ⟨i,hp,h⟩ hF=>⟨i,hp,h.congr hF⟩)
section
variable {M:Mem} {w:World} {L L0:List aY} {P:Program}
theorem Inv.unbag {ι:Type} {p:ι→Prop} {B:ι→List aY} (h:Inv M w (Bo p B::L0)):∃ i,p i∧Inv M w (B i++L0):=by
 obtain ⟨F1,F2,h1,h2,h3,⟨i,hp,hs⟩,h5⟩:=h.sep;exact ⟨i,hp,h.fix,h.size,h.os,h.tape,h.output,(hs.append h5 h3).mono fun b hb=>hb.elim (h1 b) (h2 b)⟩
theorem Inv.tobag {ι:Type} {p:ι→Prop} {B:ι→List aY} (i:ι) (hp:p i) (h:Inv M w (B i++L0)):Inv M w (Bo p B::L0):=by
 obtain ⟨F1,F2,h1,h2,h3,h4,h5⟩:=h.sep.split;exact ⟨h.fix,h.size,h.os,h.tape,h.output,F1,F2,h1,h2,h3,⟨i,hp,h4⟩,h5⟩
def rest (L:List aY):aY:=Bo (fun _:Unit=>True) (fun _=>L)
theorem Inv.tails {a:aY} (h:Inv M w (a::L)):Inv M w [a,rest L]:=by
 obtain ⟨F1,F2,h1,h2,h3,h4,h5⟩:=h.sep;exact ⟨h.fix,h.size,h.os,h.tape,h.output,F1,F2,h1,h2,h3,h4,F2,fun _=>False,fun _ h=>h,fun _ h=>h.elim,fun _ _ h=>h,⟨(),trivial,h5⟩,trivial⟩
theorem Inv.untails {a:aY} (h:Inv M w [a,rest L]):Inv M w (a::L):=by
 obtain ⟨F1,F2,h1,h2,h3,h4,G1,G2,g1,_,_,⟨_,_,h5⟩,_⟩:=h.sep;exact ⟨h.fix,h.size,h.os,h.tape,h.output,F1,F2,h1,h2,h3,h4,h5.mono g1⟩
def Gt (D:Nat):Deferred:={ target := .collected D,args := #[] }
def marks (Ds:List Nat):List Deferred:=Ds.map Gt
def je (Ds:List Nat):aY :=
 .any (fun H F=>Ds.Nodup∧∀ D ∈ Ds,F D∧H D=some (.deferred (some []))) (fun h hF=>⟨h.1,fun D hD=>⟨hF D (h.2 D hD).1,(h.2 D hD).2⟩⟩) (fun h hF=>⟨h.1,fun D hD=>⟨(h.2 D hD).1,(hF D (h.2 D hD).1).trans (h.2 D hD).2⟩⟩)
def Env.marks (E:Env) (Ds:List Nat):Env:={ E with ds:=Go.Proofs.YtmfgddafcgflaaaE.marks Ds }
theorem Inv.nomarks (h:Inv M w L):Inv M w (je []::L) :=
 ⟨h.fix,h.size,h.os,h.tape,h.output,fun _=>False,_,fun _ h=>h.elim,fun _ h=>h,fun _ h=>h.elim,⟨List.nodup_nil,fun _ h=>by cases h⟩,h.sep⟩
theorem Inv.addmark {D:Nat} {Ds:List Nat} (h:Inv M w (kZ D (.deferred (some []))::je Ds::L)):Inv M w (je (D::Ds)::L):=by
 obtain ⟨F1,F2,h1,h2,h3,hD,G1,G2,g1,g2,g3,hM,hL⟩:=h.sep;refine ⟨h.fix,h.size,h.os,h.tape,h.output,fun b=>F1 b∨G1 b,G2,fun b hb=>hb.elim (h1 b) (fun hb=>h2 b (g1 b hb)),fun b hb=>h2 b (g2 b hb),?_,⟨List.nodup_cons.2 ⟨fun hm => ?_,hM.1⟩,?_⟩,hL⟩
 ·rintro b (hb | hb) hg
  ·exact h3 b hb (g2 b hg)
  ·exact g3 b hb hg
 ·exact h3 D hD.1 (g1 D (hM.2 D hm).1)
 ·intro D' hm;rcases List.mem_cons.1 hm with rfl | hm
  ·exact ⟨.inl hD.1,hD.2⟩
  ·exact ⟨.inr (hM.2 D' hm).1,(hM.2 D' hm).2⟩
theorem Inv.unmark {D:Nat} {Ds:List Nat} (h:Inv M w (je (D::Ds)::L)):Inv M w (kZ D (.deferred (some []))::je Ds::L):=by
 obtain ⟨F1,F2,h1,h2,h3,hM,hL⟩:=h.sep;obtain ⟨hn,hm⟩:=hM;obtain ⟨a1,a2⟩:=List.nodup_cons.1 hn;refine ⟨h.fix,h.size,h.os,h.tape,h.output,fun b=>b=D,fun b=>(F1 b∧b≠D)∨F2 b,fun b hb => ?_,fun b hb=>hb.elim (fun hb=>h1 b hb.1) (h2 b),?_,⟨rfl,(hm D List.mem_cons_self).2⟩,fun b=>F1 b∧b≠D,F2,fun _ h => .inl h,fun _ h => .inr h,fun b hb=>h3 b hb.1,⟨a2,fun D' hD' => ?_⟩,hL⟩
 ·subst hb; exact h1 _ (hm _ List.mem_cons_self).1
 ·rintro b rfl (hb | hb)
  ·exact hb.2 rfl
  ·exact h3 b (hm b List.mem_cons_self).1 hb
 ·exact ⟨⟨(hm D' (List.mem_cons_of_mem _ hD')).1,fun e=>a1 (e ▸ hD')⟩,(hm D' (List.mem_cons_of_mem _ hD')).2⟩
theorem wy {fn:Func} {R:Ending→World→Prop}:∀ {Ds:List Nat} {w:World} {fr:Frame} {cs:List Frame},fr.mode = .returning→fr.kind = .normal→fr.roundOf=none→fr.defers=marks Ds→P.funcs[fr.fn]? = some fn→Inv M w (je Ds::L) →
  (∀ w',Inv M w' L→∃ v,(results fn fr.tmps).run P w' = .ok v w'∧R (.returned v) w') →
  ∃ v w' fr',R (.returned v) w'∧Steps P (lone fr cs w) (lone fr' cs w')∧fr'.fn=fr.fn∧fr'.leaving P w' (.returned v)
 | [],w,fr,cs,hm,hk,hr,hd,hf,hI,h=>by
  obtain ⟨F1,F2,_,h2,_,_,hL⟩:=hI.sep;obtain ⟨v,hv,hR⟩:=h w ⟨hI.fix,hI.size,hI.os,hI.tape,hI.output,hL.mono h2⟩;exact ⟨v,w,fr,hR,Steps.refl _ _,rfl,hm,hd,hk,fn,hf,hv⟩
 | D::Ds,w,fr,cs,hm,hk,hr,hd,hf,hI,h=>by
  have h1:=hI.unmark;have s1:=step_collected (P:=P) (fr:=fr) (cs:=cs) (w:=w) (d:=Gt D) (ds:=marks Ds) (r:=D) (calls:=[]) (by rw [hm]; intro h; cases h) hd rfl (run_takeDeferred (h1.objAt 0 rfl));have h2:Inv M (w.putObj D (.deferred none)) (kZ D (.deferred none)::je Ds::L):=h1.objPut 0 (.deferred none) rfl;have h3:Inv M (w.putObj D (.deferred none)) (je Ds::L):=by
   obtain ⟨F1,F2,_,g2,_,_,hL⟩:=h2.sep;exact ⟨h2.fix,h2.size,h2.os,h2.tape,h2.output,hL.mono g2⟩
  obtain ⟨v,w',fr',hR,hs,hfn,hl⟩:=wy (fr:={ fr with defers:=[]++marks Ds }) (cs:=cs) hm hk hr rfl hf h3 h;exact ⟨v,w',fr',hR,Steps.head s1 hs,hfn,hl⟩
end
section
variable {E:Env} {Ds:List Nat} {k:List Item} {f:Nat→Value} {w:World} {M:Mem} {L:List aY}
theorem ze {fn:Func} (m:Machine) (hm:∃ fr,m=lone fr E.cs w∧fr.mode = .returning∧fr.kind = .normal∧fr.roundOf=none∧fr.defers=marks Ds∧fr.fn=E.fn∧fr.tmps=tm E.N f) (hro:E.ro=none) (hI:Inv M w (je Ds::L)) (hf:E.P.funcs[E.fn]? = some fn)
  (h:∀ w',Inv M w' L→∃ v,(results fn (tm E.N f)).run E.P w' = .ok v w'∧E.R (.returned v) w'):∃ m',Steps E.P m m'∧E.End m':=by
 obtain ⟨fr,rfl,h1,h2,h3,h4,h5,h6⟩:=hm;obtain ⟨v,w',fr',hR,hs,hfn,hl⟩:=wy (P:=E.P) (cs:=E.cs) h1 h2 h3 h4 (by rw [h5]; exact hf) hI (by rw [h6]; exact h);refine ⟨_,hs,?_⟩;unfold Env.End
 rw [hro]
 exact ⟨v,w',fr',hR,rfl,hfn.trans h5,hl⟩
theorem uR {fn:Func} (hro:E.ro=none) (hI:Inv M w (je Ds::L)) (hf:E.P.funcs[E.fn]? = some fn)
  (h:∀ w',Inv M w' L→∃ v,(results fn (tm E.N f)).run E.P w' = .ok v w'∧E.R (.returned v) w'):Go (E.marks Ds) (.code .ret::k) f w:=by
 obtain ⟨m,hs,he⟩:=ze (E:=E) (f:=f) _ ⟨{ (E.marks Ds).b.atR ((E.marks Ds).fr f) (.code .ret::k) with mode := .returning },rfl,rfl,rfl,hro,rfl,rfl,rfl⟩ hro hI hf h;exact ⟨m,Steps.head (stepR_ret (b:=(E.marks Ds).b) (a:=(E.marks Ds).fr f) (P:=E.P) (k:=k) (cs:=E.cs) (w:=w) hro) hs,he⟩
theorem Es {c:Code} {σ Ω:Type} (step:σ→Option (σ ⊕ Ω)) (St:σ→List Nat→(Nat→Value)→World→Prop) {o:Ω} {s:σ}
  (H:iter step s=some o) (h0:St s Ds f w)
  (round:∀ s Ds f w x,step s=some x→St s Ds f w→(∀ s',x = .inl s'→∀ Ds' f' w',St s' Ds' f' w'→Go (E.marks Ds') (.inLoop c::k) f' w')→(∀ ω,x = .inr ω→ω=o)→Go (E.marks Ds) (.code c :: .inLoop c::k) f w) :
  Go (E.marks Ds) (.code (.loop c)::k) f w:=by
 obtain ⟨n,hn⟩:=sF.1 H;refine go_loop ?_;clear H
 induction n generalizing s Ds f w with
 | zero=>cases hn
 | succ n ih =>
  simp only [oH] at hn
  cases hs:step s with
  | none=>rw [hs] at hn; cases hn
  | some x =>
   rw [hs] at hn
   refine round s Ds f w x hs h0 ?_ ?_
   ·rintro s' rfl Ds' f' w' h';exact xR (ih (s:=s') h' hn)
   ·rintro ω rfl;exact Option.some.inj hn
end
theorem yA {P:Program} {g:FuncId} {fn:Func} {c:Code} {args:Array Value} {w:World} {R:Ending→World→Prop} (f:Nat→Value)
  (hf:P.funcs[g]? = some fn) (hb:fn.body=some c) (ha:args++Array.replicate (fn.ntmps - args.size) undef=tm fn.ntmps f)
  (h:∀ cs,Go (Env.marks ⟨P,g,fn.ntmps,cs,R,[],none⟩ []) [.code c] f w):Calls P g args w R:=vg f hf hb ha h
def recAt (r:Loop) (st:LoopState) (pd:Option Code):Loop:={ r with state:=st,pending:=pd }
theorem Ch (N:Nat):∀ (us:List (Nat×Value)) (f:Nat→Value),us.foldl (fun tmps p=>tmps.setIfInBounds p.1 p.2) (tm N f)=tm N (aZ f us)
 | [],_=>rfl
 | (d,v)::us,f=>by rw [List.foldl_cons,Br,Ch N us]; rfl
section
variable {E:Env} {Ds:List Nat} {k:List Item} {f:Nat→Value} {w:World} {M:Mem} {L:List aY}
theorem Ag (h:Go E k f w):Go E (((none:Option Code).map Item.code).toList++k) f w:=h
end
end Go.Proofs.YtmfgddafcgflaaaE
namespace Go.Proofs.YtmfgddafcgflaaaE
open Go Go.Proofs
set_option linter.unusedVariables false
set_option linter.unusedSimpArgs false
def Tri {α:Type} (x:Option α) (Q:α→Prop):Prop:=∃ a,x=some a∧Q a
theorem af {α:Type} {a:α} {Q:α→Prop} (h:Q a):Tri (some a) Q:=⟨a,rfl,h⟩
theorem ah {α:Type} {c:Prop} [Decidable c] {x:Option α} {Q:α→Prop} (hc:c) (h:Tri x Q):Tri (must c x) Q:=by rw [iC _ hc]; exact h
theorem bH {α β:Type} {x:Option α} {k:α→Option β} {R:α→Prop} {Q:β→Prop} (h:Tri x R) (hk:∀ a,R a→Tri (k a) Q):Tri (x.bind k) Q:=by
 obtain ⟨a,rfl,ha⟩:=h;exact hk a ha
theorem dA {α:Type} {x:Option α} {R Q:α→Prop} (h:Tri x R) (hq:∀ a,R a→Q a):Tri x Q:=by
 obtain ⟨a,ha,hr⟩:=h;exact ⟨a,ha,hq a hr⟩
theorem aA {σ Ω:Type} {x:Option Ω} {Q:σ ⊕ Ω→Prop} (h:Tri x (fun a=>Q (.inr a))):Tri (out x) Q:=by
 obtain ⟨a,rfl,ha⟩:=h;exact ⟨_,rfl,ha⟩
theorem kC {α:Type} {x:Option α} {a:α}:Tri x (fun b=>b=a)↔x=some a:=by
 constructor
 ·rintro ⟨b,h,rfl⟩; exact h
 ·intro h; exact ⟨a,h,rfl⟩
def Rnd {σ Ω:Type} (I:σ→Prop) (m:σ→Nat) (Q:Ω→Prop) (s:σ):σ ⊕ Ω→Prop
 | .inl s'=>I s'∧m s' < m s
 | .inr o=>Q o
theorem uK {σ Ω:Type} {step:σ→Option (σ ⊕ Ω)} {Q:Ω→Prop} (I:σ→Prop) (m:σ→Nat) {s:σ} (h0:I s)
  (hs:∀ s,I s→Tri (step s) (Rnd I m Q s)):Tri (iter step s) Q:=by
 generalize hn:m s=n
 induction n using Nat.strongRecOn generalizing s with
 | ind n ih =>
  obtain ⟨x,hx,hr⟩:=hs s h0
  rw [wT,hx]
  cases x with
  | inl s'=>exact ih (m s') (hn ▸ hr.2) hr.1 rfl
  | inr o=>exact ⟨o,rfl,hr⟩
theorem mM {α:Type} {c:Bool} {x y:Option α} {Q:α→Prop} (h1:c=true→Tri x Q) (h2:c=false→Tri y Q):Tri (bif c then x else y) Q:=by
 cases c
 ·exact h2 rfl
 ·exact h1 rfl
def Up {Ω:Type} (n k:Nat) (J:Nat→Prop) (Q:Ω→Prop):Int ⊕ Ω→Prop
 | .inl s'=>s'=((k + 1:Nat):Int)∧k < n∧J (k + 1)
 | .inr o=>Q o
theorem Ef {Ω:Type} {step:Int→Option (Int ⊕ Ω)} {Q:Ω→Prop} (n:Nat) (J:Nat→Prop) (h0:J 0)
  (hs:∀ k:Nat,k≤n→J k→Tri (step (k:Int)) (Up n k J Q)):Tri (iter step 0) Q:=by
 refine uK (fun s:Int=>∃ k:Nat,s=(k:Int)∧k≤n∧J k) (fun s:Int=>n - s.toNat) ⟨0,rfl,Nat.zero_le _,h0⟩ ?_;rintro s ⟨k,rfl,hk,hJ⟩;refine dA (hs k hk hJ) ?_;rintro (s' | o) h
 ·obtain ⟨rfl,h1,h2⟩:=h;exact ⟨⟨k + 1,rfl,h1,h2⟩,by simp; omega⟩
 ·exact h
def Up2 {σ Ω:Type} (n k:Nat) (J:Nat→σ→Prop) (Q:Ω→Prop):(σ×Int) ⊕ Ω→Prop
 | .inl (s',x)=>x=((k + 1:Nat):Int)∧k < n∧J (k + 1) s'
 | .inr o=>Q o
theorem wP {σ Ω:Type} {step:σ×Int→Option ((σ×Int) ⊕ Ω)} {Q:Ω→Prop} {s:σ} (n:Nat) (J:Nat→σ→Prop) (h0:J 0 s)
  (hs:∀ (k:Nat) (s:σ),k≤n→J k s→Tri (step (s,(k:Int))) (Up2 n k J Q)):Tri (iter step (s,0)) Q:=by
 refine uK (fun s:σ×Int=>∃ k:Nat,s.2=(k:Int)∧k≤n∧J k s.1) (fun s:σ×Int=>n - s.2.toNat) ⟨0,rfl,Nat.zero_le _,h0⟩ ?_;rintro ⟨s,x⟩ ⟨k,hx,hk,hJ⟩;subst hx;refine dA (hs k s hk hJ) ?_;rintro (⟨s',x⟩ | o) h
 ·obtain ⟨rfl,h1,h2⟩:=h;exact ⟨⟨k + 1,rfl,h1,h2⟩,by simp; omega⟩
 ·exact h
def Le {α:Type} (x y:Option α):Prop:=∀ r,x=some r→y=some r
theorem le_refl {α:Type} (x:Option α):Le x x:=fun _ h=>h
theorem dE {α:Type} [Inhabited α] {xs:List α} {j:Int} {n:Nat} (hj:j=n) (h:n < xs.length):idx xs j=xs[n]:=by
 subst hj;unfold idx
 simp [h]
theorem FV {α:Type} [Inhabited α] {xs:List α} {i:Int} {j:Nat} {v:α} (h0:0≤i) (h1:i < xs.length):idx (xs.set i.toNat v) (j:Int)=if (j:Int)=i then v else idx xs (j:Int):=by
 unfold idx
 simp only [Int.toNat_natCast,List.getD_eq_getElem?_getD,List.getElem?_set]
 by_cases e:(j:Int)=i
 ·subst e;have:j < xs.length:=by omega
  simp [this]
 ·have:¬ (i.toNat=j):=by omega
  rw [if_neg this,if_neg e]
theorem Eg {α:Type} [Inhabited α] {xs ys:List α} (hl:xs.length=ys.length) (h:∀ j:Nat,j < xs.length→idx xs (j:Int)=idx ys (j:Int)):xs=ys:=by
 apply List.ext_getElem hl
 intro j h1 h2;have:=h j h1
 rwa [dE rfl h1,dE rfl h2] at this
theorem wrap_u64 {n:Nat} (h:n < 2 ^ 64):IntKind.wrap .u64 (n:Int)=n:=by
 unfold IntKind.wrap
 simp only [IntKind.bits,IntKind.signed,Bool.false_and]
 have:((n:Int) % (2 ^ 64:Int))=n:=Int.emod_eq_of_lt (by omega) (by omega)
 simp only [this]
 simp
theorem rW {x:Int} (h0 : -(2 ^ 63)≤x) (h1:x < 2 ^ 63):w64 x=x:=by
 unfold w64 IntKind.wrap
 simp only [IntKind.bits,IntKind.signed,Bool.true_and]
 by_cases hx:0≤x
 ·have:x % (2 ^ 64:Int)=x:=Int.emod_eq_of_lt hx (by omega)
  simp only [this]
  rw [if_neg]
  simp
  omega
 ·have:x % (2 ^ 64:Int)=x + 2 ^ 64:=by
   rw [← Int.add_emod_right]
   exact Int.emod_eq_of_lt (by omega) (by omega)
  simp only [this]
  rw [if_pos]
  ·omega
  ·simp
   omega
theorem Eh {a n:Nat} {i:Int} (hi:i=n) (h:n < 64):ow .u64 (a:Int) i=((a >>> n:Nat):Int):=by
 subst hi;unfold ow
 rw [show IntKind.bits .u64=64 from rfl,Int.toNat_natCast,Nat.min_eq_left (by omega),Nat.shiftRight_eq_div_pow]
 have:(2:Int) ^ n=((2 ^ n:Nat):Int):=(Int.natCast_pow 2 n).symm
 rw [this,Int.fdiv_eq_ediv_of_nonneg _ (Int.natCast_nonneg _)]
 exact (Int.natCast_ediv a (2 ^ n)).symm
theorem FW {a n:Nat}:(a >>> n) &&& 1=(a.testBit n).toNat:=by
 rw [Nat.and_one_is_mod,Nat.testBit_eq_decide_div_mod_eq,Nat.shiftRight_eq_div_pow]
 rcases Nat.mod_two_eq_zero_or_one (a / 2 ^ n) with h | h <;> simp [h]
theorem bq {k:Nat} (h:k < 2 ^ 62):w64 ((k:Int) + 1)=((k + 1:Nat):Int):=by
 rw [rW (by omega) (by omega)]
 rfl
end Go.Proofs.YtmfgddafcgflaaaE
namespace Go.Proofs.YtmfgddafcgflaaaE
open Go Go.Lib
set_option linter.unusedVariables false
set_option linter.unusedSimpArgs false
section
variable {P:Program} {o:Oper} {ev_:Operand→Value} {K:Value→World→Prop} {w:World} {M:Mem} {L:List aY}
variable {α:Type} {kt:Ty α} {enc:α→List Value} [Flat kt enc]
theorem Ei (kt:Ty α) [Flat kt enc] (x:α):∀ v ∈ enc x,v.oneCell'=true:=kt.rd_one (H:=fun _=>none) (Flat.rd_iff.2 rfl)
theorem CZ (kt:Ty α) [Flat kt enc] (xs:List α):∀ v ∈ xs.flatMap enc,v.oneCell'=true:=by
 intro v hv;obtain ⟨x,_,hx⟩:=List.mem_flatMap.1 hv;exact Ei kt x v hx
theorem Inv.openrow {e:TypeId} {b n c:Nat} {xs:List α} (hI:Inv M w L) (li:Nat) (hL:L[li]? = some (.row kt e (some ⟨b,0,none⟩) n c xs)) :
  ∃ cs,Inv M w (L.set li (.blk b e cs))∧cs.length=c * kt.sz∧cs.take (n * kt.sz)=xs.flatMap enc∧xs.length=n∧n≤c∧c≤maxLen:=by
 obtain ⟨F1,a5,hown⟩:=hI.look hL;obtain ⟨hr,hln⟩:=hown;subst hln;rcases hr with ⟨h0,_⟩ | ⟨b',arr,hA,hFb,hb,hlc,hcm,hsz,hseq⟩
 ·cases h0
 ·cases hA;refine ⟨arr.toList,?_,by simpa using hsz,bT.flat.1 hseq,rfl,hlc,hcm⟩
  refine hI.turn hL (Nat.le_refl _) rfl rfl rfl ?_;rintro F hF ⟨hr,_⟩;rcases hr with ⟨h0,_⟩ | ⟨b2,a3,a2,a4,a1,_⟩
  ·cases h0
  ·cases a2;have:a3=arr:=by rw [hb] at a1; cases a1; rfl
   subst this;exact ⟨F,⟨a4,by simpa using a1⟩,fun _ _ _=>rfl,fun _ h => .inl h⟩
theorem Inv.closerow {e:TypeId} {b c:Nat} {cs:List Value} (hI:Inv M w L) (li:Nat) (xs:List α) (hL:L[li]? = some (.blk b e cs)) (hlen:cs.length=c * kt.sz) (hcs:cs.take (xs.length * kt.sz)=xs.flatMap enc)
  (hlc:xs.length≤c) (hcm:c≤maxLen):Inv M w (L.set li (.row kt e (some ⟨b,0,none⟩) xs.length c xs)):=by
 refine hI.turn hL (Nat.le_refl _) rfl rfl rfl ?_;rintro F hF ⟨hFb,hb⟩;exact ⟨F,⟨.inr ⟨b,cs.toArray,rfl,hFb,hb,hlc,hcm,by simpa using hlen,bT.flat.2 (by simpa using hcs)⟩,rfl⟩,fun _ _ _=>rfl,fun _ h => .inl h⟩
def Src (H:BM) (sz:Nat) (v:Value) (n:Nat) (cs:List Value):Prop :=
 cs.length=n * sz∧∃ A c,v = .slice A n c∧(n * sz=0∨∃ b o,A=some ⟨b,o,none⟩∧∀ j u,cs[j]? = some u→cellOf H b (o + j)=some u)
theorem Src.of_blk {e:TypeId} {b l h m sz:Nat} {cs:List Value} (hI:Inv M w L) (li:Nat) (hL:L[li]? = some (.blk b e cs)) (hlh:l≤h) (hm:h≤m) (hfit:h * sz≤cs.length) :
  Src (hp w) sz (sliced (some ⟨b,0,none⟩) l h m sz) (h - l) ((cs.drop (l * sz)).take ((h - l) * sz)):=by
 have hfit2:l * sz + (h - l) * sz=h * sz:=by rw [← Nat.add_mul]; congr 1; omega
 refine ⟨by rw [List.length_take,List.length_drop]; omega,_,_,rfl,?_⟩
 by_cases e:m=l
 ·left; rw [show h - l=0 by omega]; simp
 ·refine .inr ⟨b,l * sz,by rw [if_neg e,Option.map_some,addr_add,Nat.zero_add],fun j u hu => ?_⟩
  have hg:=hI.grp li hL (l * sz + j) u (by
   rw [List.getElem?_take] at hu
   split at hu
   ·rwa [List.getElem?_drop] at hu
   ·cases hu)
  rw [Nat.zero_add,nN] at hg
  exact hg
theorem Src.first {P:Program} {sz n m:Nat} {v:Value} {cs:List Value} (h:Src (hp w) sz v n cs) (hm:m≤n):(Builtin.firstCells sz m v).run P w = .ok (cs.take (m * sz)).toArray w:=by
 obtain ⟨hl,A,c,rfl,h⟩:=h;have hle:m * sz≤n * sz:=Nat.mul_le_mul_right _ hm;rcases h with h0 | ⟨b,o,rfl,hc⟩
 ·have h1:m * sz=0:=by omega
  have h2:cs.take (m * sz)=[]:=by rw [h1]; rfl
  rw [h2]
  cases A with
  | none=>rfl
  | some a=>simp [Builtin.firstCells,h1,loadCells,loadCellsFrom,Sem.run,pure]
 ·have:=run_loadCells (P:=P) (w:=w) b o (cs.take (m * sz)) (fun j u hu=>by
   rw [nN]
   rw [List.getElem?_take] at hu
   split at hu
   ·exact hc j u hu
   ·cases hu)
  rw [List.length_take,Nat.min_eq_left (by omega)] at this
  exact this
theorem Bg {P:Program} {w:World} {t e:TypeId} {inf:TypeInfo} (A:Option Addr) (n c:Nat) (kl kh km:IntKind) (l h m:Int) (ht:P.underlying t=some (.slice e)) (hi':P.info? e=some inf)
  (hb:0≤l∧l≤h∧h≤m∧m≤c):(Instr.sliceAt t (.slice A n c) (some (.int kl l)) (some (.int kh h)) (some (.int km m))).run P w = .ok (sliced A l.toNat h.toNat m.toNat inf.size) w:=by
 have hel:P.elem t=e:=by simp [Program.elem,ht]
 have ht':P.underlying t=some (.slice (P.elem t)):=by rw [hel]; exact ht
 rw [run_sliceAt_slice w t _ _ _ _ ht',run_slice_lhm w t A n c ht' kl kh km l h m (by omega) (by omega) (by omega) (by omega),hel,run_sizeOf hi']
 rfl
theorem Ej (t e:TypeId) (x lo hi mx:Operand) (inf:TypeInfo) (sz:Nat) (A:Option Addr) (n c:Nat) (kl kh km:IntKind) (l h m:Int) (hop:o.op = .slice t x (some lo) (some hi) (some mx))
  (hx:ev_ x = .slice A n c) (hl:ev_ lo = .int kl l) (hh:ev_ hi = .int kh h) (hm:ev_ mx = .int km m) (ht:P.underlying t=some (.slice e)) (hi':P.info? e=some inf) (hsz:inf.size=sz)
  (hb:0≤l∧l≤h∧h≤m∧m≤c) (h:K (sliced A l.toNat h.toNat m.toNat sz) w):Eff P o ev_ w K:=by
 subst hsz;refine eH _ (w':=w) ?_ h
 simp only [execOp,hop,hx,hl,hh,hm,Option.map_some,Sem.run_bind,Bg A n c kl kh km l _ m ht hi' hb,Result.andThen,Sem.run,pure]
theorem Bh {P:Program} {w:World} {t e:TypeId} {inf:TypeInfo} (A:Option Addr) (n c:Nat) (lo hi:Option Value) (kl kh:IntKind) (l h:Int) (ht:P.underlying t=some (.slice e)) (hi':P.info? e=some inf)
  (hlo:lo.getD (.int .i64 0) = .int kl l) (hhi:hi.getD (.int .i64 n) = .int kh h) (hb:0≤l∧l≤h∧h≤c) :
  (Instr.sliceAt t (.slice A n c) lo hi none).run P w = .ok (sliced A l.toNat h.toNat c inf.size) w:=by
 have hel:P.elem t=e:=by simp [Program.elem,ht]
 have hz:(sizeOf (P.elem t)).run P w = .ok inf.size w:=by rw [hel]; exact run_sizeOf hi'
 have ht':P.underlying t=some (.slice (P.elem t)):=by rw [hel]; exact ht
 rw [run_sliceAt_slice w t _ _ _ _ ht']
 cases lo <;> cases hi <;> simp only [Option.getD_none,Option.getD_some] at hlo hhi
 ·cases hlo; cases hhi
  rw [run_slice_all w t A n c ht',hz]
  simp [Result.andThen]
 ·cases hlo; subst hhi
  rw [run_slice_h w t A n c ht' kh h (by omega) (by omega),hz]
  simp [Result.andThen]
 ·cases hhi; subst hlo
  rw [run_slice_l w t A n c ht' kl l (by omega) (by omega),hz]
  simp [Result.andThen]
 ·subst hlo hhi
  rw [run_slice_lh w t A n c ht' kl kh l h (by omega) (by omega) (by omega),hz]
  simp [Result.andThen]
theorem El (t e:TypeId) (x:Operand) (lo hi:Option Operand) (inf:TypeInfo) (sz:Nat) (A:Option Addr) (n c:Nat) (kl kh:IntKind) (l h:Int) (hop:o.op = .slice t x lo hi none)
  (hx:ev_ x = .slice A n c) (hlo:(lo.map ev_).getD (.int .i64 0) = .int kl l) (hhi:(hi.map ev_).getD (.int .i64 n) = .int kh h) (ht:P.underlying t=some (.slice e)) (hi':P.info? e=some inf) (hsz:inf.size=sz)
  (hb:0≤l∧l≤h∧h≤c) (h:K (sliced A l.toNat h.toNat c sz) w):Eff P o ev_ w K:=by
 subst hsz;refine eH _ (w':=w) ?_ h;have hrun:=Bh (P:=P) (w:=w) A n c (lo.map ev_) (hi.map ev_) kl kh l _ ht hi' hlo hhi hb
 simp only [execOp,hop,hx,Option.map_none,Sem.run_bind,hrun,Result.andThen,Sem.run,pure]
theorem Inv.putcells {e:TypeId} {b j:Nat} {cs vs:List Value} (hI:Inv M w L) (li:Nat) (hL:L[li]? = some (.blk b e cs)) :
  w.heap[b]? = some (.cells cs.toArray e (0,0))∧Inv M (w.setRow b (splice cs j vs).toArray) (L.set li (.blk b e (splice cs j vs))):=by
 obtain ⟨F1,a1,hown⟩:=hI.look hL;have hb:w.heap[b]? = some (.cells cs.toArray e (0,0)):=hown.2;refine ⟨hb,hI.turn hL (by rw [setRow_size]; exact Nat.le_refl _) rfl rfl rfl ?_⟩;rintro F hF ⟨hFb,_⟩;exact ⟨F,⟨hFb,wm w b _ _ _ _ hb⟩,fun b' _ hn=>wo w b b' _ (fun e=>hn (e ▸ hFb)),fun b' hb' => .inl hb'⟩
theorem Bi (cs:List Value) (j:Nat):splice cs j []=cs:=by simp [splice]
theorem uM {e:TypeId} {b j:Nat} {cs vs:List Value} (hb:w.heap[b]? = some (.cells cs.toArray e (0,0))) (hfit:j + vs.length≤cs.length) (h1:∀ v ∈ vs,v.oneCell'=true) :
  (storeCells ⟨b,j,none⟩ vs).run P w = .ok () (w.setRow b (splice cs j vs).toArray):=by
 have hst:=run_storeCells_at P b j e vs 0 cs.toArray w hb (by simpa using hfit) h1
 simpa [splice] using hst
theorem zW (s x:Operand) (t e:TypeId) (inf:TypeInfo) (sz:Nat) (li b n c m:Nat) (v:Value) (cs vs:List Value) (hop:o.op = .call { callee := .builtin .append,args := #[s,x],argTypes := #[t,t] })
  (a1:ev_ s = .slice (some ⟨b,0,none⟩) n c) (hx:ev_ x=v) (hu:P.underlying t=some (.slice e)) (hi:P.info? e=some inf) (hsz:inf.size=sz) (hI:Inv M w L) (hL:L[li]? = some (.blk b e cs))
  (hs:Src (hp w) sz v m vs) (hfit:n + m≤c) (hlen:cs.length=c * sz) (h1:∀ v ∈ vs,v.oneCell'=true)
  (hK:∀ w',Inv M w' (L.set li (.blk b e (splice cs (n * sz) vs)))→K (.slice (some ⟨b,0,none⟩) (n + m) c) w'):Eff P o ev_ w K:=by
 subst hsz;obtain ⟨hb,hI'⟩:=hI.putcells (j:=n * inf.size) (vs:=vs) li hL;have hf:=hs.first (P:=P) (Nat.le_refl m);obtain ⟨hl,A,c',rfl,hA⟩:=hs
 rw [List.take_of_length_le (by omega)] at hf
 have hmul:n * inf.size + m * inf.size≤c * inf.size:=by rw [← Nat.add_mul]; exact Nat.mul_le_mul_right _ hfit
 have hst:=uM (P:=P) (w:=w) (j:=n * inf.size) (vs:=vs) hb (by omega) h1;have hrun:(Builtin.append_ #[t,t] o.type #[.slice (some ⟨b,0,none⟩) n c,.slice A m c']).run P w = .ok (.slice (some ⟨b,0,none⟩) (n + m) c) (w.setRow b (splice cs (n * inf.size) vs).toArray):=by
  simp [Builtin.append_,run_underlying hu,sizeOf,typeInfo,hi,Builtin.lenOf,hfit,hf,addr_add,hst]
 refine eH _ ?_ (hK _ hI')
 simp only [execOp,hop,resolve,invoke,builtin,Sem.run_bind,Sem.run_pure,Result.andThen_ok,List.map_toArray,List.map_cons,List.map_nil,a1,hx,hrun]
theorem xZ (z:Array Value) (n:Nat):(Builtin.zeroCells z n).toList.length=n * z.size:=by simp [Builtin.zeroCells]
theorem FY (x:Operand) (t e:TypeId) (inf:TypeInfo) (sz:Nat) (z:Value) (li b l h m:Nat) (cs:List Value) (hop:o.op = .call { callee := .builtin .clear,args := #[x],argTypes := #[t] })
  (hx:ev_ x=sliced (some ⟨b,0,none⟩) l h m sz) (hu:P.underlying t=some (.slice e)) (hi:P.info? e=some inf) (hsz:inf.size=sz) (hz:inf.zero=some z) (hzs:z.cells.size=sz) (a2:z.cells.toList.all Value.oneCell'=true)
  (hI:Inv M w L) (hL:L[li]? = some (.blk b e cs)) (hm:h≤m) (hlh:l≤h) (hfit:h * sz≤cs.length)
  (hK:∀ w' vs,vs.length=(h - l) * sz→Inv M w' (L.set li (.blk b e (splice cs (l * sz) vs)))→K (.tuple #[]) w'):Eff P o ev_ w K:=by
 subst hsz;have hzl:=xZ z.cells (h - l)
 rw [hzs] at hzl
 have hz1':∀ v ∈ (Builtin.zeroCells z.cells (h - l)).toList,v.oneCell'=true:=by
  intro v hv
  simp only [Builtin.zeroCells,Array.toList_map,List.mem_map] at hv
  obtain ⟨i,a1,rfl⟩:=hv;have hpos:0 < z.cells.size:=by
   rcases Nat.eq_zero_or_pos z.cells.size with h0 | h0
   ·rw [h0] at a1; simp at a1
   ·exact h0
  have hlt:=Nat.mod_lt i hpos
  rw [getElem!_pos z.cells (i % z.cells.size) hlt]
  exact List.all_eq_true.1 a2 _ (by simp)
 have hmul2:l * inf.size + (h - l) * inf.size=h * inf.size:=by rw [← Nat.add_mul]; congr 1; omega
 obtain ⟨hb,hI'⟩:=hI.putcells (j:=l * inf.size) (vs:=(Builtin.zeroCells z.cells (h - l)).toList) li hL;have hst:=uM (P:=P) (w:=w) (j:=l * inf.size) (vs:=(Builtin.zeroCells z.cells (h - l)).toList) hb (by omega) hz1';have hrun:(Builtin.clear_ #[t] o.type #[sliced (some ⟨b,0,none⟩) l h m inf.size]).run P w = .ok (.tuple #[]) (w.setRow b (splice cs (l * inf.size) (Builtin.zeroCells z.cells (h - l)).toList).toArray):=by
  cases hn:h - l with
  | zero =>
   have hv:(Builtin.zeroCells z.cells 0).toList=[]:=by simp [Builtin.zeroCells]
   rw [hv,Bi,setRow_self w b cs.toArray e (0,0) hb]
   simp only [sliced,hn]
   cases (if m=l then some (⟨b,0,none⟩:Addr) else Option.map (fun x:Addr=>x.add (l * inf.size)) (some ⟨b,0,none⟩)) <;> simp [Builtin.clear_,run_underlying hu]
  | succ q =>
   have hne:¬ m=l:=by omega
   rw [hn] at hst
   simp [Builtin.clear_,sliced,hn,hne,run_underlying hu,zeroValue,typeInfo,hi,hz,addr_add,hst]
 refine eH _ ?_ (hK _ _ hzl hI')
 simp only [execOp,hop,resolve,invoke,builtin,Sem.run_bind,Sem.run_pure,Result.andThen_ok,List.map_toArray,List.map_cons,List.map_nil,hx,hrun]
theorem uN {enc:α→List Value} {n:Nat} (h:∀ x,(enc x).length=n):∀ (xs:List α) (k:Nat),(xs.take k).flatMap enc=(xs.flatMap enc).take (k * n)
 | [],k=>by simp
 | x::xs,0=>by simp
 | x::xs,k + 1=>by
  rw [List.take_succ_cons,List.flatMap_cons,List.flatMap_cons,uN h xs k,show (k + 1) * n=(enc x).length + k * n by rw [h x,Nat.add_mul]; omega,List.take_length_add_append]
theorem uO {enc:α→List Value} {n:Nat} (h:∀ x,(enc x).length=n):∀ (xs:List α) (k:Nat),(xs.drop k).flatMap enc=(xs.flatMap enc).drop (k * n)
 | [],k=>by simp
 | x::xs,0=>by simp
 | x::xs,k + 1=>by
  rw [List.drop_succ_cons,List.flatMap_cons,uO h xs k,show (k + 1) * n=(enc x).length + k * n by rw [h x,Nat.add_mul]; omega,List.drop_length_add_append]
theorem xG {enc:α→List Value} {sz:Nat} (h:∀ x,(enc x).length=sz) {cs:List Value} {xs:List α} {n j:Nat} (hn:xs.length=n) (hcs:cs.take (n * sz)=xs.flatMap enc) :
  (cs.drop (j * sz)).take ((n - j) * sz)=(xs.drop j).flatMap enc:=by
 rw [uO h,← hcs,List.drop_take,Nat.sub_mul]
theorem Bj {cs vs zs:List Value} {a:Nat} (ha:a + vs.length≤cs.length):(splice (splice cs a vs) (a + vs.length) zs).take (a + vs.length)=cs.take a++vs:=by
 have h1:(splice cs a vs).take (a + vs.length)=cs.take a++vs:=by
  unfold splice
  rw [← List.append_assoc,List.take_append_of_le_length (by simp; omega),List.take_of_length_le (by simp; omega)]
 have h2:(splice cs a vs).length=cs.length:=oz ha
 rw [← h1]
 generalize splice cs a vs=ds at h2;unfold splice
 rw [List.take_append_of_le_length (by simp; omega),List.take_take,Nat.min_self]
theorem Da {enc:α→List Value} {sz:Nat} (h:∀ x,(enc x).length=sz) {cs zs:List Value} {xs:List α} {n i j:Nat} (hn:xs.length=n) (hcs:cs.take (n * sz)=xs.flatMap enc) (hij:i≤j) (hj:j≤n) (hl:n * sz≤cs.length) :
  (splice (splice cs (i * sz) ((cs.drop (j * sz)).take ((n - j) * sz))) ((i + (n - j)) * sz) zs).take ((i + (n - j)) * sz)=(xs.take i++xs.drop j).flatMap enc:=by
 rw [xG h hn hcs]
 have hlen:((xs.drop j).flatMap enc).length=(n - j) * sz:=by rw [wu h,List.length_drop,hn]
 have hle:(i + (n - j)) * sz≤n * sz:=Nat.mul_le_mul_right _ (by omega);have he:(i + (n - j)) * sz=i * sz + ((xs.drop j).flatMap enc).length:=by rw [hlen,Nat.add_mul]
 rw [he,Bj (by rw [← he]; omega),List.flatMap_append,uN h,← hcs,List.take_take,Nat.min_eq_left (Nat.mul_le_mul_right _ (by omega))]
def iG (y:Int):Value:=match y with | .ofNat n => .iface n (.agg #[]) | .negSucc _ => .nilIface
theorem pu {R:Ending→World→Prop} (g:FuncId) (all:Array Value) (hent:Sem.pureRun P (execOp ev_ o)=some (.enter g all)) (hcall:Calls P g all w R)
  (h:∀ e w',R e w'→∃ v,e = .returned v∧K v w'):Eff P o ev_ w K:=Ap g all (Sem.pureRun_run _ hent w) hcall h
end
end Go.Proofs.YtmfgddafcgflaaaE
namespace Go.Proofs.YtmfgddafcgflaaaE
open Go
set_option linter.unusedVariables false
set_option linter.unusedSimpArgs false
set_option linter.unusedSectionVars false
def rV {α:Type} (N:BM) (kL k:Ty α):Prop:=kL.sz=k.sz∧∀ H x cs,Sub N H→kL.rd H x cs→k.rd H x cs
theorem qI {α:Type} {N:BM} {k:Ty α}:rV N k k:=⟨rfl,fun _ _ _ _ h=>h⟩
theorem Ba {α:Type} {N:BM} {e:TypeId} {k:Ty α}:rV N (Ew N k) (bv e k):=⟨rfl,fun _ _ _ hs ⟨A,c,e,hl,h⟩=>⟨A,c,e,hl,h.mono hs⟩⟩
theorem qJ {α β:Type} {N:BM} {a a':Ty α} {b b':Ty β} (ha:rV N a a') (hb:rV N b b'):rV N (bE a b) (bE a' b') :=
 ⟨by show a.sz + b.sz=a'.sz + b'.sz; rw [ha.1,hb.1],fun H x cs hs ⟨c1,c2,e,h1,h2⟩=>⟨c1,c2,e,ha.2 H _ _ hs h1,hb.2 H _ _ hs h2⟩⟩
theorem CX {α β:Type} {N:BM} {k k':Ty α} {g:β→α} (h:rV N k k'):rV N (k.iso g) (k'.iso g):=⟨h.1,fun H x cs hs hr=>h.2 H _ _ hs hr⟩
theorem rV.rdS {α:Type} {N H:BM} {kL k:Ty α} (h:rV N kL k) (hs:Sub N H) {A:Option Addr} {xs:List α} (hr:rdS kL H A xs):rdS k H A xs:=by
 rcases hr with hr | ⟨b,o,hA,hcs⟩
 ·exact .inl hr
 ·refine .inr ⟨b,o,hA,fun j x hj => ?_⟩;obtain ⟨cs,h1,h2⟩:=hcs j x hj;exact ⟨cs,h.2 H x cs hs h1,fun i u hu=>by rw [← h.1]; exact h2 i u hu⟩
theorem Ca {α:Type} {N:BM} {k:Ty α} {A:Option Addr} {n c:Nat} {xs:List α} (hr:rdS k N A xs) (hn:xs.length=n) (hl:xs.length≤c):Mk (Ew N k) [] xs [.slice A n c] :=
 fun _ _ _=>⟨A,c,by rw [hn],hl,hr⟩
def RdL {α:Type} (k:Ty α) (H:BM):List α→List Value→Prop
 | [],cs=>cs=[]
 | x::xs,cs=>∃ c1 c2,cs=c1++c2∧k.rd H x c1∧RdL k H xs c2
theorem RdL.get {α:Type} {k:Ty α} {H:BM}:∀ {xs:List α} {cs:List Value},RdL k H xs cs→∀ j x,xs[j]? = some x→∃ c,k.rd H x c∧∀ i u,c[i]? = some u→cs[j * k.sz + i]? = some u
 | [],_,_,j,x,hj=>by simp at hj
 | x0::xs,_,⟨c1,c2,e,h4,h5⟩,j,x,hj=>by
  have hl:=k.rd_len h4;cases j with
  | zero =>
   simp only [List.getElem?_cons_zero,Option.some.injEq] at hj
   subst hj;refine ⟨c1,h4,fun i u hu => ?_⟩
   rw [e,Nat.zero_mul,Nat.zero_add,List.getElem?_append_left (List.getElem?_eq_some_iff.1 hu).1]
   exact hu
  | succ j =>
   obtain ⟨c,hc,hget⟩:=h5.get j x (by simpa using hj);refine ⟨c,hc,fun i u hu => ?_⟩
   rw [e,show (j + 1) * k.sz + i=c1.length + (j * k.sz + i) by rw [hl,Nat.add_mul]; omega,List.getElem?_append_right (by omega),Nat.add_sub_cancel_left]
   exact hget i u hu
theorem Ec {α:Type} {k:Ty α} {w:World} {b:Nat} {xs:List α} {cs:List Value} (hg:Grp.ok w (b,0,cs)) (h:RdL k (hp w) xs cs):rdS k (hp w) (some ⟨b,0,none⟩) xs:=by
 refine .inr ⟨b,0,rfl,fun j x hj => ?_⟩;obtain ⟨c,hc,hget⟩:=h.get j x hj;refine ⟨c,hc,fun i u hu => ?_⟩;have h1:=hg _ _ (hget i u hu)
 rw [nN] at h1
 rw [show 0 + j * k.sz + i=0 + (j * k.sz + i) by omega]
 exact h1
theorem Cb {α:Type} {k:Ty α} {enc:α→List Value} [Flat k enc] {H:BM} (x:α) (cs:List Value) (h:cs=enc x):k.rd H x cs:=Flat.rd_iff.2 h
theorem Ed {α:Type} {k:Ty α} {e:TypeId} {H:BM} {A:Option Addr} {n c:Nat} {xs:List α} (hr:rdS k H A xs) (hn:xs.length=n) (hl:xs.length≤c):(bv e k).rd H xs [.slice A n c]:=⟨A,c,by rw [hn],hl,hr⟩
theorem Cc {α β:Type} {a:Ty α} {b:Ty β} {H:BM} {x:α×β} {cs c1 c2:List Value} (e:cs=c1++c2) (h1:a.rd H x.1 c1) (h2:b.rd H x.2 c2):(bE a b).rd H x cs:=⟨c1,c2,e,h1,h2⟩
theorem GL {α β:Type} {k:Ty α} {g:β→α} {H:BM} {x:β} {cs:List Value} (h:k.rd H (g x) cs):(k.iso g).rd H x cs:=h
theorem qQ {P:Program} {w:World} {kt:TypeId} {κ:Type} {ek:κ→Value} (he:∀ a b,∃ r,eq2 P kt (ek a) (ek b)=some r∧(r=true↔a=b)) (x:κ):∀ (es:List MapEntry) (ks:List κ) (i:Nat),es.map (·.key)=ks.map ek →
  ((Instr.findAsking kt (ek x) es i).run P w = .ok none w∧∀ k ∈ ks,k≠x)∨∃ j e,(Instr.findAsking kt (ek x) es i).run P w = .ok (some (i + j,e.val)) w∧es[j]? = some e∧ks[j]? = some x∧∀ i k,i < j→ks[i]? = some k→k≠x
 | [],[],_,_ => .inl ⟨rfl,by simp⟩
 | [],_::_,_,h=>by simp at h
 | _::_,[],_,h=>by simp at h
 | e::es,k::ks,i,h=>by
  simp only [List.map_cons,List.cons.injEq] at h
  obtain ⟨hek,h⟩:=h;obtain ⟨r,hr,hiff⟩:=he x k;have hrun:=zo (w:=w) hr
  rw [← hek] at hrun
  cases r with
  | true =>
   have hx:=hiff.1 rfl;subst hx;exact .inr ⟨0,e,by simp [Instr.findAsking,Sem.run_bind,hrun,Result.andThen,pure,Sem.run],rfl,rfl,fun i _ hi=>by omega⟩
  | false =>
   have hne:k≠x:=fun q=>by subst q; have:=hiff.2 rfl; cases this
   rcases qQ (w:=w) he x es ks (i + 1) h with ⟨h1,h2⟩ | ⟨j,e',h1,h2,h3,h4⟩
   ·exact .inl ⟨by simp [Instr.findAsking,Sem.run_bind,hrun,Result.andThen,h1],fun q hq=>by
     cases hq with
     | head=>exact hne
     | tail _ hq=>exact h2 q hq⟩
   ·refine .inr ⟨j + 1,e',by rw [show i + (j + 1)=i + 1 + j by omega]; simp [Instr.findAsking,Sem.run_bind,hrun,Result.andThen,h1],by simpa using h2,by simpa using h3,fun q k' hq hk' => ?_⟩
    cases q with
    | zero=>cases hk'; exact hne
    | succ q=>exact h4 q k' (by omega) (by simpa using hk')
theorem FU {P:Program} {kt:TypeId} {fs:Array Field} (hd:P.underlying kt=some (.struct fs)) {κ:Type} [DecidableEq κ] (ek:κ→Value) (hc:∀ em x,Sem.pureRun P (Instr.checkKey em 10000 kt (ek x))=some ())
  (he:∀ a b,∃ r,eq2 P kt (ek a) (ek b)=some r∧(r=true↔a=b)) (hs:∀ x,Instr.sameBits 10000 (ek x) (ek x)=true):zm P kt ek where
 check:=fun w em x=>Sem.pureRun_run _ (hc em x) w
 find:=fun w x es ks h=>by
  have hfind:(Instr.findKey kt (ek x) es).run P w=(match es with | [] => .ok none w | _=>(Instr.findAsking kt (ek x) es 0).run P w):=by
   cases es with
   | nil=>simp [Instr.findKey,aU hd,Instr.findNow,Sem.run_bind,Result.andThen,pure,Sem.run]
   | cons e es=>simp [Instr.findKey,aU hd,Instr.findNow,Instr.sameNow,Sem.run_bind,Result.andThen,pure,Sem.run]
  rw [hfind]
  rcases qQ (P:=P) (w:=w) he x es ks 0 h with ⟨h1,h2⟩ | ⟨j,e,h1,h2,h3,h4⟩
  ·exact .inl ⟨by cases es with | nil=>rfl | cons e es=>exact h1,h2⟩
  ·refine .inr ⟨j,e,?_,h2,h3,h4⟩
   rw [Nat.zero_add] at h1
   cases es with
   | nil=>simp at h2
   | cons e es=>exact h1
 stays:=fun w x=>by simp [Instr.keyThatStays,hs,pure,Sem.run]
def oO {κ ν:Type} (ek:κ→Value) (kv:Ty ν) (b:Nat) (m:List (κ×ν)):aY :=
 .any (fun H F=>F b∧∃ es clock,H b=some (.map es clock)∧es.toList.map (·.key)=m.map (fun p=>ek p.1)∧bT kv H (fun b'=>F b'∧b'≠b) (m.map (·.2)) (es.toList.map (·.val)))
  (fun h hF=>⟨hF _ h.1,by obtain ⟨_,es,clock,h1,h2,h3⟩:=h; exact ⟨es,clock,h1,h2,h3.mono fun b' q=>⟨hF _ q.1,q.2⟩⟩⟩)
  (fun h hF=>⟨h.1,by obtain ⟨h0,es,clock,h1,h2,h3⟩:=h; exact ⟨es,clock,(hF _ h0).trans h1,h2,h3.congr fun b' q=>hF _ q.1⟩⟩)
def MapAt {κ:Type} (ek:κ→Value) (H:BM) (b:Nat) (ks:List κ) (k:κ) (v:Value):Prop :=
 ∃ es clock,H b=some (.map es clock)∧es.toList.map (·.key)=ks.map ek ∧
  ((∃ (j:Nat) (e:MapEntry),es.toList[j]? = some e∧ks[j]? = some k∧(∀ i k',i < j→ks[i]? = some k'→k'≠k)∧e.val=v)∨((∀ k' ∈ ks,k'≠k)∧v = .slice none 0 0))
def lm {κ ν:Type} [DecidableEq κ]:List (κ×ν)→κ→List Value→List (κ×(ν ⊕ List Value))
 | [],_,_=>[]
 | p::m,x,v=>if p.1=x then (p.1,.inr v)::m.map (fun q=>(q.1,.inl q.2)) else (p.1,.inl p.2)::lm m x v
theorem sK {κ ν:Type} [DecidableEq κ] {v:List Value} {y:ν}:∀ {m:List (κ×ν)} {x:κ},eB (lm m x v) x (.inl y)=(eB m x y).map (fun q=>(q.1,.inl q.2))
 | [],x=>rfl
 | p::m,x=>by
  by_cases h:p.1=x
  ·simp [lm,eB,h]
  ·simp [lm,eB,h,sK (m:=m)]
theorem xy {κ ν:Type} [DecidableEq κ] {v:List Value}:∀ {m:List (κ×ν)} {x:κ},(lm m x v).map (·.1)=m.map (·.1)
 | [],_=>rfl
 | p::m,x=>by
  by_cases h:p.1=x
  ·simp [lm,h,List.map_map,Function.comp_def]
  ·simp [lm,h,xy (m:=m)]
theorem xz {κ ν:Type} [DecidableEq κ] {v:List Value}:∀ {m:List (κ×ν)} {x:κ} {j:Nat},(m.map (·.1))[j]? = some x→(∀ i k,i < j→(m.map (·.1))[i]? = some k→k≠x)→(lm m x v).map (·.2)=((m.map (·.2)).map Sum.inl).set j (.inr v)
 | p::m,x,0,h,_=>by
  simp only [List.map_cons,List.getElem?_cons_zero,Option.some.injEq] at h
  simp [lm,h,List.map_map,Function.comp_def]
 | p::m,x,j + 1,h,hn=>by
  have h1:p.1≠x:=hn 0 p.1 (by omega) rfl
  simp [lm,h1,xz (m:=m) (j:=j) (by simpa using h) (fun i k hi hk=>hn (i + 1) k (by omega) (by simpa using hk))]
theorem tY {κ ν:Type} [DecidableEq κ] {v:List Value}:∀ {m:List (κ×ν)} {x:κ},(∀ k ∈ m.map (·.1),k≠x)→lm m x v=m.map (fun q=>(q.1,.inl q.2))
 | [],_,_=>rfl
 | p::m,x,h=>by
  rw [lm,if_neg (h p.1 (by simp)),tY (fun k hk=>h k (by simp at hk ⊢; exact .inr hk))]
  rfl
section
variable {P:Program} {o:Oper} {ev_:Operand→Value} {K:Value→World→Prop} {w:World} {M:Mem} {L:List aY}
variable {κ ν:Type} [DecidableEq κ] {ek:κ→Value}
theorem xA (κ ν:Type) (ek:κ→Value) (kv:Ty ν) (t:TypeId) (hop:o.op = .makeMap t none) (hI:Inv M w L) (h:∀ b w',Inv M w' (L++[oO ek kv b ([]:List (κ×ν))])→K (.map (some b)) w'):Eff P o ev_ w K:=by
 refine eH (.map (some w.heap.size)) (w':=w.alloc (.map #[] 0)) ?_ (h _ _ (hI.alloc _ ⟨rfl,#[],0,lX w _,rfl,rfl⟩))
 simp only [execOp,hop,Option.map_none]
 rfl
theorem xB {m:List (κ×ν)} {es:List MapEntry} (h:es.map (·.key)=m.map (fun p=>ek p.1)):es.map (·.key)=(m.map (·.1)).map ek:=by
 rw [h,List.map_map]; rfl
theorem Inv.mapAtO {kv:Ty ν} (h:Inv M w L) (li:Nat) {b:Nat} {m:List (κ×ν)} (hL:L[li]? = some (oO ek kv b m)) :
  ∃ es clock,hp w b=some (.map es clock)∧es.toList.map (·.key)=(m.map (·.1)).map ek∧∃ F,bT kv (hp w) F (m.map (·.2)) (es.toList.map (·.val)):=by
 obtain ⟨F1,_,hown⟩:=h.look hL;obtain ⟨_,es,clock,h1,h2,h3⟩:=hown;exact ⟨es,clock,h1,xB h2,_,h3⟩
theorem Bb [Inhabited ν] {m:List (κ×ν)} {x:κ} {j:Nat} (h:(m.map (·.1))[j]? = some x) (hn:∀ i k,i < j→(m.map (·.1))[i]? = some k→k≠x):(m.map (·.2))[j]? = some (mat m x)∧jl m x=true:=by
 cases hm:m[j]? with
 | none=>rw [List.getElem?_map,hm] at h; cases h
 | some p =>
  obtain ⟨k,y⟩:=p
  rw [List.getElem?_map,hm] at h
  have hk:k=x:=Option.some.inj h;subst hk;obtain ⟨e1,e2⟩:=uY hm hn;exact ⟨by rw [List.getElem?_map,hm,e1]; rfl,e2⟩
theorem qd {α:Type} {kt:Ty α} {e:TypeId} (t kty et:TypeId) (a x:Operand) (ok:Bool) (li b:Nat) (m:List (κ×List α)) (k:κ) (hop:o.op = .lookup t a x ok) (ht:P.underlying t=some (.map kty et)) (hK:zm P kty ek) (hz:∀ w:World,(zeroValue et).run P w = .ok (.slice none 0 0) w)
  (ha:ev_ a = .map (some b)) (hx:ev_ x=ek k) (hI:Inv M w L) (hL:L[li]? = some (oO ek (bv e kt) b m))
  (h:∀ A c,rdS kt (hp w) A (mat m k)→(mat m k).length≤c→MapAt ek (hp w) b (m.map (·.1)) k (.slice A (mat m k).length c)→K (bif ok then .tuple #[.slice A (mat m k).length c,.bool (jl m k)] else .slice A (mat m k).length c) w):Eff P o ev_ w K:=by
 obtain ⟨es,clock,hb,hks,F,hseq⟩:=hI.mapAtO li hL;have hb':w.heap[b]? = some (.map es clock):=hb;rcases hK.find w k es.toList _ hks with ⟨h1,h2⟩ | ⟨j,en,h1,h2,h3,h4⟩
 ·obtain ⟨e1,e2⟩:=qg h2;have e1:mat m k=[]:=e1;refine eH _ ?_ (h none 0 (.inl e1) (by rw [e1]; exact Nat.le_refl _) ⟨es,clock,hb,hks,.inr ⟨h2,by rw [e1]; rfl⟩⟩);have hrun:(Instr.lookup t (.map (some b)) (ek k) ok).run P w = .ok (bif ok then .tuple #[.slice none 0 0,.bool false] else .slice none 0 0) w:=by
   simp only [Instr.lookup,Sem.run_bind,aU ht,Result.andThen,MapKept.run_getObj_map hb',hK.check,h1,hz,pure,Sem.run]
   cases ok <;> rfl
  simp only [execOp,hop,ha,hx,Sem.run_bind,hrun,Result.andThen,Sem.run,pure,e1,e2]
  rfl
 ·obtain ⟨hv,e2⟩:=Bb h3 h4;obtain ⟨cs,⟨A,c,hcs,hl,hrd⟩,hget⟩:=hseq.get j _ hv;subst hcs;have hval:en.val = .slice A (mat m k).length c:=by
   have:=hget 0 _ rfl
   rw [show (bv e kt).sz=1 from rfl,Nat.mul_one,Nat.add_zero,List.getElem?_map,h2] at this
   exact Option.some.inj this
  refine eH _ ?_ (h A c hrd hl ⟨es,clock,hb,hks,.inl ⟨j,en,h2,h3,h4,hval⟩⟩);have hrun:(Instr.lookup t (.map (some b)) (ek k) ok).run P w = .ok (bif ok then .tuple #[.slice A (mat m k).length c,.bool true] else .slice A (mat m k).length c) w:=by
   simp only [Instr.lookup,Sem.run_bind,aU ht,Result.andThen,MapKept.run_getObj_map hb',hK.check,h1,hval,pure,Sem.run]
   cases ok <;> rfl
  simp only [execOp,hop,ha,hx,Sem.run_bind,hrun,Result.andThen,Sem.run,pure,e2]
theorem vY {m:List (κ×ν)}:(m.map (fun q=>(q.1,(Sum.inl q.2:ν ⊕ List Value)))).map (·.2)=(m.map (·.2)).map Sum.inl:=by simp [List.map_map,Function.comp_def]
theorem vZ {m:List (κ×ν)}:(m.map (fun q=>(q.1,(Sum.inl q.2:ν ⊕ List Value)))).map (fun p=>ek p.1)=m.map (fun p=>ek p.1):=by simp [List.map_map,Function.comp_def]
theorem Inv.takeM {α:Type} {kt:Ty α} {e:TypeId} {b n c:Nat} {A:Option Addr} {m:List (κ×List α)} {k:κ} (h:Inv M w L) (li:Nat) (hL:L[li]? = some (oO ek (bv e kt) b m))
  (hat:MapAt ek (hp w) b (m.map (·.1)) k (.slice A n c)) (hn:n=(mat m k).length) :
  Inv M w (.row kt e A (mat m k).length c (mat m k)::L.set li (oO ek (wL (bv e kt)) b (lm m k [.slice A (mat m k).length c]))):=by
 subst hn;refine h.part hL ?_;rintro F ⟨hFb,es,clock,hb,hks,hseq⟩;obtain ⟨es',clock',hb',hks',hat⟩:=hat;have hes:es'=es:=by rw [hb] at hb'; cases hb'; rfl
 subst hes;rcases hat with ⟨j,en,hj,hkj,hfst,hval⟩ | ⟨hno,hv⟩
 ·obtain ⟨hvj,_⟩:=Bb hkj hfst;obtain ⟨c0,E1,E2,e1,e2,e3,e4,e5,e6,e7⟩:=(ug hseq).at (j:=j) (x:=Sum.inl (mat m k)) (by rw [List.getElem?_map,hvj]; rfl);have e4:(bv e kt).own (hp w) E1 (mat m k) c0:=e4;obtain ⟨A',cc,a2,hinner⟩:=e4;subst a2;have a1:(wL (bv e kt)).sz=1:=rfl;have h6:=e6 0 _ rfl;have h6':=h6
  rw [a1,Nat.mul_one,Nat.add_zero,List.getElem?_map,hj] at h6
  have h6:en.val=_:=Option.some.inj h6
  rw [hval] at h6
  cases h6;refine ⟨E1,fun b2=>F b2 ∧ ¬ E1 b2,fun b2 h=>(e1 b2 h).1,fun b2 h=>h.1,fun b2 h h'=>h'.2 h,⟨hinner,rfl⟩,⟨⟨hFb,fun h=>(e1 b h).2 rfl⟩,es',clock,hb,?_,?_⟩⟩
  ·rw [hks]
   have:=xy (v:=[.slice A (mat m k).length c]) (m:=m) (x:=k);have:=congrArg (List.map ek) this
   simpa [List.map_map,Function.comp_def] using this.symm
  ·rw [xz hkj hfst]
   have h7:=e7 (hp w) (fun _=>False) (fun b2=>(F b2 ∧ ¬ E1 b2)∧b2≠b) (Sum.inr [.slice A (mat m k).length c]) [.slice A (mat m k).length c] ⟨rfl,rfl,oneOf rfl⟩
    (fun _ _=>rfl) (fun _ h=>h.elim) (fun _ h=>h.elim) (fun b2 hE=>⟨⟨(e2 b2 hE).1,fun h=>e3 b2 h hE⟩,(e2 b2 hE).2⟩)
   rw [Bq] at h7
   ·exact h7
   ·have hlt:=(List.getElem?_eq_some_iff.1 h6').1
    rw [a1] at hlt ⊢
    simp at hlt ⊢
    omega
   ·intro q u hu;have hq:q=0:=by
     have:=(List.getElem?_eq_some_iff.1 hu).1
     simpa using this
    subst hq;cases hu;exact h6'
 ·have hm:mat m k=[]:=(qg hno).1;have hA:A=none:=by injection hv
  have hc:c=0:=by injection hv
  refine ⟨fun _=>False,F,fun _ h=>h.elim,fun _ h=>h,fun _ h=>h.elim,⟨.inl ⟨hA,hc,hm⟩,rfl⟩,⟨hFb,es',clock,hb,?_,?_⟩⟩
  ·rw [tY hno,vZ]; exact hks
  ·rw [tY hno,vY]; exact ug hseq
def qK {α:Type} (ek:κ→Value) (kt:Ty α) (e:TypeId) (b:Nat) (m:List (κ×List α)) (k:κ) (A:Option Addr) (c:Nat):aY :=
 .any (fun H F=>(oO ek (bv e kt) b m).Own H F∧MapAt ek H b (m.map (·.1)) k (.slice A (mat m k).length c))
  (by intro H F F' h hF; exact ⟨h.1.mono hF,h.2⟩)
  (by
   intro H H' F h hF;refine ⟨h.1.congr hF,?_⟩;obtain ⟨⟨a1,_⟩,es,clock,h1,h2⟩:=h;exact ⟨es,clock,(hF _ a1).trans h1,h2⟩)
section
variable {α:Type} {kt:Ty α} {e:TypeId} {b c:Nat} {A:Option Addr} {m:List (κ×List α)} {k:κ}
theorem Inv.pin (h:Inv M w L) (li:Nat) (hL:L[li]? = some (oO ek (bv e kt) b m)) (hat:MapAt ek (hp w) b (m.map (·.1)) k (.slice A (mat m k).length c)):Inv M w (L.set li (qK ek kt e b m k A c)) :=
 h.turn hL (Nat.le_refl _) rfl rfl rfl fun F hF hown=>⟨F,⟨hown,hat⟩,fun _ _ _=>rfl,fun _ h => .inl h⟩
theorem Inv.unpin (h:Inv M w L) (li:Nat) (hL:L[li]? = some (qK ek kt e b m k A c)):Inv M w (L.set li (oO ek (bv e kt) b m)) :=
 h.turn hL (Nat.le_refl _) rfl rfl rfl fun F hF hown=>⟨F,hown.1,fun _ _ _=>rfl,fun _ h => .inl h⟩
theorem Inv.pinat (h:Inv M w L) (li:Nat) (hL:L[li]? = some (qK ek kt e b m k A c)):MapAt ek (hp w) b (m.map (·.1)) k (.slice A (mat m k).length c):=by
 obtain ⟨F1,_,hown⟩:=h.look hL;exact hown.2
theorem Inv.pinboth (h:Inv M w L) (li:Nat) (hL:L[li]? = some (qK ek kt e b m k A c)):rdS kt (hp w) A (mat m k)∧(mat m k).length≤c:=by
 obtain ⟨es',clock',hb',hks',hat⟩:=h.pinat li hL;have a1:(L.set li (oO ek (bv e kt) b m))[li]? = some (oO ek (bv e kt) b m):=by
  rw [List.getElem?_set_self (List.getElem?_eq_some_iff.1 hL).1]
 obtain ⟨es,clock,hb,hks,F,hseq⟩:=(h.unpin li hL).mapAtO li a1;have hes:es'=es:=by rw [hb] at hb'; cases hb'; rfl
 subst hes;rcases hat with ⟨j,en,hj,hkj,hfst,hval⟩ | ⟨hno,hv⟩
 ·obtain ⟨hvj,_⟩:=Bb hkj hfst;obtain ⟨cs,⟨A',c',hcs,hl,hrd⟩,hget⟩:=hseq.get j _ hvj;subst hcs;have h6:=hget 0 _ rfl
  rw [show (bv e kt).sz=1 from rfl,Nat.mul_one,Nat.add_zero,List.getElem?_map,hj] at h6
  have h6:en.val=_:=Option.some.inj h6
  rw [hval] at h6
  injection h6 with h7 h8 h9
  subst h7 h9;exact ⟨hrd,hl⟩
 ·have hm:mat m k=[]:=(qg hno).1;exact ⟨.inl hm,by rw [hm]; exact Nat.zero_le _⟩
theorem Inv.pinrd (h:Inv M w L) (li:Nat) (hL:L[li]? = some (qK ek kt e b m k A c)):rdS kt (hp w) A (mat m k):=(h.pinboth li hL).1
theorem Inv.pinle (h:Inv M w L) (li:Nat) (hL:L[li]? = some (qK ek kt e b m k A c)):(mat m k).length≤c:=(h.pinboth li hL).2
theorem Inv.takeP (h:Inv M w L) (li:Nat) (hL:L[li]? = some (qK ek kt e b m k A c)) :
  Inv M w (.row kt e A (mat m k).length c (mat m k)::L.set li (oO ek (wL (bv e kt)) b (lm m k [.slice A (mat m k).length c]))):=by
 have a1:(L.set li (oO ek (bv e kt) b m))[li]? = some (oO ek (bv e kt) b m):=by
  rw [List.getElem?_set_self (List.getElem?_eq_some_iff.1 hL).1]
 have:=(h.unpin li hL).takeM li a1 (h.pinat li hL) rfl
 rwa [List.set_set] at this
end
theorem Inv.mapback {kv:Ty ν} {b:Nat} {ys:List (κ×(ν ⊕ List Value))} (h:Inv M w L) (li:Nat) (m:List (κ×ν)) (hL:L[li]? = some (oO ek (wL kv) b ys)) (hz:ys=m.map (fun q=>(q.1,.inl q.2))) :
  Inv M w (L.set li (oO ek kv b m)):=by
 subst hz;refine h.turn hL (Nat.le_refl _) rfl rfl rfl ?_;rintro F hF ⟨h1,es,clock,h2,h3,h4⟩
 rw [vY] at h4
 rw [vZ] at h3
 exact ⟨F,⟨h1,es,clock,h2,h3,wB h4⟩,fun _ _ _=>rfl,fun _ h => .inl h⟩
theorem vM {kv:Ty ν} (t kty et:TypeId) (a x y:Operand) (li:Nat) (js rest:List Nat) (R L':List aY) (b:Nat) (m:List (κ×ν)) (k:κ) (v:ν) (u:Value) (hop:o.op = .mapUpdate t a x y) (ht:P.underlying t=some (.map kty et)) (hK:zm P kty ek)
  (ha:ev_ a = .map (some b)) (hx:ev_ x=ek k) (hy:ev_ y=u) (a5:kv.sz=1) (hI:Inv M w L) (hn:(li::(js++rest)).Nodup) (hL:(li::(js++rest)).map (L[·]?)=(oO ek kv b m::(R++L')).map some) (hmk:Mk kv R v [u])
  (h:∀ w',Inv M w' (oO ek kv b (eB m k v)::L')→K undef w'):Eff P o ev_ w K:=by
 have a1:=hI.pick _ hn hL;obtain ⟨F1,F2,h1,h2,h3,⟨hFb,es,clock,hb,hks,hseq⟩,hsep⟩:=a1.sep;obtain ⟨G1,G2,g1,g2,g3,hsR,hsL⟩:=hsep.split;have hy':=hmk _ _ hsR;have hb':w.heap[b]? = some (.map es clock):=hb;have a3:¬ F2 b:=h3 _ hFb;have hblt:b < w.heap.size:=(h1 _ hFb).2;have key:∃ es' clock',(Instr.mapUpdate t (.map (some b)) (ek k) u).run P w = .ok () { w with heap:=w.heap.setIfInBounds b (.map es' clock') }∧es'.toList.map (·.key)=(eB m k v).map (fun p=>ek p.1) ∧
   ∀ H',(∀ b2,b2≠b→H' b2=hp w b2)→bT kv H' (fun b2=>(F1 b2∨G1 b2)∧b2≠b) ((eB m k v).map (·.2)) (es'.toList.map (·.val)):=by
  have hG:∀ b2,G1 b2→b2≠b:=fun b2 hG e=>a3 (e ▸ g1 b2 hG);rcases hK.find w k es.toList _ (xB hks) with ⟨q1,q2⟩ | ⟨j,e,q1,q2,q3,q4⟩
  ·refine ⟨es.push { key:=ek k,val:=u,born:=clock },clock + 1,?_,?_,?_⟩
   ·simp only [Instr.mapUpdate,Sem.run_bind,aU ht,Result.andThen,MapKept.run_getObj_map hb',hK.check,q1,MapKept.run_setObj_map _ hb',pure,Sem.run]
   ·rw [sP q2,Array.toList_push,List.map_append,hks,List.map_append]; rfl
   ·intro H' hH
    rw [sP q2,Array.toList_push,List.map_append,List.map_append]
    have:=(hseq.congr (H':=H') (fun b2 q=>hH b2 q.2)).snoc (G:=G1) (kv.own_congr hy' (fun b2 q=>hH b2 (hG b2 q))) (fun b2 q q'=>h3 b2 q.1 (g1 b2 q'));exact this.mono (fun b2 q=>q.elim (fun q=>⟨.inl q.1,q.2⟩) (fun q=>⟨.inr q,hG b2 q⟩))
  ·have hj:es[j]? = some e:=by simpa using q2
   have hvj:∃ v0,(m.map (·.2))[j]? = some v0:=by
    have hlt:=(List.getElem?_eq_some_iff.1 q3).1
    rw [List.length_map] at hlt
    exact ⟨m[j].2,by rw [List.getElem?_map,List.getElem?_eq_getElem hlt]; rfl⟩
   obtain ⟨v0,a4⟩:=hvj;have hek:e.key=ek k:=by
    have:=congrArg (·[j]?) (xB hks)
    simp only [List.getElem?_map,q2] at this
    rw [List.getElem?_map] at q3
    cases hm:m[j]? with
    | none=>rw [hm] at q3; cases q3
    | some p =>
     rw [hm] at this q3
     have h5:p.1=k:=Option.some.inj q3;have h6:e.key=ek p.1:=Option.some.inj this
     rw [h6,h5]
   refine ⟨es.modify j (fun e=>{ e with key:=ek k,val:=u }),clock,?_,?_,?_⟩
   ·simp only [Instr.mapUpdate,Sem.run_bind,aU ht,Result.andThen,MapKept.run_getObj_map hb',hK.check,q1,hj,Option.map_some,Option.getD_some,hek,hK.stays,MapKept.run_setObj_map _ hb',pure,Sem.run]
   ·rw [sQ q3 q4,List.map_set,← hks]
    apply List.ext_getElem?
    intro i;have hjl:j < es.toList.length:=(List.getElem?_eq_some_iff.1 q2).1
    rw [List.getElem?_map,Array.getElem?_toList,Array.getElem?_modify,List.getElem?_set,List.length_map]
    by_cases e':j=i
    ·subst e'
     rw [if_pos rfl,if_pos rfl,if_pos hjl,hj]
     rfl
    ·rw [if_neg e',if_neg e',List.getElem?_map,Array.getElem?_toList]
   ·intro H' hH
    rw [sQ q3 q4,List.map_set]
    obtain ⟨c0,E1,E2,e1,e2,e3,e4,e5,e6,e7⟩:=hseq.at a4;have h7:=e7 H' G1 (fun b2=>(F1 b2∨G1 b2)∧b2≠b) v [u] (kv.own_congr hy' (fun b2 q=>hH b2 (hG b2 q))) (fun b2 q=>hH b2 (e2 b2 q).2) (fun b2 q q'=>h3 b2 (e2 b2 q').1 (g1 b2 q))
     (fun b2 q=>⟨.inr q,hG b2 q⟩) (fun b2 q=>⟨.inl (e2 b2 q).1,(e2 b2 q).2⟩)
    have hv:(es.modify j (fun e=>{ e with key:=ek k,val:=u })).toList.map (·.val)=splice (es.toList.map (·.val)) (j * kv.sz) [u]:=by
     have hjl:j < es.toList.length:=(List.getElem?_eq_some_iff.1 q2).1
     rw [a5,Nat.mul_one]
     apply List.ext_getElem?
     intro i;unfold splice
     rw [List.getElem?_map,Array.getElem?_toList,Array.getElem?_modify]
     have hjl':j < es.size:=by simpa using hjl
     rcases Nat.lt_trichotomy i j with hi | hi | hi
     ·rw [if_neg (by omega),List.getElem?_append_left (by simp; omega),List.getElem?_take,if_pos hi,List.getElem?_map,Array.getElem?_toList]
     ·subst hi
      rw [if_pos rfl,hj,List.getElem?_append_right (by simp; omega)]
      simp [Nat.min_eq_left (Nat.le_of_lt hjl')]
     ·rw [if_neg (by omega),List.getElem?_append_right (by simp; omega),List.length_take,List.length_map,Nat.min_eq_left (by omega),List.singleton_append]
      obtain ⟨d,hd⟩:∃ d,i=j + (d + 1):=⟨i - j - 1,by omega⟩
      subst hd
      rw [Nat.add_sub_cancel_left,List.getElem?_cons_succ,List.getElem?_drop,List.getElem?_map,Array.getElem?_toList]
      simp only [List.length_singleton]
      rw [show j + (d + 1)=j + 1 + d by omega]
    rw [hv]
    exact h7
 obtain ⟨es',clock',hrun,hk',hs'⟩:=key;have hset:=MapKept.heap_set (w:=w) (o' := .map es' clock') hb';have hother:∀ b2,b2≠b→hp { w with heap:=w.heap.setIfInBounds b (.map es' clock') } b2=hp w b2:=fun b2 hne=>hset.2 b2 hne;refine xO (w':={ w with heap:=w.heap.setIfInBounds b (.map es' clock') }) ?_ (h _ ?_)
 ·simp only [execOp,hop,ha,hx,hy,Sem.run_bind,hrun,Result.andThen,Sem.run,pure]
 ·refine ⟨fun b2 o2 a2 => ?_,by simpa using a1.size,a1.os,a1.tape,a1.output,?_⟩
  ·rw [hother b2 (fun e=>by subst e; rw [(h1 _ hFb).1] at a2; cases a2)]
   exact a1.fix b2 o2 a2
  ·have hsz:({ w with heap:=w.heap.setIfInBounds b (.map es' clock') }:World).heap.size=w.heap.size:=by simp
   rw [hsz]
   refine ⟨fun b2=>F1 b2∨G1 b2,G2,fun b2 q=>q.elim (h1 b2) (fun q=>h2 b2 (g1 b2 q)),fun b2 q=>h2 b2 (g2 b2 q),?_,⟨.inl hFb,es',clock',hset.1,hk',hs' _ hother⟩,hsL.congr (fun b2 q=>hother b2 (fun e=>a3 (e ▸ g2 b2 q)))⟩;rintro b2 (q | q) q'
   ·exact h3 b2 q (g2 b2 q')
   ·exact g3 b2 q q'
end
section
variable {P:Program} {o:Oper} {ev_:Operand→Value} {K:Value→World→Prop} {w:World} {M:Mem} {L:List aY}
end
section
variable {P:Program} {o:Oper} {ev_:Operand→Value} {K:Value→World→Prop} {w:World} {M:Mem} {L:List aY}
theorem Inv.tail {a:aY} (h:Inv M w (a::L)):Inv M w L:=by
 obtain ⟨F1,F2,h1,h2,h3,h4,h5⟩:=h.sep;exact ⟨h.fix,h.size,h.os,h.tape,h.output,h5.mono h2⟩
def noM:BM:=fun _=>none
theorem yV {H:BM}:Sub noM H:=fun _ _ h=>nomatch h
def orA {α:Type} (N:BM) (k:Ty α) (e:TypeId) (A:Option Addr) (n c:Nat) (xs:List α):aY :=
 .any (fun H F=>(∃ N':BM,(∀ b o,N' b=some o→N b=some o∨(F b∧H b=some o))∧rdS k N' A xs∧xs.length≤c)∧xs.length=n)
  (fun ⟨⟨N',h1,h2⟩,hn⟩ hF=>⟨⟨N',fun b o h=>(h1 b o h).imp id fun h=>⟨hF b h.1,h.2⟩,h2⟩,hn⟩)
  (fun ⟨⟨N',h1,h2⟩,hn⟩ hF=>⟨⟨N',fun b o h=>(h1 b o h).imp id fun h=>⟨h.1,(hF b h.1).trans h.2⟩,h2⟩,hn⟩)
section
variable {α:Type} {k:Ty α} {e:TypeId} {A A':Option Addr} {n c c':Nat} {xs ys:List α} {N N':BM}
open Classical in
theorem dF.part {H:BM} {F:Nat→Prop} (h:dF k e H F A c xs):∃ N':BM,(∀ b o,N' b=some o→F b∧H b=some o)∧rdS k N' A xs:=by
 refine ⟨fun b=>if F b then H b else none,fun b o hb => ?_,dF.rd (h.congr (H':=fun b=>if F b then H b else none) fun b hb=>if_pos hb)⟩
 by_cases hF:F b
 ·exact ⟨hF,by simpa only [hF,if_true] using hb⟩
 ·simp only [hF,if_false] at hb
  cases hb
theorem Inv.toOr (h:Inv M w L) (i:Nat) (N:BM) (hL:L[i]? = some (.row k e A n c xs)):Inv M w (L.set i (orA N k e A n c xs)) :=
 h.turn hL (Nat.le_refl _) rfl rfl rfl fun F hF hown=>⟨F,⟨let ⟨N',h1,h2⟩:=dF.part hown.1; ⟨N',fun b o hb => .inr (h1 b o hb),h2,hown.1.le⟩,hown.2⟩,fun _ _ _=>rfl,fun _ h => .inl h⟩
theorem Inv.orsub (h:Inv M w L) (i:Nat) (hL:L[i]? = some (orA N k e A n c xs)) (hs:∀ H,rdS k H A xs→rdS k H A' ys) (hl:ys.length≤c'):Inv M w (L.set i (orA N k e A' ys.length c' ys)) :=
 h.turn hL (Nat.le_refl _) rfl rfl rfl fun F hF ⟨⟨N',h1,h2,_⟩,_⟩=>⟨F,⟨⟨N',h1,hs _ h2,hl⟩,rfl⟩,fun _ _ _=>rfl,fun _ h => .inl h⟩
theorem Inv.orrd (h:Inv M w L) (i:Nat) (hs:Sub N (hp w)) (hL:L[i]? = some (orA N k e A n c xs)):rdS k (hp w) A xs:=by
 obtain ⟨F1,_,⟨N',h1,h2,_⟩,_⟩:=h.look hL;exact h2.mono fun b o hb=>(h1 b o hb).elim (hs b o) (·.2)
theorem Inv.orle (h:Inv M w L) (i:Nat) (hL:L[i]? = some (orA N k e A n c xs)):xs.length≤c:=by
 obtain ⟨F1,_,⟨N',h1,h2,h3⟩,_⟩:=h.look hL;exact h3
end
theorem Ee (t e:TypeId) (n:Nat) (ps:Array (Nat×Operand)) (inf:TypeInfo) (z:Value) (arr:Array Value) (cs:List Value) (hop:o.op = .buildSlice t n ps)
  (ht:P.underlying t=some (.slice e)) (hi:P.info? e=some inf) (hz:inf.zero=some z) (hn:Nat.ble (n * inf.size) 1024=true) (hpos:Nat.blt 0 (n * inf.size)=true)
  (hfill:Instr.fill (fun i=>some (i * inf.size,inf.size)) ((Array.range (n * inf.size)).map (z.cells[· % z.cells.size]!)) (ps.map fun p=>(p.1,ev_ p.2)).toList=some arr) (hcs:arr.toList=cs) (hI:Inv M w L)
  (h:∀ b w',Sub (hp w) (hp w')→Inv M w' (L++[.blk b e cs])→K (.slice (some ⟨b,0,none⟩) n n) w'):Eff P o ev_ w K:=by
 subst hcs;have h1:=Nat.le_of_ble_eq_true hn;have h2:0 < n * inf.size:=Nat.le_of_ble_eq_true hpos;refine eH (.slice (some ⟨w.heap.size,0,none⟩) n n) (w':=w.alloc (.cells arr e)) ?_ ?_
 ·have h3:¬ n * inf.size > 2 ^ 24:=by omega
  have h4:¬ n * inf.size=0:=by omega
  simp only [execOp,hop,Instr.buildSlice,Sem.run_bind,aU ht,Result.andThen,run_sizeOf hi,h3,h4,if_false,Sem.run,pure]
  simp only [zeroValue,typeInfo,program,Sem.run_bind,Sem.run,hi,hz,Result.andThen,pure,hfill,newRow,newObj]
  rfl
 ·have:=hI.alloc_blk e arr.toList
  rw [Array.toArray_toList] at this
  refine h _ _ (fun b o hb => ?_) this;have hlt:b < w.heap.size:=(Array.getElem?_eq_some_iff.1 hb).1;exact (uQ w _ hlt).trans hb
end
end Go.Proofs.YtmfgddafcgflaaaE
namespace Go.Proofs.YtmfgddafcgflaaaE
open Go
set_option linter.unusedVariables false
set_option linter.unusedSimpArgs false
section
variable {M:Mem} {w:World} {L:List aY}
variable {P:Program} {o:Oper} {ev_:Operand→Value} {K:Value→World→Prop}
end
end Go.Proofs.YtmfgddafcgflaaaE
namespace Go.Proofs.YtmfgddafcgflaaaE
open Go
set_option linter.unusedVariables false
set_option linter.unusedSimpArgs false
section
variable {M:Mem} {w:World} {L:List aY} {α:Type} {k:Ty α}
end
def GU (X:BM):aY := .any (fun H F=>∀ b o,X b=some o→F b∧H b=some o) (fun h hF=>fun b o hb=>⟨hF b (h b o hb).1,(h b o hb).2⟩)
 (fun h hF=>fun b o hb=>⟨(h b o hb).1,(hF b (h b o hb).1).trans (h b o hb).2⟩)
section
variable {M:Mem} {w:World} {L:List aY} {α:Type} {k kL:Ty α}
open Classical in
theorem Inv.lendX {a:aY} (h:Inv M w L) (i:Nat) (hi:L[i]? = some a) :
  ∃ (M':Mem) (F:Nat→Prop) (X:BM),Sub M.blk M'.blk∧(∀ w' L',Inv M' w' L'→Inv M w' (a::L'))∧a.Own M'.blk F∧Inv M' w (L.set i GR)∧Sub X M'.blk∧a.Own X F∧∀ w' L',Inv M' w' L'→Inv M w' (GU X::L'):=by
 obtain ⟨F1,F2,h1,h2,h3,hown,hsep⟩:=h.sep.take hi;have hat:∀ b,F1 b→(if F1 b then hp w b else M.blk b)=hp w b:=fun b hb=>if_pos hb;have hsome:∀ b,F1 b→∃ o,hp w b=some o:=fun b hb=>by
  have:=(h1 b hb).2;exact ⟨w.heap[b],by simp [hp,this]⟩
 have hsub:Sub M.blk (fun b=>if F1 b then hp w b else M.blk b):=fun b o hb=>by
  show (if F1 b then hp w b else M.blk b)=some o
  split
  ·exact h.fix b o hb
  ·exact hb
 have key:∀ (a':aY),(∀ w',(∀ b,F1 b→hp w' b=hp w b)→a'.Own (hp w') F1)→∀ w' L',Inv { M with blk:=fun b=>if F1 b then hp w b else M.blk b,n:=w.heap.size } w' L'→Inv M w' (a'::L'):=by
  intro a' ha w' L' h';have hsz:w.heap.size≤w'.heap.size:=h'.size;have hsame:∀ b,F1 b→hp w' b=hp w b:=fun b hb=>by
   obtain ⟨o,ho⟩:=hsome b hb
   rw [ho]
   exact h'.fix b o ((hat b hb).trans ho)
  refine ⟨fun b o hb=>h'.fix b o (hsub b o hb),Nat.le_trans h.size hsz,h'.os,h'.tape,h'.output,F1,fun b=>(if F1 b then hp w b else M.blk b)=none∧b < w'.heap.size,fun b hb=>⟨(h1 b hb).1,Nat.lt_of_lt_of_le (h1 b hb).2 hsz⟩,fun b hb=>⟨?_,hb.2⟩,fun b hb hb' => ?_,ha w' hsame,h'.sep⟩
  ·have h0:=hb.1
   split at h0
   ·rename_i hF
    exact (h1 b hF).1
   ·exact h0
  ·have h0:=hb'.1
   rw [hat b hb] at h0
   obtain ⟨o,ho⟩:=hsome b hb
   rw [ho] at h0
   cases h0
 refine ⟨{ M with blk:=fun b=>if F1 b then hp w b else M.blk b,n:=w.heap.size },F1,fun b=>if F1 b then hp w b else none,hsub,key a fun w' hw=>hown.congr fun b hb=>hw b hb,hown.congr hat,?_,?_,hown.congr fun b hb=>if_pos hb,key (GU _) fun w' hw => ?_⟩
 ·refine ⟨fun b o hb => ?_,Nat.le_refl _,h.os,h.tape,h.output,hsep.mono fun b hb=>⟨?_,(h2 b hb).2⟩⟩
  ·have hb:(if F1 b then hp w b else M.blk b)=some o:=hb
   split at hb
   ·exact hb
   ·exact h.fix b o hb
  ·show (if F1 b then hp w b else M.blk b)=none
   rw [if_neg (fun hF=>h3 b hF hb)]
   exact (h2 b hb).1
 ·intro b o hb
  show (if F1 b then hp w b else M.blk b)=some o
  by_cases hF:F1 b
  ·simpa [hF] using hb
  ·simp [hF] at hb
 ·intro b o hb
  by_cases hF:F1 b
  ·refine ⟨hF,?_⟩
   rw [hw b hF]
   simpa [hF] using hb
  ·simp [hF] at hb
end
end Go.Proofs.YtmfgddafcgflaaaE
namespace Go.Proofs.YtmfgddafcgflaaaE
open Go Go.Proofs
set_option linter.unusedVariables false
set_option linter.unusedSimpArgs false
abbrev vI (x:Int):Value := .int .i64 x
abbrev vP (b o:Nat):Value := .pointer (some ⟨b,o,none⟩)
abbrev vS (a:Option Addr) (n c:Nat):Value := .slice a n c
abbrev vB (b:Bool):Value := .bool b
theorem gO {w:World}:kG w []:=trivial
theorem gA {w:World} {a:Grp} (h:Grp.ok w a):kG w [a]:=⟨h,trivial⟩
theorem gB {w:World} {a b:Grp} (h:Grp.ok w a) (h2:Grp.ok w b):kG w [a,b]:=⟨h,h2,trivial⟩
theorem gC {w:World} {a b c:Grp} (h:Grp.ok w a) (h2:Grp.ok w b) (h3:Grp.ok w c):kG w [a,b,c]:=⟨h,h2,h3,trivial⟩
theorem gD {w:World} {a b c d:Grp} (h:Grp.ok w a) (h2:Grp.ok w b) (h3:Grp.ok w c) (h4:Grp.ok w d):kG w [a,b,c,d]:=⟨h,h2,h3,h4,trivial⟩
theorem gK {w:World} {a:Grp} {r:List Grp} (h:Grp.ok w a) (hr:kG w r):kG w (a::r):=⟨h,hr⟩
def nfB (E:Env) (ops:Array Oper) (G:List Grp) (hs:List Hint) (i:Nat) (f:Nat→Value):Nat→Value:=(iT (fo E.P E.N ops G hs i f)).getD f
theorem Ac {E:Env} {ops:Array Oper} {G:List Grp} {hs:List Hint} {i:Nat} {f:Nat→Value} (h:(iT (fo E.P E.N ops G hs i f)).isSome=true) :
  iT (fo E.P E.N ops G hs i f)=some (nfB E ops G hs i f):=by
 unfold nfB;cases e:iT (fo E.P E.N ops G hs i f) with
 | none=>rw [e] at h; cases h
 | some g=>rfl
theorem bx {E:Env} {ops:Array Oper} {k:List Item} {w:World} {f:Nat→Value} (i:Nat) (hs:List Hint) {G:List Grp} (hG:kG w G) (bs:List (Int×Nat)) (hB:nO bs)
  (h:GoO E ops (i + hs.length) k (nfB E ops G hs i f) w) (hr:(iT (fo E.P E.N ops G hs i f)).isSome=true:=by kernel_rfl)
  (ha:ed (fo E.P E.N ops G hs i f) true=ed (fo E.P E.N ops G hs i f) false:=by kernel_rfl)
  (hb:nE (fo E.P E.N ops G hs i f)=bs:=by kernel_rfl):GoO E ops i k f w:=by
 refine Rd.go (n:=hs.length + 0) (vR i G hs _ bs hG hB (Ac hr) ha hb ?_)
 simpa [Rd] using h
theorem bg {E:Env} {ops:Array Oper} {k:List Item} {w:World} {f:Nat→Value} (i:Nat) (hs:List Hint) {G:List Grp} (hG:kG w G)
  (h:GoO E ops (i + hs.length) k (nfB E ops G hs i f) w) (hr:(iT (fo E.P E.N ops G hs i f)).isSome=true:=by kernel_rfl)
  (ha:ed (fo E.P E.N ops G hs i f) true=ed (fo E.P E.N ops G hs i f) false:=by kernel_rfl)
  (hb:nE (fo E.P E.N ops G hs i f)=[]:=by kernel_rfl):GoO E ops i k f w:=bx i hs hG [] trivial h hr ha hb
theorem bp {E:Env} {ops:Array Oper} {k:List Item} {w:World} {f:Nat→Value} (i n:Nat)
  (h:GoO E ops (i + n) k (nfB E ops [] (List.replicate n .p) i f) w) (hr:(iT (fo E.P E.N ops [] (List.replicate n .p) i f)).isSome=true:=by kernel_rfl)
  (ha:ed (fo E.P E.N ops [] (List.replicate n .p) i f) true=ed (fo E.P E.N ops [] (List.replicate n .p) i f) false:=by kernel_rfl)
  (hb:nE (fo E.P E.N ops [] (List.replicate n .p) i f)=[]:=by kernel_rfl):GoO E ops i k f w :=
 bx i _ gO [] trivial (by rw [List.length_replicate]; exact h) hr ha hb
theorem bZ {x:Int} {n:Nat} (h:0≤x∧x < (n:Int)):nO [(x,n)]:=⟨h,trivial⟩
theorem bC {x:Int} {n:Nat} {r:List (Int×Nat)} (h:0≤x∧x < (n:Int)) (hr:nO r):nO ((x,n)::r):=⟨h,hr⟩
theorem rp {E:Env} {id:Nat} {ops:Array Oper} {k:List Item} {w:World} {f:Nat→Value} (n:Nat)
  (h:Go E k (nfB E ops [] (List.replicate n .p) 0 f) w) (hn:Nat.ble ops.size (0 + n)=true:=by kernel_rfl) (hr:(iT (fo E.P E.N ops [] (List.replicate n .p) 0 f)).isSome=true:=by kernel_rfl)
  (ha:ed (fo E.P E.N ops [] (List.replicate n .p) 0 f) true=ed (fo E.P E.N ops [] (List.replicate n .p) 0 f) false:=by kernel_rfl)
  (hb:nE (fo E.P E.N ops [] (List.replicate n .p) 0 f)=[]:=by kernel_rfl):Go E (.code (.region id ops false)::k) f w :=
 aF (bp 0 n (oG hn h) hr ha hb)
theorem rg {E:Env} {id:Nat} {ops:Array Oper} {k:List Item} {w:World} {f:Nat→Value} (hs:List Hint) {G:List Grp} (hG:kG w G)
  (h:Go E k (nfB E ops G hs 0 f) w) (hn:Nat.ble ops.size (0 + hs.length)=true:=by kernel_rfl) (hr:(iT (fo E.P E.N ops G hs 0 f)).isSome=true:=by kernel_rfl)
  (ha:ed (fo E.P E.N ops G hs 0 f) true=ed (fo E.P E.N ops G hs 0 f) false:=by kernel_rfl)
  (hb:nE (fo E.P E.N ops G hs 0 f)=[]:=by kernel_rfl):Go E (.code (.region id ops false)::k) f w :=
 aF (bg 0 hs hG (oG hn h) hr ha hb)
theorem ro {E:Env} {ops:Array Oper} {k:List Item} {f:Nat→Value} {w:World} {i:Nat} (h:Go E k f w) (hi:Nat.ble ops.size i=true:=by kernel_rfl):GoO E ops i k f w:=oG hi h
theorem gt {E:Env} {k:List Item} {f:Nat→Value} {w:World} {c:Operand} {x y:Code} {t:Bool} (ht:t=true) (h:Go E (.code x::k) f w) (hc:ev E.N f c = .bool t:=by kernel_rfl):Go E (.code (.cond c x y)::k) f w:=Aa hc ht h
theorem ge {E:Env} {k:List Item} {f:Nat→Value} {w:World} {c:Operand} {x y:Code} {t:Bool} (ht:t=false) (h:Go E (.code y::k) f w) (hc:ev E.N f c = .bool t:=by kernel_rfl):Go E (.code (.cond c x y)::k) f w:=Ab hc ht h
theorem gr {E:Env} {k:List Item} {f:Nat→Value} {w:World} {v:Value} {fn:Func} (hf:E.P.funcs[E.fn]? = some fn) (hR:E.R (.returned v) w) (hv:Sem.pureRun E.P (results fn (tm E.N f))=some v:=by kernel_rfl) (h0:E.plain:=by exact ⟨rfl,rfl⟩):Go E (.code .ret::k) f w :=
 qf v hf hv hR h0
def GQ (args:Array Value) (i:Nat):Value:=(nth args.toList i).getD undef
theorem cg {P:Program} {g:FuncId} {fn:Func} {c:Code} {args:Array Value} {w:World} {R:Ending→World→Prop} (hf:P.funcs[g]? = some fn)
  (h:∀ cs,Go ⟨P,g,fn.ntmps,cs,R,[],none⟩ [.code c] (GQ args) w) (hb:fn.body=some c:=by rfl) (ha:args++Array.replicate (fn.ntmps - args.size) undef=tm fn.ntmps (GQ args):=by kernel_rfl):Calls P g args w R :=
 vg (GQ args) hf hb ha h
theorem at_ {us:List (Nat×Value)} {f:Nat→Value} (hu:us.map (fun p=>f p.1)=us.map (·.2):=by kernel_rfl):f=aZ f us:=Er us hu
theorem oe {E:Env} {ops:Array Oper} {k:List Item} {f:Nat→Value} {w:World} (i:Nat) {o:Oper} (hn:nth ops.toList i=some o) (h:Eff E.P o (ev E.N f) w (fun v w'=>GoO E ops (i + 1) k (lc f o.dst v) w'))
  (hw:wants E.N ops f o=true:=by kernel_rfl):GoO E ops i k f w:=yD i o hn hw h
theorem dx {E:Env} {k:List Item} {f:Nat→Value} {w:World} {M:Mem} {L:List aY} {id:Nat} {l:List Oper} (hs:List Hint) {G:List Grp} (hG:kG w G) (bs:List (Int×Nat)) (hB':nO bs) (hI:Inv M w L)
  (h:∀ w',Inv M w' L→Go E k (nfB E l.toArray G hs 0 f) w') (hm:E.P.follows .mixedOrders=true:=by kernel_rfl) (hB:Region.lexB .any l.toArray=true:=by kernel_rfl) (hl:hs.length=l.length:=by rfl)
  (hr:(iT (fo E.P E.N l.toArray G hs 0 f)).isSome=true:=by kernel_rfl)
  (ha:ed (fo E.P E.N l.toArray G hs 0 f) true=ed (fo E.P E.N l.toArray G hs 0 f) false:=by kernel_rfl)
  (hb:nE (fo E.P E.N l.toArray G hs 0 f)=bs:=by kernel_rfl) (h0:E.plain:=by exact ⟨rfl,rfl⟩):Go E (.code (.region id l.toArray true)::k) f w:=by
 refine Gh hm hB ?_ h0
 rw [← hl]
 exact vR (n:=0) 0 G hs _ bs (vO hG) hB' (Ac hr) ha hb (h _ hI.drew')
def nfH (E:Env) (ops:Array Oper) (G:List Grp) (hs:List (Nat×Hint)) (l:Array Bool) (f:Nat→Value):Nat→Value:=((oD (pU E.P E.N ops G hs l f)).getD (f,[])).1
def nlH (E:Env) (ops:Array Oper) (G:List Grp) (hs:List (Nat×Hint)) (l:Array Bool) (f:Nat→Value):Array Bool:=((oD (pU E.P E.N ops G hs l f)).getD (f,[])).2.toArray
theorem hx {E:Env} {k:List Item} {f:Nat→Value} {w:World} {ops:Array Oper} {S:World→Prop} {n:Nat} {l:Array Bool} (hs:List (Nat×Hint)) {G:List Grp} (hG:∀ w,S w→kG w G) (hS:S w) (bs:List (Int×Nat)) (hB:nO bs)
  (h:Held E k ops S n (nlH E ops G hs l f) (nfH E ops G hs l f) w) (a1:Region.noSelect ops=true:=by kernel_rfl)
  (hr:(oD (pU E.P E.N ops G hs l f)).isSome=true:=by kernel_rfl) (ha:mY (pU E.P E.N ops G hs l f) true=mY (pU E.P E.N ops G hs l f) false:=by kernel_rfl)
  (hb:uV (pU E.P E.N ops G hs l f)=bs:=by kernel_rfl):Held E k ops S (n + hs.length) l f w:=by
 unfold nlH nfH at h;cases e:pU E.P E.N ops G hs l f with
 | none=>rw [e] at hr; cases hr
 | some r =>
  obtain ⟨f',l2,oa,ob⟩:=r
  rw [e] at hr ha hb h
  simp only [mY] at ha
  simp only [uV] at hb
  subst hb;refine sO a1 hG hS e ?_ hB ?_
  ·simpa using ha
  ·simpa [oD] using h
theorem hg {E:Env} {k:List Item} {f:Nat→Value} {w:World} {ops:Array Oper} {S:World→Prop} {n:Nat} {l:Array Bool} (hs:List (Nat×Hint)) {G:List Grp} (hG:∀ w,S w→kG w G) (hS:S w)
  (h:Held E k ops S n (nlH E ops G hs l f) (nfH E ops G hs l f) w) (a1:Region.noSelect ops=true:=by kernel_rfl)
  (hr:(oD (pU E.P E.N ops G hs l f)).isSome=true:=by kernel_rfl) (ha:mY (pU E.P E.N ops G hs l f) true=mY (pU E.P E.N ops G hs l f) false:=by kernel_rfl)
  (hb:uV (pU E.P E.N ops G hs l f)=[]:=by kernel_rfl):Held E k ops S (n + hs.length) l f w:=hx hs hG hS [] trivial h a1 hr ha hb
theorem ho {E:Env} {k:List Item} {f:Nat→Value} {w:World} {ops:Array Oper} {S:World→Prop} {n:Nat} {l:Array Bool} (i:Nat) {o:Oper} (hn:nth ops.toList i=some o) 
  (h:Eff E.P o (ev E.N f) w (fun v w'=>S w'∧Held E k ops S n (l.setIfInBounds i true) (lc f o.dst v) w')) (hr:Region.ready .any ops l=[i]:=by kernel_rfl) (hw:wants E.N ops f o=true:=by kernel_rfl):Held E k ops S (n + 1) l f w:=Am i o hn hr hw h
theorem hd {E:Env} {k:List Item} {f:Nat→Value} {w:World} {ops:Array Oper} {S:World→Prop} {n:Nat} {l:Array Bool} (h:Go E k f w) (hr:Region.ready .any ops l=[]:=by kernel_rfl):Held E k ops S n l f w:=yB hr h
theorem ec {P:Program} {o:Oper} {ev_:Operand→Value} {w:World} {K:Value→World→Prop} {R:Ending→World→Prop} {c:Operand} {xs:Array Operand} {ts:Array TypeId} {g:FuncId} {args:Array Value}
  (hent:Sem.pureRun P (callFunc g args)=some (.enter g args)) (hcall:Calls P g args w R) (h:∀ e w',R e w'→∃ v,e = .returned v∧K v w')
  (hop:o.op = .call { callee := .value c,args:=xs,argTypes:=ts }:=by rfl) (hc:ev_ c = .func (.func g) #[] #[]:=by kernel_rfl) (ha:xs.map (ev_)=args:=by kernel_rfl):Eff P o ev_ w K :=
 uP c xs ts g #[] #[] args args hop hc ha (by simp) hent hcall h
end Go.Proofs.YtmfgddafcgflaaaE
namespace Go.Proofs.YtmfgddafcgflaaaE
open Go Go.Proofs
set_option linter.unusedVariables false
set_option linter.unusedSimpArgs false
def Ce:Value→Nat
 | .pointer (some a)=>a.off
 | _=>0
def lenOf:Value→Nat
 | .slice _ n _=>n
 | _=>0
def capOf:Value→Nat
 | .slice _ _ c=>c
 | _=>0
def Ij (L:List aY) (js:List Nat):List aY:=js.filterMap (L[·]?)
section
variable {P:Program} {o:Oper} {ev_:Operand→Value} {K:Value→World→Prop} {w:World} {M:Mem} {L L':List aY}
theorem Inv.pK (h:Inv M w L) (js:List Nat) (hn:js.Nodup:=by decide) (hL:js.map (L[·]?)=L'.map some:=by kernel_rfl):Inv M w L':=h.pick js hn hL
theorem fV {t:TypeId} (cs:List Value) (hI:Inv M w L) (hop:o.op = .alloc t) (h:∀ b w',Inv M w' (L++[.blk b t cs])→K (.pointer (some ⟨b,0,none⟩)) w')
  (hz:((P.info? t).bind (·.zero)).map (fun z=>z.cells.toList)=some cs:=by kernel_rfl):Eff P o ev_ w K:=by
 cases e:(P.info? t).bind (·.zero) with
 | none=>rw [e] at hz; cases hz
 | some z=>rw [e] at hz; exact Gb t z cs hop e (Option.some.inj hz) hI h
theorem gN {t:TypeId} {x:Operand} (cs:List Value) (hI:Inv M w L) (hop:o.op = .box t x) (h:∀ b w',Inv M w' (L++[.blk b t cs])→K (.pointer (some ⟨b,0,none⟩)) w')
  (hcs:(ev_ x).cells.toList=cs:=by kernel_rfl):Eff P o ev_ w K:=Hy t x (ev_ x) cs hop rfl hcs hI h
theorem dK {t:TypeId} {a x:Operand} {b:Nat} {t':TypeId} {cs:List Value} (li:Nat) (cs':List Value) (hI:Inv M w L) (hop:o.op = .store t a x) (hL:L[li]? = some (.blk b t' cs))
  (h:∀ w',Inv M w' (L.set li (.blk b t' cs'))→K undef w') (ha:ev_ a = .pointer (some ⟨b,Ce (ev_ a),none⟩):=by kernel_rfl) (hs:(P.info? t).map (·.size)=some (ev_ x).cells.size:=by kernel_rfl)
  (h1:(ev_ x).cells.toList.all Value.oneCell'=true:=by kernel_rfl) (hl:Nat.ble (Ce (ev_ a) + (ev_ x).cells.size) cs.length=true:=by kernel_rfl)
  (hcs:splice cs (Ce (ev_ a)) (ev_ x).cells.toList=cs':=by kernel_rfl):Eff P o ev_ w K:=Cg t a x li b t' cs cs' (Ce (ev_ a)) (ev_ x) hop ha rfl hs h1 hI hL hl hcs h
def partsOf (P:Program) (e:TypeId) (n:Nat) (vs:List (Nat×Value)):Option (List Value) :=
 match P.info? e with
 | none=>none
 | some inf=>match inf.zero with
  | none=>none
  | some z=>bif Nat.ble (n * inf.size) 1024 && Nat.blt 0 (n * inf.size) then (Instr.fill (fun i=>some (i * inf.size,inf.size)) ((Array.range (n * inf.size)).map (z.cells[· % z.cells.size]!)) vs).map (·.toList) else none
theorem mE {t e:TypeId} {n:Nat} {ps:Array (Nat×Operand)} (cs:List Value) (hI:Inv M w L) (hop:o.op = .buildSlice t n ps) (ht:P.underlying t=some (.slice e))
  (h:∀ b w',Sub (hp w) (hp w')→Inv M w' (L++[.blk b e cs])→K (.slice (some ⟨b,0,none⟩) n n) w')
  (hp:partsOf P e n (ps.map fun p=>(p.1,ev_ p.2)).toList=some cs:=by kernel_rfl):Eff P o ev_ w K:=by
 unfold partsOf at hp
 split at hp
 ·cases hp
 ·rename_i inf hi
  split at hp
  ·cases hp
  ·rename_i z hz
   cases e1:Nat.ble (n * inf.size) 1024 with
   | false=>rw [e1,Bool.false_and,cond_false] at hp; cases hp
   | true =>
    cases e2:Nat.blt 0 (n * inf.size) with
    | false=>rw [e1,e2,Bool.and_false,cond_false] at hp; cases hp
    | true =>
     rw [e1,e2,Bool.and_true,cond_true] at hp
     cases e3:Instr.fill (fun i=>some (i * inf.size,inf.size)) ((Array.range (n * inf.size)).map (z.cells[· % z.cells.size]!)) (ps.map fun p=>(p.1,ev_ p.2)).toList with
     | none=>rw [e3] at hp; cases hp
     | some arr=>rw [e3] at hp; exact Ee t e n ps inf z arr cs hop ht hi hz e1 e2 e3 (Option.some.inj hp) hI h
def xH (P:Program) (e:TypeId):Option (Nat×Nat×Nat):=(P.info? e).bind fun i=>i.zero.map fun z=>(i.size,z.cells.size,i.bytes)
theorem yc {e:TypeId} {a b c:Nat} (h:xH P e=some (a,b,c)):∃ inf z,P.info? e=some inf∧inf.zero=some z∧inf.size=a∧z.cells.size=b∧inf.bytes=c:=by
 unfold xH at h;cases e1:P.info? e with
 | none=>rw [e1] at h; cases h
 | some inf =>
  rw [e1,Option.bind_some] at h
  cases e2:inf.zero with
  | none=>rw [e2] at h; cases h
  | some z=>rw [e2] at h; cases h; exact ⟨inf,z,rfl,e2,rfl,rfl,rfl⟩
theorem tq {α:Type} {kt:Ty α} {t e t2:TypeId} {s x:Operand} {A:Option Addr} {n c:Nat} {xs ys:List α} {b bs:Nat} {news:List Value} (li bi m:Nat) (js rest:List Nat) (R L':List aY)
  (hI:Inv M w L) (hrow:L[li]? = some (.row kt e A n c xs)) (hblk:L[bi]? = some (.blk b t2 news)) (hbytes:((n + m) + (n + m) / 4 + 192) * bs≤281474976710656∧n + m≤9223372036854775807) (hmk:MkS kt R ys news)
  (h:∀ A' c' w',Inv M w' (.row kt e A' (xs++ys).length c' (xs++ys)::L')→K (.slice A' (xs++ys).length c') w')
  (hop:o.op = .call { callee := .builtin .append,args := #[s,x],argTypes := #[t,t] }:=by rfl) (hs:ev_ s = .slice A n c:=by kernel_rfl) (hx:ev_ x = .slice (some ⟨b,0,none⟩) m (capOf (ev_ x)):=by kernel_rfl)
  (ht:P.underlying t=some (.slice e):=by kernel_rfl) (hf:xH P e=some (kt.sz,kt.sz,bs):=by kernel_rfl) (hpos:Nat.blt 0 kt.sz=true:=by kernel_rfl)
  (hn:(li::(js++rest)).Nodup:=by decide) (hL:(js++rest).map (L[·]?)=(R++L').map some:=by kernel_rfl)
  (hl:news.length=m * kt.sz:=by kernel_rfl) (hm:ys.length=m:=by kernel_rfl):Eff P o ev_ w K:=by
 obtain ⟨inf,z,h1,h2,h3,h4,rfl⟩:=yc hf;exact Ae kt t e e s x inf z A n c xs ys b 0 m (capOf (ev_ x)) news li js rest R L' hop hs hx ht h1 h2 h3 h4 hpos hI hn (by rw [List.map_cons,List.map_cons,hrow,hL]) hl hm (hI.grp bi hblk) hbytes hmk h
end
section
variable {E:Env} {k:List Item} {ops:Array Oper} {f:Nat→Value} {w:World} {M:Mem} {L L' R:List aY}
theorem rY {id:Nat} (hI:Inv M w L) (h:Inv M w.drew L→Held E k ops (fun w=>Inv M w L) ops.size (Array.replicate ops.size false) f w.drew)
  (hm:E.P.follows .mixedOrders=true:=by kernel_rfl) (h0:E.plain:=by exact ⟨rfl,rfl⟩):Go E (.code (.region id ops true)::k) f w:=zk _ hm (h hI.drew') h0
theorem tH {id:Nat} (js:List Nat) (hI:Inv M w L) (h:Inv M w.drew L→Held E k ops (fun w=>Inv M w (Ij L js)) ops.size (Array.replicate ops.size false) f w.drew)
  (hm:E.P.follows .mixedOrders=true:=by kernel_rfl) (h0:E.plain:=by exact ⟨rfl,rfl⟩):Go E (.code (.region id ops true)::k) f w:=zk _ hm (h hI.drew') h0
theorem Inv.asr {α:Type} {kt:Ty α} {b:Nat} {e:TypeId} {cs:List Value} {xs:List α} (n:Nat) (h:Inv M w L) (li:Nat) (js rest:List Nat) (R L':List aY) (hb:L[li]? = some (.blk b e cs)) (hmk:MkS kt R xs cs)
  (hn:(li::(js++rest)).Nodup:=by decide) (hL:(js++rest).map (L[·]?)=(R++L').map some:=by kernel_rfl) (hl:cs.length=xs.length * kt.sz:=by kernel_rfl) (hx:xs.length=n:=by kernel_rfl)
  (hm:Nat.ble n maxLen=true:=by kernel_rfl):Inv M w (.row kt e (some ⟨b,0,none⟩) n n xs::L'):=h.asrow n li js rest hn (by rw [List.map_cons,List.map_cons,hb,hL]) hmk hl hx hm
end
theorem Inv.memOr {M:Mem} {w:World} {L:List aY} {α:Type} {k:Ty α} {X:BM} {A:Option Addr} {c:Nat} {xs:List α} (e:TypeId) (hr:rdS k X A xs) (hl:xs.length≤c) (h:Inv M w (GU X::L)):Inv M w (orA noM k e A xs.length c xs::L):=by
 obtain ⟨F1,F2,h1,h2,h3,h4,h5⟩:=h.sep;exact ⟨h.fix,h.size,h.os,h.tape,h.output,F1,F2,h1,h2,h3,⟨⟨X,fun b o hb => .inr (h4 b o hb),hr,hl⟩,rfl⟩,h5⟩
theorem zZ {α:Type} {k:Ty α} {enc:α→List Value} [Flat k enc] (x:α):Mk k [] x (enc x):=kV x _ rfl
theorem mi {α:Type} {k:Ty α} {enc:α→List Value} [Flat k enc] (xs:List α):MkS k [] xs (xs.flatMap enc):=fun _ _ _=>bT.flat.2 rfl
end Go.Proofs.YtmfgddafcgflaaaE
namespace Go.Proofs.YtmfgddafcgflaaaE
open Go Go.Proofs
set_option linter.unusedVariables false
set_option linter.unusedSimpArgs false
end Go.Proofs.YtmfgddafcgflaaaE
namespace Go.Proofs.YtmfgddafcgflaaaE
open Go Go.Proofs
set_option linter.unusedVariables false
set_option linter.unusedSimpArgs false
def arC {α:Type} [Inhabited α] (f:α→Value) (n:Nat) (xs:List α):List Value:=(List.range n).map fun (i:Nat)=>f (idx xs (i:Int))
def nD {α:Type} [Inhabited α] (n:Nat) (xs:List α) (j:Int) (v:α):List α:=(List.range n).map fun (i:Nat)=>bif (i:Int) == j then v else idx xs (i:Int)
section
variable {α:Type} [Inhabited α] {f:α→Value} {n:Nat} {xs:List α}
theorem sN:(arC f n xs).length=n:=by simp [arC]
theorem zf {j:Nat} (h:j < n):(arC f n xs)[j]? = some (f (idx xs (j:Int))):=by
 simp [arC,List.getElem?_map,List.getElem?_range h]
theorem su {j:Int} {v:α} {i:Nat} (h:i < n):idx (nD n xs j v) (i:Int)=if (i:Int)=j then v else idx xs (i:Int):=by
 have e:(nD n xs j v)[i]? = some (bif (i:Int) == j then v else idx xs (i:Int)):=by simp [nD,List.getElem?_map,List.getElem?_range h]
 have hl:i < (nD n xs j v).length:=by simp [nD,h]
 rw [dE (n:=i) rfl hl]
 rw [List.getElem?_eq_getElem hl] at e
 rw [Option.some.inj e]
 by_cases hi:(i:Int)=j
 ·rw [if_pos hi,show ((i:Int) == j)=true by rw [beq_iff_eq]; exact hi,cond_true]
 ·rw [if_neg hi,show ((i:Int) == j)=false by rw [beq_eq_false_iff_ne]; exact hi,cond_false]
theorem Gd {j:Int} {v:α} (h:0≤j∧j < (n:Int)):(arC f n xs).set j.toNat (f v)=arC f n (nD n xs j v):=by
 apply List.ext_getElem?
 intro i
 by_cases hi:i < n
 ·rw [List.getElem?_set,zf hi,zf hi,sN,su hi]
  by_cases e:j.toNat=i
  ·rw [if_pos e,if_pos (by omega),if_pos (by omega)]
  ·rw [if_neg e,if_neg (by omega)]
 ·rw [List.getElem?_eq_none (by rw [List.length_set,sN]; omega),List.getElem?_eq_none (by rw [sN]; omega)]
theorem Et {pre post:List Value} {j:Int} (hj:0≤j∧j < (n:Int)):(pre++(arC f n xs++post))[pre.length + j.toNat]? = some (f (idx xs j)):=by
 rw [List.getElem?_append_right (by omega),Nat.add_sub_cancel_left,List.getElem?_append_left (by rw [sN]; omega),zf (by omega)]
 congr 3
 omega
variable {P:Program} {o:Oper} {ev_:Operand→Value} {w:World} {K:Value→World→Prop} {M:Mem} {L:List aY}
theorem Inv.arr (hI:Inv M w L) (i:Nat) {b:Nat} {t:TypeId} {cs:List Value} {j:Int} (pre post:List Value) (off:Nat) (hL:L[i]? = some (.blk b t cs)) (hj:0≤j∧j < (n:Int))
  (hcs:cs=pre++(arC f n xs++post):=by kernel_rfl) (ho:pre.length=off:=by kernel_rfl):Grp.ok w (b,off + j.toNat * 1,[f (idx xs j)]):=by
 subst hcs ho;intro q u hu;obtain ⟨rfl,rfl⟩:q=0∧u=f (idx xs j):=by
  cases q with
  | zero=>exact ⟨rfl,(Option.some.inj hu).symm⟩
  | succ q=>simp at hu
 have hg:=hI.grp i hL (pre.length + j.toNat) (f (idx xs j)) (Et hj)
 rw [Nat.mul_one]
 simpa using hg
theorem gP.arr {H:BM} {b:Nat} {cs:List Value} {j:Int} (h:gP H (b,0,cs)) (pre post:List Value) (off:Nat) (hj:0≤j∧j < (n:Int))
  (hcs:cs=pre++(arC f n xs++post):=by kernel_rfl) (ho:pre.length=off:=by kernel_rfl):gP H (b,off + j.toNat * 1,[f (idx xs j)]):=by
 subst hcs ho;intro q u hu;obtain ⟨rfl,rfl⟩:q=0∧u=f (idx xs j):=by
  cases q with
  | zero=>exact ⟨rfl,(Option.some.inj hu).symm⟩
  | succ q=>simp at hu
 have hg:=h (pre.length + j.toNat) (f (idx xs j)) (Et hj)
 rw [Nat.mul_one]
 simpa using hg
theorem Gf {t:TypeId} {a x:Operand} {b:Nat} {t':TypeId} {cs:List Value} {j:Int} {v:α} (li:Nat) (pre post:List Value) (off:Nat) (hI:Inv M w L) (hop:o.op = .store t a x) (hL:L[li]? = some (.blk b t' cs))
  (hj:0≤j∧j < (n:Int)) (h:∀ w',Inv M w' (L.set li (.blk b t' (pre++(arC f n (nD n xs j v)++post))))→K undef w')
  (hcs:cs=pre++(arC f n xs++post):=by kernel_rfl) (ho:pre.length=off:=by kernel_rfl) (ha:ev_ a = .pointer (some ⟨b,off + j.toNat * 1,none⟩):=by kernel_rfl) (hx:ev_ x=f v:=by kernel_rfl)
  (h1:(f v).cells.toList=[f v]:=by kernel_rfl) (h2:Value.oneCell' (f v)=true:=by kernel_rfl)
  (hs:(P.info? t).map (·.size)=some 1:=by kernel_rfl):Eff P o ev_ w K:=by
 subst hcs ho;have hz:(f v).cells.size=1:=by rw [← Array.length_toList,h1]; rfl
 refine Cg t a x li b t' _ _ (pre.length + j.toNat * 1) (f v) hop ha hx (by rw [hz]; exact hs) (by rw [h1]; simp [h2]) hI hL ?_ rfl ?_
 ·refine Nat.ble_eq_true_of_le ?_
  simp only [List.length_append,sN,Nat.mul_one,hz]
  omega
 ·intro w' hI';refine h w' ?_;have e:splice (pre++(arC f n xs++post)) (pre.length + j.toNat * 1) (f v).cells.toList=pre++(arC f n (nD n xs j v)++post):=by
   rw [← Gd hj,Nat.mul_one,h1]
   have hlt:j.toNat < (arC f n xs).length:=by rw [sN]; omega
   generalize arC f n xs=A at hlt;unfold splice
   rw [List.take_append,List.take_of_length_le (by omega),Nat.add_sub_cancel_left,List.drop_append,List.drop_eq_nil_of_le (by simp; omega)]
   simp only [List.length_singleton,List.nil_append]
   rw [List.take_append_of_le_length (by omega),show pre.length + j.toNat + 1 - pre.length=j.toNat + 1 by omega,List.drop_append_of_le_length (by omega),List.append_assoc]
   congr 1
   rw [List.set_eq_take_append_cons_drop,if_pos hlt]
   simp
  rw [← e]
  exact hI'
end
section
variable {E:Env} {Ds:List Nat} {k:List Item} {f:Nat→Value} {w:World} {M:Mem} {L:List aY}
theorem Ah {ω α:Type} (X:List aY) (gf:FuncId) (first cap:Array Value) {x:Operand} {ps:Array Tmp} {assign body:Code} (enc:α→Array Value) (us:α→List (Nat×Value)) (B:Loop→Nat→Nat→ω→aY) (Y:ω→α→Option (Bool×ω)) (s0 o:ω)
  (hro:E.ro=none) (hx:ev E.N f x = .func (.func gf) first cap) (hent:∀ a:Array Value,Sem.pureRun E.P (callFunc gf a)=some (.enter gf a)) (hus:∀ a,(ps.zip (enc a)).toList=us a) (hsz:∀ a,Nat.beq (enc a).size ps.size=true) (hI:Inv M w L)
  (h0:∀ r D l w',Inv M w' (kZ D (.deferred (some []))::kZ l (.loop (recAt r .ready none))::L)→Inv M w' (B r D l s0::X))
  (hcall:∀ rc D l w1,Inv M w1 (B rc D l s0::X)→(∀ s a x w L,Y s a=some x→Inv M w (B rc D l s::L)→zi E.P l (enc a) w (fun v w'=>v = .bool x.1∧Inv M w' (B rc D l x.2::L))) →
   Calls E.P gf (first ++ #[.func (.yield l) #[] #[]]++cap) w1 fun e w'=>e = .returned (.tuple #[])∧Inv M w' [B rc D l o])
  (hround:∀ rc D l s a r w T,Y s a=some r→Inv M w [B rc D l s,T] →
   (∃ q st pd,w.heap[l]? = some (.loop q)∧q=recAt rc st pd)∧∀ c cs,Go ⟨E.P,E.fn,E.N,c::cs,fun e w'=>∃ v,e = .returned v∧(v = .bool r.1∧Inv M w' [B rc D l r.2,T]),[],some l⟩ [.code assign,.beginRound,.code body] (aZ f (us a)) w)
  (hend:∀ rc D l w',Inv M w' [B rc D l o]→∃ jump w4,(Instr.endLoop l).run E.P w' = .ok jump w4∧Go (E.marks (D::Ds)) ((jump.map Item.code).toList++k) f w4) :
  Go (E.marks Ds) (.code (.rangeFunc x ps assign body)::k) f w:=by
 have a5:=hI.objNew (.deferred (some []));have hl:(w.alloc (.deferred (some []))).heap.size=w.heap.size + 1:=World.size_alloc _ _
 let rc:Loop:={ state := .ready,pending:=none,fn:=E.fn,tmps:=tm E.N f,params:=ps,assign:=assign,body:=body,defers:=w.heap.size }
 have a1:=a5.objNew (.loop rc)
 rw [hl] at a1
 have a3:Inv M ((w.alloc (.deferred (some []))).alloc (.loop rc)) (kZ w.heap.size (.deferred (some []))::kZ (w.heap.size + 1) (.loop (recAt rc .ready none))::L):=by
  refine ⟨a1.fix,a1.size,a1.os,a1.tape,a1.output,?_⟩;obtain ⟨F1,F2,h1,h2,h3,h4,h5⟩:=a1.sep.split;obtain ⟨G1,G2,g1,g2,g3,g4,g5⟩:=h4.split;have h6:=(g5.append h5 (fun b hb hb'=>h3 b (g2 b hb) hb')).append g4 (fun b hb hb'=>hb.elim (fun hb=>g3 b hb' hb) (fun hb=>h3 b (g1 b hb') hb));exact h6.mono fun b hb=>hb.elim (fun hb=>hb.elim (fun hb=>h1 b (g2 b hb)) (h2 b)) (fun hb=>h1 b (g1 b hb))
 have a6:=h0 rc _ _ _ a3;have hyield:∀ s a x w' L',Y s a=some x→Inv M w' (B rc w.heap.size (w.heap.size + 1) s::L')→zi E.P (w.heap.size + 1) (enc a) w' (fun v w''=>v = .bool x.1∧Inv M w'' (B rc w.heap.size (w.heap.size + 1) x.2::L')):=by
  intro s a x w' L' hY hB;obtain ⟨⟨q,st,pd,hq,rfl⟩,hgo⟩:=hround rc w.heap.size (w.heap.size + 1) s a x w' (rest L') hY hB.tails;refine ⟨_,_,_,_,run_yield hq (Nat.eq_of_beq_eq_true (hsz a)),?_⟩;have hr:=Ev (P:=E.P) (l:=w.heap.size + 1) (g:=E.fn) (N:=E.N) (assign:=assign) (body:=body) (w:=w') (f:=aZ f (us a)) (R:=fun v w''=>v = .bool x.1∧Inv M w'' [B rc w.heap.size (w.heap.size + 1) x.2,rest L']) rfl hgo;have ht:((recAt rc st pd).params.zip (enc a)).foldl (fun tmps (t,a)=>tmps.setIfInBounds t a) (recAt rc st pd).tmps=tm E.N (aZ f (us a)):=by
   show (ps.zip (enc a)).foldl (fun tmps p=>tmps.setIfInBounds p.1 p.2) (tm E.N f)=_
   rw [← Ch E.N (us a) f,← hus a,Array.foldl_toList]
  rw [ht]
  exact hr.mono fun v w'' h=>⟨h.1,h.2.untails⟩
 have hc:=hcall rc w.heap.size (w.heap.size + 1) _ a6 hyield;have he:(Instr.enterLoop (E.marks Ds).b.fn ((E.marks Ds).fr f).tmps ps assign body (E.marks Ds).b.roundOf).run E.P w = .ok (w.heap.size + 1,[{ target := .collected w.heap.size,args := #[] }]) ((w.alloc (.deferred (some []))).alloc (.loop rc)):=by
  rw [show (E.marks Ds).b.roundOf=none from hro]
  exact run_enterLoop_outer (E.marks Ds).b.fn ((E.marks Ds).fr f).tmps ps assign body
 have hres:(resolve ((E.marks Ds).fr f).eval (rangeCall x (w.heap.size + 1)) 0).run E.P ((w.alloc (.deferred (some []))).alloc (.loop rc)) =
   .ok { target := .fn (.func gf) cap,args:=first ++ #[.func (.yield (w.heap.size + 1)) #[] #[]] } ((w.alloc (.deferred (some []))).alloc (.loop rc)):=by
  simp only [mZ]
  have hx':ev (E.marks Ds).N f x = .func (.func gf) first cap:=hx;have hc':∀ v,ev (E.marks Ds).N f (.const v)=v:=fun _=>rfl
  simp [resolve,rangeCall,Deferred.ofValue,hx',hc']
 have hinv:(invoke (.fn (.func gf) cap) (first ++ #[.func (.yield (w.heap.size + 1)) #[] #[]])).run E.P ((w.alloc (.deferred (some []))).alloc (.loop rc)) = .ok (.enter gf (first ++ #[.func (.yield (w.heap.size + 1)) #[] #[]]++cap)) _ :=
  Sem.pureRun_run _ (hent _) _
 have hs:=stepR_rangeFunc (P:=E.P) (b:=(E.marks Ds).b) (a:=(E.marks Ds).fr f) (k:=k) (cs:=E.cs) (w:=w) he hres hinv;obtain ⟨e,w3,fr',hR,hsteps,_,hleave⟩:=hc ((E.marks Ds).b.atR { (E.marks Ds).fr f with defers:=[{ target := .collected w.heap.size,args := #[] }]++((E.marks Ds).fr f).defers } (.inRangeFunc (w.heap.size + 1)::k)::E.cs);obtain ⟨rfl,hB⟩:=hR;obtain ⟨jump,w4,hendl,m,a4,a2⟩:=hend rc w.heap.size (w.heap.size + 1) w3 hB;refine ⟨m,Steps.head hs (Steps.trans hsteps (Steps.head ?_ (Steps.head (stepR_endRangeFunc hendl) a4))),a2⟩
 rw [← finish_atR_inRangeFunc (w.heap.size + 1) (.tuple #[])]
 exact step_leave_returned hleave
end
end Go.Proofs.YtmfgddafcgflaaaE
namespace Go.Proofs.YtmfgddafcgflaaaE
open Go Go.Proofs
set_option linter.unusedVariables false
set_option linter.unusedSimpArgs false
def jT (ro:Option Nat):Fence:={ Fence.wide with round:=ro }
def si (ops:Array Oper):Bool:=ops.toList.all fun o=>match o.op with | .defer _=>false | _=>true
section
variable {P:Program} {md:Region.Mode} {ops:Array Oper} {w:World} {n:Nat} {ro:Option Nat}
theorem wh (h:si ops=true) {i:Nat} {o:Oper} (hi:ops[i]? = some o):∀ c,o.op ≠ .defer c:=by
 intro c e;have hm:o ∈ ops.toList:=by
  rw [← Array.getElem?_toList] at hi
  exact List.mem_of_getElem? hi
 have:=List.all_eq_true.1 h o hm
 rw [e] at this
 cases this
theorem FZ {o:Oper} {a:Act} {K:Act→Prop} {K':Act→World→Prop} {Q':Exit→Act→World→Prop} (hd:∀ c,o.op ≠ .defer c) (h:∀ a,K a→K' a w) (hh:o.still P a w K):o.wpIn (jT ro) n P a w K' Q':=by
 unfold Oper.still at hh;unfold Oper.wpIn;refine ⟨fun _ _=>trivial,?_⟩
 rw [Oper.semAt_eq _ _ _ hd]
 generalize (execOp a.eval o).run P w=r at *;cases r with
 | ok m w' =>
  cases m <;> simp only [Oper.stillUpon] at hh <;> simp only [Oper.uponIn]
  case enter f args =>
   obtain ⟨rfl,v,hc,hn⟩:=hh;refine ⟨fun h=>(by cases h),?_⟩;refine (callsIn_wide.2 (hc.mono fun e w'' he => ?_):CallsIn Fence.wide (n - 1) P f args _ _);obtain ⟨rfl,rfl⟩:=he;exact h _ hn
  all_goals (obtain ⟨rfl,h2⟩:=hh; exact h _ h2)
 | halt x w'=>simp only [Oper.stillUpon] at hh
theorem GM (hn:si ops=true) {i:Nat} {a:Act} {K:Act→Prop} {K':Act→World→Prop} {Q':Exit→Act→World→Prop} (h:∀ a,K a→K' a w) (hh:stOp P ops w i K a):wpOpIn (jT ro) n P ops Q' i K' a w:=by
 unfold stOp at hh;unfold wpOpIn;cases ho:ops[i]? with
 | none=>rw [ho] at hh; exact h _ hh
 | some o =>
  rw [ho] at hh
  dsimp only at hh ⊢
  by_cases hw:Region.wanted o (yielded ops a.tmps)=true
  ·rw [if_pos hw] at hh ⊢
   exact FZ (wh hn ho) h hh
  ·rw [if_neg hw] at hh ⊢
   exact ⟨fun _ _=>trivial,h _ hh⟩
theorem tJ (hn:si ops=true) {m g:Nat} {L:Array Bool→Act→Prop} {Q':Exit→Act→World→Prop} (hL:∀ listed a,L listed a→wpAnyIn (jT ro) n P md ops Q' g listed a w) :
  ∀ (f:Nat) (listed:Array Bool) (a:Act),wpAnyL P md ops w m L f listed a→wpAnyIn (jT ro) n P md ops Q' (f + g) listed a w
 | 0,listed,a,h=>by rw [Nat.zero_add]; exact hL _ _ h
 | f + 1,listed,a,h=>by
  rw [show f + 1 + g=(f + g) + 1 by omega]
  exact ⟨fun h0=>absurd h0 h.1,fun i hi=>GM hn (fun a' h'=>tJ hn hL f _ a' h') (h.2 i hi).2⟩
theorem yY {Q':Exit→Act→World→Prop} {o:Oper} {i:Nat} {listed:Array Bool} {a:Act} {w:World} (ho:ops[i]? = some o) (hB:Region.seqB md ops 1 i listed=true)
  (h:wpOpIn (jT ro) n P ops Q' i (fun a' w'=>Q' .normal a' w') a w):wpAnyIn (jT ro) n P md ops Q' 1 listed a w:=by
 simp only [Region.seqB,Bool.and_eq_true,decide_eq_true_eq] at hB
 refine ⟨fun h1=>(by rw [hB.1] at h1; cases h1),fun j hj => ?_⟩
 rw [hB.1] at hj
 have hij:j=i:=by simpa using hj
 subst hij;exact wpOpIn_mono (fun a' w' h'=>⟨by simpa using hB.2,h'⟩) h
end
section
variable {E:Env} {k:List Item} {f:Nat→Value} {w:World} {M:Mem} {L:List aY}
theorem De {c:Code} (h:c.wpIn (jT E.ro) 0 E.P (fun e a w'=>e = .normal∧∃ f,a=E.fr f∧Go E k f w') (E.fr f) w):Go E (.code c::k) f w:=by
 obtain ⟨e,a',w',⟨rfl,f',rfl,hg⟩,harr⟩:=h E.b k E.cs rfl trivial (room_wide _);exact .steps (StepsIn.steps harr) hg
theorem vN {l:List Oper} {Q:Act→Prop}:∀ {n i:Nat} {f:Nat→Value} {K:(Nat→Value)→Prop},(∀ f,K f→Q (E.fr f))→Rd E.P E.N l.toArray w n i f K →
  wpStill E.P l.toArray w Q ((l.drop i).take n) (E.fr f)
 | 0,i,f,K,hK,h=>by simpa [wpStill] using hK f h
 | n + 1,i,f,K,hK,⟨o,ho,h⟩=>by
  have ho':l[i]? = some o:=by simpa using ho
  have hlt:i < l.length:=(List.getElem?_eq_some_iff.1 ho').1;have hl:(l.drop i).take (n + 1)=o::(l.drop (i + 1)).take n:=by
   rw [List.drop_eq_getElem_cons hlt,List.take_succ_cons]
   congr 1
   exact (List.getElem?_eq_some_iff.1 ho').2
  rw [hl]
  simp only [wpStill]
  rw [show Region.wanted o (yielded l.toArray (E.fr f).tmps)=wants E.N l.toArray f o from jm E.N _ f o]
  rcases h with ⟨hw,h⟩ | ⟨v,hw,hr,h⟩
  ·rw [hw,if_neg (by simp),nP]
   exact vN hK h
  ·rw [hw,if_pos rfl]
   unfold Oper.still
   rw [mZ,hr,Oper.stillUpon_value,nP]
   exact vN hK h
theorem GN {o:Oper} {ops:Array Oper} {i:Nat} (hn:si ops=true) (ho:ops[i]? = some o) (hw:wants E.N ops f o=true) (h:Eff E.P o (ev E.N f) w (fun v w'=>Go E k (lc f o.dst v) w')) :
  wpOpIn (jT E.ro) 0 E.P ops (fun e a w'=>e = .normal∧∃ f,a=E.fr f∧Go E k f w') i (fun a w'=>Exit.normal = .normal∧∃ f,a=E.fr f∧Go E k f w') (E.fr f) w:=by
 unfold wpOpIn
 rw [ho]
 dsimp only
 rw [show Region.wanted o (yielded ops (E.fr f).tmps)=wants E.N ops f o from jm E.N _ f o,hw,if_pos rfl]
 refine ⟨fun _ _=>trivial,?_⟩
 rw [Oper.semAt_eq _ _ _ (wh hn ho),mZ]
 replace h:=h.out;cases hr:(execOp (ev E.N f) o).run E.P w with
 | halt x w'=>rw [hr] at h; exact h.elim
 | ok m w' =>
  rw [hr] at h
  cases m <;> first
   | (dsimp only [xN,Oper.uponIn] at h ⊢; rw [nP]; exact ⟨rfl,_,rfl,h⟩)
   | (dsimp only [xN,Oper.uponIn] at h ⊢; refine ⟨fun h=>(by cases h),(callsIn_wide.2 (Calls.mono h ?_):CallsIn Fence.wide _ E.P _ _ _ _)⟩; rintro e w'' ⟨v,rfl,h'⟩; dsimp only; rw [nP]; exact ⟨rfl,_,rfl,h'⟩)
   | exact h.elim
theorem Cf {id:Nat} {l:List Oper} (m:Nat) (o:Oper) (G:List Grp) (hs:List Hint) (us:List (Nat×Value)) (bs:List (Int×Nat))
  (hm:E.P.follows .mixedOrders=true) (hB:Region.lexTailB .any l.toArray m=true) (hl:hs.length=m) (ho:l.drop m=[o])
  (hG:kG w G) (hb':nO bs) (hr:iT (fo E.P E.N l.toArray G hs 0 f)=some (aZ f us)) (ha:ed (fo E.P E.N l.toArray G hs 0 f) true=ed (fo E.P E.N l.toArray G hs 0 f) false)
  (hb:nE (fo E.P E.N l.toArray G hs 0 f)=bs) (hw:wants E.N l.toArray (aZ f us) o=true) (hI:Inv M w L)
  (h:∀ w',Inv M w' L→hp w'=hp w→Eff E.P o (ev E.N (aZ f us)) w' (fun v w''=>Go E k (lc (aZ f us) o.dst v) w'')) (hnd:si l.toArray=true:=by kernel_rfl):Go E (.code (.region id l.toArray true)::k) f w:=by
 refine De (wpIn_region_any hm ?_)
 simp only [Region.lexTailB,Bool.and_eq_true,decide_eq_true_eq] at hB
 obtain ⟨⟨⟨⟨hsel,hn⟩,hs'⟩,hc⟩,hlex⟩:=hB;have hn':m < l.length:=by simpa using hn
 have hlen:l.length=m + 1:=by
  have:=congrArg List.length ho
  rw [List.length_drop,List.length_singleton] at this
  omega
 have htl:(l.take m).length=m:=by simp; omega
 have a1:l.toArray.size - m=1:=by simp; omega
 have hom:l.toArray[m]? = some o:=by
  have:(l.drop m)[0]? = some o:=by rw [ho]; rfl
  rw [List.getElem?_drop] at this
  simpa using this
 have a2:HeadInv .any l.toArray m (Array.replicate l.toArray.size false) :=
  ⟨by simp,fun j oj _ hl=>(by rw [getD_replicate_false] at hl; cases hl),fun t _ ht=>getD_in (by simpa using ht) (getD_replicate_false _ _)⟩
 have h1:Rd E.P E.N l.toArray w.drew (hs.length + 0) 0 f (fun f'=>f'=aZ f us):=xQ (n:=0) 0 G hs us bs (vO hG) hb' hr ha hb rfl
 rw [Nat.add_zero,hl] at h1
 have h2:=vN (E:=E) (Q:=fun a'=>a'=E.fr (aZ f us)) (fun f' h'=>by rw [h']) h1;have H:=wpAnyL_lex (P:=E.P) (w:=w.drew) (md := .any) (g:=l.toArray.size - m) hsel hs' hc hn (l.take m) 0 (Array.replicate l.toArray.size false) (E.fr f) (fun j hj=>by
  have hj':j < m:=by rw [htl] at hj; exact hj
  simp [hj']) (by simpa using htl) a2 (by rw [htl]; exact hlex) (by simpa using h2)
 have:=tJ (ro:=E.ro) (n:=0) (Q':=fun e a w'=>e = .normal∧∃ f,a=E.fr f∧Go E k f w') hnd (g:=l.toArray.size - m) (fun listed a' hL=>by
  obtain ⟨hq,rfl⟩:=hL
  rw [a1] at hq ⊢
  exact yY hom hq (GN hnd hom hw (h _ hI.drew' rfl))) _ _ _ H
 rw [htl,show m + (l.toArray.size - m)=l.toArray.size by omega] at this
 exact this
end
end Go.Proofs.YtmfgddafcgflaaaE
namespace Go.Proofs.YtmfgddafcgflaaaE
open Go Go.Proofs
set_option linter.unusedVariables false
set_option linter.unusedSimpArgs false
open Classical in
noncomputable def uL {σ α:Type} (step:σ→α→Option σ) (s0:σ) (m:List α):Option σ :=
 if h:∃ R,∀ l:List α,l.Perm m→l.foldlM step s0=some R then some h.choose else none
theorem yX {σ α:Type} {step:σ→α→Option σ} {s0 R:σ} {m:List α} (h:uL step s0 m=some R):∀ l:List α,l.Perm m→l.foldlM step s0=some R:=by
 unfold uL at h
 split at h
 ·rename_i hx
  rw [← Option.some.inj h]
  exact hx.choose_spec
 ·cases h
theorem Bc {σ α:Type} {step:σ→α→Option σ} {s0 R:σ} {m:List α} (h:∀ l:List α,l.Perm m→l.foldlM step s0=some R):uL step s0 m=some R:=by
 unfold uL;have hx:∃ R,∀ l:List α,l.Perm m→l.foldlM step s0=some R:=⟨R,h⟩
 rw [dif_pos hx]
 have h1:=hx.choose_spec m (List.Perm.refl _)
 rw [h m (List.Perm.refl _)] at h1
 exact h1.symm
section
variable {P:Program}
theorem xC (w:World) (ty:TypeId) (bm since:Nat) (seen:Array Nat) (es:Array MapEntry) (hb:w.heap[bm]? = some (.map es since)) (hold:∀ x ∈ es.toList,x.born < since) :
  ((leftOf es seen).size=0∧(Instr.next (.pointer (some ⟨w.heap.size,0,none⟩)) false ty).run P (w.alloc (.mapIter (some bm) since seen since)) = .ok (.tuple #[.bool false]) (w.alloc (.mapIter (some bm) since seen since))) ∨
  ∃ e ∈ (leftOf es seen).toList,∃ w1:World,(w1=w∨w1=w.drew)∧(Instr.next (.pointer (some ⟨w.heap.size,0,none⟩)) false ty).run P (w.alloc (.mapIter (some bm) since seen since)) = .ok (.tuple #[.bool true,e.key,e.val]) (w1.alloc (.mapIter (some bm) since (seen.push e.born) since)):=by
 have hlt:bm < w.heap.size:=by
  rcases Nat.lt_or_ge bm w.heap.size with h | h
  ·exact h
  ·simp [Array.getElem?_eq_none h] at hb
 have hb':(w.alloc (.mapIter (some bm) since seen since)).heap[bm]? = some (.map es since):=by rw [heap_alloc_old w _ hlt,hb]
 simp only [Instr.next,getObj,Sem.run_bind,Sem.run,heap_alloc_new,hb',Result.andThen,next_test_false seen es since since hold (Nat.le_refl _),Bool.false_eq_true,if_false]
 unfold leftOf;have hmem:∀ x ∈ (Array.filter (fun e => !seen.contains e.born) es).toList,x.born < since:=fun x hx=>hold x (by simp at hx ⊢; exact hx.1);generalize Array.filter (fun e => !seen.contains e.born) es=L at hmem ⊢;have e1:L.filter (fun x=>decide (x.born < since))=L:=Array.filter_eq_self.2 (fun x hx=>by simpa using hmem x (by simpa using hx))
 have e2:L.filter (fun x=>decide (x.born ≥ since)) = #[]:=by
  rw [Array.filter_eq_empty_iff]
  intro x hx;have:=hmem x (by simpa using hx)
  simp
  omega
 simp only [e1,e2,Array.append_empty]
 by_cases h0:L.size=0
 ·left
  have:L = #[]:=Array.eq_empty_of_size_eq_zero h0;subst this;refine ⟨rfl,?_⟩
  simp [choose,Sem.run,Question.forced]
 ·right
  have hne:L.isEmpty=false:=by simp [Array.isEmpty,h0]
  simp only [hne,Bool.false_eq_true,if_false,Array.empty_append,Array.size_map]
  have hch:∃ (j:Nat) (w1:World),j < L.size∧(w1=w∨w1=w.drew)∧(choose (Question.mapNext L.size)).run P (w.alloc (.mapIter (some bm) since seen since)) = .ok j (w1.alloc (.mapIter (some bm) since seen since)):=by
   by_cases hf:L.size≤1
   ·exact ⟨0,w,by omega,.inl rfl,by simp [choose,Sem.run,Question.forced,hf]⟩
   ·exact ⟨_,w.drew,Nat.mod_lt _ (by omega),.inr rfl,by
     simp only [choose,Sem.run,Question.forced,decide_eq_true_eq,hf,if_false,Question.cut]
     rfl⟩
  obtain ⟨j,w1,hj,hal,hrun⟩:=hch;refine ⟨L[j],by simp,w1,hal,?_⟩
  have hsz:w1.heap.size=w.heap.size:=by rcases hal with rfl | rfl <;> rfl
  have hp:∀ (h:Array Obj) (x y:Obj),(h.push x).setIfInBounds h.size y=h.push y:=by
   intro h x y
   apply Array.toList_inj.1
   simp
  have hset:∀ (a:Option Nat) (b:Nat) (c:Array Nat) (d:Nat) (o':Obj),(setObj w.heap.size o').run P (w1.alloc (.mapIter a b c d)) = .ok () (w1.alloc o'):=fun a b c d o'=>by
   simp only [setObj,Sem.run]
   rw [← hsz,heap_alloc_new]
   show Result.ok () ({ w1.alloc (.mapIter a b c d) with heap:=(w1.heap.push (.mapIter a b c d)).setIfInBounds w1.heap.size o' }:World)=_
   rw [hp]
   rfl
  simp only [hrun,Array.getElem?_map,Array.getElem?_eq_getElem hj,Option.map_some,Sem.run_bind,hset,Result.andThen]
  rfl
theorem Bd {es:Array MapEntry} {seen:Array Nat} {e:MapEntry} (hn:(es.toList.map (·.born)).Nodup) (he:e ∈ (leftOf es seen).toList) :
  ∃ l1 l2,(leftOf es seen).toList=l1++e::l2∧(leftOf es (seen.push e.born)).toList=l1++l2:=by
 obtain ⟨l1,l2,h⟩:=List.append_of_mem he;refine ⟨l1,l2,h,?_⟩;have h1:(leftOf es (seen.push e.born)).toList=(leftOf es seen).toList.filter (fun x => !(x.born == e.born)):=by
  unfold leftOf
  rw [Array.toList_filter,Array.toList_filter,List.filter_filter]
  congr 1
  funext x
  rw [contains_push]
  cases seen.contains x.born <;> simp [Bool.beq_comm,eq_comm]
 have h2:((leftOf es seen).toList.map (·.born)).Nodup:=by
  unfold leftOf
  rw [Array.toList_filter]
  exact hn.sublist ((List.filter_sublist (l:=es.toList)).map _)
 rw [h1,h]
 rw [h,List.map_append,List.map_cons,List.nodup_append,List.nodup_cons] at h2
 obtain ⟨_,⟨h4,_⟩,h6⟩:=h2
 rw [List.filter_append,List.filter_cons]
 have q1:l1.filter (fun x => !(x.born == e.born))=l1:=List.filter_eq_self.2 fun x hx=>by
  have:=h6 x.born (List.mem_map_of_mem hx) e.born (by simp)
  simpa using this
 have q2:l2.filter (fun x => !(x.born == e.born))=l2:=List.filter_eq_self.2 fun x hx=>by
  have:x.born≠e.born:=fun q=>h4 (q ▸ List.mem_map_of_mem hx)
  simpa using this
 rw [q1,q2]
 simp
end
theorem xD.{u} {α:Type u} (L x:List α):(List.range L.length).map ((L++x)[·]?)=L.map some:=by
 apply List.ext_getElem?
 intro i
 by_cases hi:i < L.length
 ·rw [List.getElem?_map,List.getElem?_range hi,List.getElem?_map,List.getElem?_eq_getElem hi]
  simp [List.getElem?_append_left hi,List.getElem?_eq_getElem hi]
 ·rw [List.getElem?_eq_none (by simp; omega),List.getElem?_eq_none (by simp; omega)]
section
variable {E:Env} {k:List Item} {f:Nat→Value} {w:World} {M:Mem} {L:List aY}
variable {κ ν:Type} {ek:κ→Value} {ev:ν→Value}
theorem FX {P:Program} {o:Oper} {ev_:Operand→Value} {K:Value→World→Prop} {t kt et:TypeId} {x:Operand} {bm:Nat} {m:List (κ×ν)} (hop:o.op = .range t x) (hm:fJ ek ev (hp w) bm m)
  (h:∀ es clock bi,bi=w.heap.size→w.heap[bm]? = some (.map es clock)→es.toList.map (fun e=>(e.key,e.val))=m.map (fun p=>(ek p.1,ev p.2))→uf es clock→K (.pointer (some ⟨bi,0,none⟩)) (w.alloc (.mapIter (some bm) clock #[] clock)))
  (hx:ev_ x = .map (some bm):=by kernel_rfl) (ht:P.underlying t=some (.map kt et):=by kernel_rfl):Eff P o ev_ w K:=by
 obtain ⟨es,clock,hb,hes,hbn⟩:=hm;have hb:w.heap[bm]? = some (.map es clock):=hb;refine eH _ ?_ (h es clock _ rfl hb hes hbn)
 simp only [execOp,hop,hx,Sem.run_bind,run_range_map w t kt et bm es clock ht hb,Result.andThen,Sem.run,pure]
theorem zV {P:Program} {o:Oper} {ev_:Operand→Value} {w w':World} {K:Value→World→Prop} {x:Operand} {it v:Value} (hop:o.op = .next x false) (h:∀ ty,(Instr.next it false ty).run P w = .ok v w') (hk:K v w')
  (hx:ev_ x=it:=by kernel_rfl):Eff P o ev_ w K:=eH v (by simp only [execOp,hop,hx,Sem.run_bind,h,Result.andThen,Sem.run,pure]) hk
theorem CY {P:Program} {o:Oper} {ev_:Operand→Value} {w w':World} {K:Value→World→Prop} {x:Operand} {it v:Value} (hop:o.op = .entry x) (h:(Instr.entry it).run P w = .ok v w') (hk:K v w')
  (hx:ev_ x=it:=by kernel_rfl):Eff P o ev_ w K:=eH v (by simp only [execOp,hop,hx,Sem.run_bind,h,Result.andThen,Sem.run,pure]) hk
theorem Be {σ:Type} {c:Code} {step:σ→κ×ν→Option σ} {s0 R:σ} {m:List (κ×ν)} {bm bi clock:Nat} {es:Array MapEntry} (St:σ→(Nat→Value)→Prop) (hR:∀ l:List (κ×ν),l.Perm m→l.foldlM step s0=some R)
  (hbi:bi=w.heap.size) (hb:w.heap[bm]? = some (.map es clock)) (hes:es.toList.map (fun e=>(e.key,e.val))=m.map (fun p=>(ek p.1,ev p.2))) (hbn:uf es clock) (hI:Inv M w L) (h0:St s0 f)
  (hnil:∀ f w',St R f→Inv M w' L→(∀ ty,(Instr.next (.pointer (some ⟨bi,0,none⟩)) false ty).run E.P w' = .ok (.tuple #[.bool false]) w')→Go E (.code c :: .inLoop c::k) f w')
  (hcons:∀ s s' p f w1 w2,St s f→step s p=some s'→Inv M w2 L→(∀ ty,(Instr.next (.pointer (some ⟨bi,0,none⟩)) false ty).run E.P w1 = .ok (.tuple #[.bool true,ek p.1,ev p.2]) w2) →
   ((Instr.entry (.pointer (some ⟨bi,0,none⟩))).run E.P w2 = .ok (.tuple #[ek p.1,ev p.2]) w2)→(∀ f',St s' f'→Go E (.inLoop c::k) f' w2)→Go E (.code c :: .inLoop c::k) f w1) :
  Go E (.code (.loop c)::k) f (w.alloc (.mapIter (some bm) clock #[] clock)):=by
 have key:∀ (n:Nat) (s:σ) (f:Nat→Value) (w1:World) (seen:Array Nat) (done rem:List (κ×ν)),rem.length=n→(done++rem).Perm m→done.foldlM step s0=some s →
   (leftOf es seen).toList.map (fun e=>(e.key,e.val))=rem.map (fun p=>(ek p.1,ev p.2))→St s f→w1.heap=w.heap→Inv M w1 L→Go E (.code c :: .inLoop c::k) f (w1.alloc (.mapIter (some bm) clock seen clock)):=by
  intro n
  induction n with
  | zero =>
   intro s f w1 seen done rem hn hp hd hl hs hw a1;have hr:rem=[]:=List.eq_nil_of_length_eq_zero hn;subst hr
   rw [List.append_nil] at hp
   have hsR:s=R:=Option.some.inj (hd.symm.trans (hR _ hp));subst hsR;have a2:w1.heap[bm]? = some (.map es clock):=by rw [hw]; exact hb
   rcases xC (P:=E.P) w1 0 bm clock seen es a2 (fun x hx=>hbn.2 _ (List.mem_map_of_mem hx)) with ⟨h1,_⟩ | ⟨e,he,_⟩
   ·refine hnil f _ hs ((a1.objNew _).pick (List.range L.length) List.nodup_range (xD L _)) fun ty => ?_
    ·rcases xC (P:=E.P) w1 ty bm clock seen es a2 (fun x hx=>hbn.2 _ (List.mem_map_of_mem hx)) with ⟨_,h2⟩ | ⟨e,he,_⟩
     ·rw [hbi,← hw]; exact h2
     ·have:(leftOf es seen).toList=[]:=by simpa using hl
      rw [this] at he
      cases he
   ·have:(leftOf es seen).toList=[]:=by simpa using hl
    rw [this] at he
    cases he
  | succ n ih =>
   intro s f w1 seen done rem hn hp hd hl hs hw a1;have a2:w1.heap[bm]? = some (.map es clock):=by rw [hw]; exact hb
   rcases xC (P:=E.P) w1 0 bm clock seen es a2 (fun x hx=>hbn.2 _ (List.mem_map_of_mem hx)) with ⟨h1,_⟩ | ⟨e,he,w2,a4,hrun⟩
   ·have h3:=congrArg List.length hl
    rw [List.length_map,List.length_map,Array.length_toList] at h3
    omega
   ·obtain ⟨l1,l2,a6,a5⟩:=Bd hbn.1 he;have hsplit:∃ r1 p r2,rem=r1++p::r2∧l1.map (fun e=>(e.key,e.val))=r1.map (fun p=>(ek p.1,ev p.2))∧e.key=ek p.1∧e.val=ev p.2∧l2.map (fun e=>(e.key,e.val))=r2.map (fun p=>(ek p.1,ev p.2)):=by
     rw [a6,List.map_append,List.map_cons] at hl
     obtain ⟨r1,r2',q1,q2,q3⟩:=List.map_eq_append_iff.1 hl.symm;obtain ⟨p,r2,q4,q5,q6⟩:=List.map_eq_cons_iff.1 q3;subst q4;exact ⟨r1,p,r2,q1,q2.symm,(congrArg Prod.fst q5).symm,(congrArg Prod.snd q5).symm,q6.symm⟩
    obtain ⟨r1,p,r2,rfl,p1,p2,p3,p4⟩:=hsplit;have hperm:(done++[p]++(r1++r2)).Perm m:=by
     refine List.Perm.trans ?_ hp
     rw [List.append_assoc]
     exact List.Perm.append_left _ (show (p::(r1++r2)).Perm (r1++p::r2) from List.perm_middle.symm)
    obtain ⟨s',hs'⟩:∃ s',step s p=some s':=by
     have:=hR _ hperm
     rw [List.append_assoc,List.foldlM_append,hd] at this
     cases hq:step s p with
     | some s'=>exact ⟨s',rfl⟩
     | none=>simp [List.foldlM_cons,hq] at this
    have hd':(done++[p]).foldlM step s0=some s':=by rw [List.foldlM_append,hd]; simp [List.foldlM_cons,hs']
    have hw2h:w2.heap=w.heap:=by rcases a4 with rfl | rfl <;> exact hw
    have a3:Inv M w2 L:=by rcases a4 with rfl | rfl; exact a1; exact a1.drew'
    have hrem:(r1++r2).length=n:=by
     simp only [List.length_append,List.length_cons] at hn ⊢
     omega
    have hlm:(leftOf es (seen.push e.born)).toList.map (fun e=>(e.key,e.val))=(r1++r2).map (fun p=>(ek p.1,ev p.2)):=by rw [a5,List.map_append,List.map_append,p1,p4]
    have hnx:∀ ty,(Instr.next (.pointer (some ⟨bi,0,none⟩)) false ty).run E.P (w1.alloc (.mapIter (some bm) clock seen clock)) = .ok (.tuple #[.bool true,ek p.1,ev p.2]) (w2.alloc (.mapIter (some bm) clock (seen.push e.born) clock)):=by
     intro ty
     rw [hbi,← hw,← p2,← p3]
     exact hrun
    refine hcons s s' p f _ (w2.alloc (.mapIter (some bm) clock (seen.push e.born) clock)) hs hs' ((a3.objNew _).pick (List.range L.length) List.nodup_range (xD L _)) hnx ?_ fun f' h'=>xR (ih s' f' w2 (seen.push e.born) (done++[p]) (r1++r2) hrem hperm hd' hlm h' hw2h a3)
    ·rw [hbi,← hw2h,← p2,← p3]
     have he':e ∈ es.toList:=(mem_left he).1;exact run_entry_map w2 bm clock seen es clock e (by rw [hw2h]; exact hb) he' hbn.1
 refine go_loop (key m.length s0 f w #[] [] m rfl (List.Perm.refl _) rfl ?_ h0 rfl hI)
 rw [← hes]
 congr 1
 unfold leftOf
 rw [Array.toList_filter]
 exact List.filter_eq_self.2 fun x _=>by simp
end
end Go.Proofs.YtmfgddafcgflaaaE
namespace Go.Proofs.YtmfgddafcgflaaaE
open Go Go.Proofs Go.Shelf Go.Sort Go.RowKit
set_option linter.unusedVariables false
set_option linter.unusedSimpArgs false
theorem flatMap_one {α β:Type} (f:α→β):∀ xs:List α,xs.flatMap (fun x=>[f x])=xs.map f
 | []=>rfl
 | x::xs=>by rw [List.flatMap_cons,List.map_cons,flatMap_one f xs]; rfl
theorem Bf {P:Program} {ρ:Ren} (Ly:SlLaysM.n5 P ρ) {e:TypeId} (A:Option Addr) (c:Nat) (xs:List Int) (M:Mem) (w:World) (hI:Inv M w [.row (aJ .i64) e A xs.length c xs]) (r:List Int)
  (H:must (xs.length < 4611686018427387904) (some (xs.mergeSort fun x y=>decide (x≤y)))=some r) :
  Calls P (ρ.f 5) #[.slice A xs.length c] w fun e' w'=>e' = .returned (.tuple #[])∧Inv M w' [.row (aJ .i64) e A xs.length c r]:=by
 obtain ⟨hsz,H⟩:=ai H;cases H
 by_cases h0:xs=[]
 ·subst h0;refine (AnyM.slices_Sort_int_none { Ly with } A c w).mono ?_;rintro _ _ ⟨rfl,rfl⟩;exact ⟨rfl,by simpa using hI⟩
 ·obtain ⟨F1,a2,hown⟩:=hI.look (i:=0) rfl;rcases hown.1 with ⟨_,_,h⟩ | ⟨b,arr,rfl,hFb,hb,hl,hcm,harr,hseq⟩
  ·exact absurd h h0
  ·have hb:w.heap[b]? = some (.cells arr e (0,0)):=hb;have hlt:b < w.heap.size:=(Array.getElem?_eq_some_iff.1 hb).1;have ht:arr.toList.take xs.length=xs.map (Value.int .i64):=by
    have h1:=bT.flat.1 hseq
    rw [show xs.length * (aJ .i64).sz=xs.length from Nat.mul_one _] at h1
    rw [h1]
    exact flatMap_one _ xs
   refine (AnyM.slices_Sort_int Ly b 0 c xs w (holds_of_blockI hb ht) hlt hsz).mono ?_;rintro _ w' ⟨rfl,n,os,rfl⟩;refine ⟨rfl,?_⟩;have hg:=grownBy_sortedI (w:=w) (g:=b) (n:=n) (os:=os) (xs.mergeSort fun x y=>decide (x≤y)).toArray;have hlen:(xs.mergeSort fun x y=>decide (x≤y)).length=xs.length:=List.length_mergeSort _;have a1:arr.size=c * 1:=harr;refine hI.turn (i:=0) (a' := .row (aJ .i64) e (some ⟨b,0,none⟩) xs.length c (xs.mergeSort fun x y=>decide (x≤y))) rfl hg.size hg.os hg.tape hg.output ?_;rintro F hF ⟨hrow,_⟩;rcases hrow with ⟨h,_⟩ | ⟨b',arr',e',hFb',hb',_,_,_,_⟩
   ·cases h
   ·cases e';refine ⟨F,⟨.inr ⟨b,_,rfl,hFb',heap_sortedI _ hb,by omega,hcm,?_,?_⟩,hlen⟩,fun k hk hn=>hg.block k hk (fun e=>hn (by cases e; exact hFb')),fun _ h => .inl h⟩
    ·show (putCells (Value.int .i64) 0 _ arr).size=c * 1
     simp [putCells,a1]
    ·refine bT.flat.2 ?_
     rw [flatMap_one,show (xs.mergeSort fun x y=>decide (x≤y)).length * (aJ .i64).sz=(xs.mergeSort fun x y=>decide (x≤y)).length from Nat.mul_one _]
     exact take_putCellsI arr _ (by omega)
end Go.Proofs.YtmfgddafcgflaaaE
namespace Go.Proofs.YtmfgddafcgflaaaE
open Go Go.Proofs
set_option linter.unusedVariables false
set_option linter.unusedSimpArgs false
class Rf (b:Bool) (p:outParam Prop):Prop where
 iff:b=true↔p
instance Ii:Rf true True:=⟨by simp⟩
instance HV:Rf false False:=⟨by simp⟩
instance Ik {p:Prop} [Decidable p]:Rf (decide p) p:=⟨decide_eq_true_iff⟩
instance Il {α:Type} [BEq α] [LawfulBEq α] {x y:α}:Rf (x == y) (x=y):=⟨beq_iff_eq⟩
instance Im {α:Type} [BEq α] [LawfulBEq α] {x y:α}:Rf (x != y) (x≠y):=⟨bne_iff_ne⟩
instance Io {b:Bool} {p:Prop} [h:Rf b p]:Rf (!b) (¬ p):=⟨by rw [Bool.not_eq_true',← h.iff,Bool.not_eq_true]⟩
instance Ip {a b:Bool} {p q:Prop} [h:Rf a p] [h':Rf b q]:Rf (a && b) (p∧q):=⟨by rw [Bool.and_eq_true,h.iff,h'.iff]⟩
instance Iu {a b:Bool} {p q:Prop} [h:Rf a p] [h':Rf b q]:Rf (a || b) (p∨q):=⟨by rw [Bool.or_eq_true,h.iff,h'.iff]⟩
instance Iq {a b:ByteArray}:Rf (sEq a b) (a=b):=⟨Gc⟩
instance (priority:=low) Ir {b:Bool}:Rf b (b=true):=⟨Iff.rfl⟩
theorem aj {α:Type} {c:Bool} {x y:Option α} {p:Prop} {Q:α→Prop} [r:Rf c p] (h1:p→Tri x Q) (h2:¬ p→Tri y Q):Tri (bif c then x else y) Q:=by
 cases hc:c
 ·exact h2 (fun h=>by rw [← r.iff,hc] at h; cases h)
 ·exact h1 (r.iff.1 hc)
theorem dG {α β:Type} {x:Option α} {a:α} {k:α→Option β} {Q:β→Prop} (h:x=some a) (hk:Tri (k a) Q):Tri (x.bind k) Q:=by
 rw [h]; exact hk
theorem BZ {α:Type} {x:Option α} {a:α} {Q:α→Prop} (h:x=some a) (hq:Q a):Tri x Q:=⟨a,h,hq⟩
theorem bR {α β:Type} {c:Bool} {x y:Option α} {k:α→Option β} {Q:β→Prop} (h:Tri (bif c then x.bind k else y.bind k) Q):Tri ((bif c then x else y).bind k) Q:=by
 cases c <;> exact h
theorem bF {α β:Type} {a:α} {k:α→Option β} {Q:β→Prop} (h:Tri (k a) Q):Tri ((some a).bind k) Q:=h
theorem bN {α β:Type} {c:Prop} [Decidable c] {x:Option α} {k:α→Option β} {Q:β→Prop} (h:Tri (must c (x.bind k)) Q):Tri ((must c x).bind k) Q:=by
 obtain ⟨a,h,hq⟩:=h;obtain ⟨hc,hx⟩:=ai h
 rw [iC _ hc]
 exact ⟨a,hx,hq⟩
theorem bS {α β γ:Type} {x:Option α} {j:α→Option β} {k:β→Option γ} {Q:γ→Prop} (h:Tri (x.bind fun a=>(j a).bind k) Q):Tri ((x.bind j).bind k) Q:=by
 cases x with
 | none=>exact h
 | some a=>exact h
theorem bz {x:Int} (h0 : -9223372036854775808≤x) (h1:x≤9223372036854775807):w64 x=x:=rW (by omega) (by omega)
def Nxt {Ω:Type} (n k:Nat) (p:Nat→Prop) (Q:Ω→Prop):Int ⊕ Ω→Prop
 | .inl s'=>s'=((k + 1:Nat):Int)∧k < n∧p k
 | .inr o=>Q o
theorem lV {Ω:Type} {step:Int→Option (Int ⊕ Ω)} {Q:Ω→Prop} (n:Nat) (p:Nat→Prop) 
  (hs:∀ k:Nat,k≤n→(∀ j,j < k→p j)→Tri (step (k:Int)) (Nxt n k p Q)):Tri (iter step 0) Q:=by
 refine Ef n (fun k=>∀ j,j < k→p j) (fun j h=>absurd h (Nat.not_lt_zero _)) (fun k hk hJ=>dA (hs k hk hJ) ?_);rintro (s | o) h
 ·refine ⟨h.1,h.2.1,fun j hj => ?_⟩;rcases Nat.lt_or_ge j k with h1 | h1
  ·exact hJ j h1
  ·rw [show j=k by omega]; exact h.2.2
 ·exact h
def oN {α:Type} [Inhabited α] (l:List α) (p:α→Prop):Prop:=∀ j:Nat,j < l.length→p (idx l (j:Int))
theorem rT {α:Type} [Inhabited α] {l:List α} {p:α→Prop}:oN l p↔∀ x ∈ l,p x:=by
 constructor
 ·intro h x hx;obtain ⟨j,hj,rfl⟩:=List.getElem_of_mem hx;have:=h j hj
  rwa [dE rfl hj] at this
 ·intro h j hj
  rw [dE rfl hj]
  exact h _ (List.getElem_mem hj)
theorem kX {α:Type} [Inhabited α] {l:List α} {k:Nat} (hk:k≤l.length):bV l 0 (k:Int)=l.take k:=by
 unfold bV
 simp
theorem oo {α:Type} [Inhabited α] {l:List α} {k j:Nat} (h:j < k):idx (l.take k) (j:Int)=idx l (j:Int):=by
 unfold idx
 simp only [Int.toNat_natCast,List.getD_eq_getElem?_getD,List.getElem?_take]
 rw [if_pos h]
theorem iR {α:Type} [Inhabited α] {l m:List α} {j:Nat} (h:j < l.length):idx (l++m) (j:Int)=idx l (j:Int):=by
 unfold idx
 simp only [Int.toNat_natCast,List.getD_eq_getElem?_getD,List.getElem?_append_left h]
theorem gG {α:Type} [Inhabited α] {l:List α} {x:α} {j:Nat} (h:j=l.length):idx (l++[x]) (j:Int)=x:=by
 subst h;unfold idx
 simp
theorem oq {α:Type} [Inhabited α] {l:List α} {k j:Nat} {v:α} (h:k < l.length):idx (l.set k v) (j:Int)=if j=k then v else idx l (j:Int):=by
 have:=FV (xs:=l) (i:=(k:Int)) (j:=j) (v:=v) (by omega) (by omega)
 simp only [Int.toNat_natCast] at this
 rw [this]
 by_cases e:j=k
 ·simp [e]
 ·rw [if_neg e,if_neg (by omega)]
theorem sJ {α β:Type} [Inhabited α] [Inhabited β] {f:α→β} {l:List α} {k:Nat} (h:k < l.length):idx (l.map f) (k:Int)=f (idx l (k:Int)):=by
 rw [dE rfl (by simpa using h),dE rfl h,List.getElem_map]
theorem mD {α:Type} [Inhabited α] {l:List α} {k:Nat} (h:k < l.length):l.take (k + 1)=l.take k++[idx l (k:Int)]:=by
 rw [dE rfl h,List.take_succ_eq_append_getElem h]
theorem rU {κ ν:Type} [DecidableEq κ] {m:List (κ×ν)} {k x:κ} {v:ν}:jl (eB m k v) x=true↔x=k∨jl m x=true:=by
 induction m with
 | nil=>simp [eB,jl,eq_comm]
 | cons p m ih =>
  unfold eB
  by_cases e:p.1=k
  ·rw [if_pos e]
   simp only [jl,List.any_cons,Bool.or_eq_true,decide_eq_true_eq]
   constructor
   ·rintro (h | h)
    ·exact .inl h.symm
    ·exact .inr (.inr h)
   ·rintro (h | h | h)
    ·exact .inl h.symm
    ·exact .inl (e ▸ h)
    ·exact .inr h
  ·rw [if_neg e]
   simp only [jl,List.any_cons,Bool.or_eq_true,decide_eq_true_eq] at ih ⊢
   rw [ih]
   constructor
   ·rintro (h | h | h)
    ·exact .inr (.inl h)
    ·exact .inl h
    ·exact .inr (.inr h)
   ·rintro (h | h | h)
    ·exact .inr (.inl h)
    ·exact .inl h
    ·exact .inr (.inr h)
theorem lW {κ ν:Type} [DecidableEq κ] [Inhabited ν] {m:List (κ×ν)} {k x:κ} {v:ν}:mat (eB m k v) x=if x=k then v else mat m x:=by
 induction m with
 | nil =>
  by_cases e:x=k
  ·simp [eB,mat,e]
  ·have e':¬ k=x:=fun h=>e h.symm
   simp [eB,mat,e,e']
 | cons p m ih =>
  unfold eB
  by_cases e:p.1=k
  ·rw [if_pos e]
   by_cases e2:x=k
   ·simp [mat,e2]
   ·have e':¬ k=x:=fun h=>e2 h.symm;have e3:¬ p.1=x:=fun h=>e2 (h.symm.trans e)
    simp [mat,e2,e',e3]
  ·rw [if_neg e]
   by_cases e2:p.1=x
   ·have e3:¬ x=k:=fun h=>e (e2.trans h)
    simp [mat,e2,e3]
   ·simp [mat,e2,ih]
theorem zU {κ ν:Type} [DecidableEq κ] {x:κ}:jl ([]:List (κ×ν)) x=false:=rfl
theorem FT {κ ν:Type} [DecidableEq κ] [Inhabited ν] {x:κ}:mat ([]:List (κ×ν)) x=default:=rfl
def Lock {σ τ Ω Ψ:Type} (n k:Nat) (I:Nat→σ→τ→Prop) (Q:Ω→Ψ→Prop):σ ⊕ Ω→τ ⊕ Ψ→Prop
 | .inl s,.inl t=>k < n∧I (k + 1) s t
 | .inr o,.inr p=>Q o p
 | _,_=>False
theorem yw {σ τ Ω Ψ:Type} {f:σ→Option (σ ⊕ Ω)} {g:τ→Option (τ ⊕ Ψ)} {Q:Ω→Ψ→Prop} (n:Nat) (I:Nat→σ→τ→Prop) {s:σ} {t:τ} {k0:Nat} (a1:k0≤n) (h0:I k0 s t)
  (hs:∀ (k:Nat) (s:σ) (t:τ),k≤n→I k s t→Tri (f s) (fun x=>Tri (g t) (Lock n k I Q x))):Tri (iter f s) (fun o=>Tri (iter g t) (Q o)):=by
 generalize hd:n - k0=d
 induction d using Nat.strongRecOn generalizing k0 s t with
 | ind d ih =>
  obtain ⟨x,hx,y,hy,hr⟩:=hs k0 s t a1 h0
  rw [wT,hx,wT,hy]
  cases x with
  | inl s' =>
   cases y with
   | inl t'=>exact ih (n - (k0 + 1)) (by have:=hr.1; omega) (k0:=k0 + 1) (by have:=hr.1; omega) hr.2 rfl
   | inr p=>exact hr.elim
  | inr o =>
   cases y with
   | inl t'=>exact hr.elim
   | inr p=>exact ⟨o,rfl,p,rfl,hr⟩
end Go.Proofs.YtmfgddafcgflaaaE
