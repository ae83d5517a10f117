import Derived.Test.YtfpeabnehpclnaaGreatDoorXB
import Derived.OrdersIn
import Derived.Laws.IdiomRangeMap
import Derived.Shelf.SortM.Plain
import Derived.Shelf.SortM.SortNone
import Derived.Sort.OwnSortedInts
import Derived.Test.YtfpeabnehpclnaaGreatDoorR
import Derived.ProofKit
import Derived.Deep.Slices
import Derived.Carry
import Derived.OpenShut
import Derived.WideShapes
import Derived.Lib.LaidTab
namespace Go.Proofs.YtfpeabnehpclnaaGreatDoorE
open Go Go.Proofs
set_option linter.unusedVariables false
set_option linter.unusedSimpArgs false
def oF (ro:Option Nat):Fence:={ Fence.wide with round:=ro }
def zN (ops:Array Oper):Bool:=ops.toList.all fun o=>match o.op with | .defer _=>false | _=>true
section
variable {P:Program} {md:Region.Mode} {ops:Array Oper} {w:World} {n:Nat} {ro:Option Nat}
theorem Dt (h:zN ops=true) {i:Nat} {o:Oper} (hi:ops[i]? = some o):∀ c,o.op ≠ .defer c:=by
 intro c e;have hm:o ∈ ops.toList:=by
  rw [← Array.getElem?_toList] at hi
  exact List.mem_of_getElem? hi
 have:=List.all_eq_true.1 h o hm
 rw [e] at this
 cases this
theorem Rp {o:Oper} {a:Act} {K:Act→Prop} {K':Act→World→Prop} {Q':Exit→Act→World→Prop} (hd:∀ c,o.op ≠ .defer c) (h:∀ a,K a→K' a w) (hh:o.still P a w K):o.wpIn (oF ro) n P a w K' Q':=by
 unfold Oper.still at hh;unfold Oper.wpIn;refine ⟨fun _ _=>trivial,?_⟩
 rw [Oper.semAt_eq _ _ _ hd]
 generalize (execOp a.eval o).run P w=r at *;cases r with
 | ok m w' =>
  cases m <;> simp only [Oper.stillUpon] at hh <;> simp only [Oper.uponIn]
  case enter f args =>
   obtain ⟨rfl,v,hc,hn⟩:=hh;refine ⟨fun h=>(by cases h),?_⟩;refine (callsIn_wide.2 (hc.mono fun e w'' he => ?_):CallsIn Fence.wide (n - 1) P f args _ _);obtain ⟨rfl,rfl⟩:=he;exact h _ hn
  all_goals (obtain ⟨rfl,h2⟩:=hh; exact h _ h2)
 | halt x w'=>simp only [Oper.stillUpon] at hh
theorem Sj (hn:zN ops=true) {i:Nat} {a:Act} {K:Act→Prop} {K':Act→World→Prop} {Q':Exit→Act→World→Prop} (h:∀ a,K a→K' a w) (hh:stOp P ops w i K a):wpOpIn (oF ro) n P ops Q' i K' a w:=by
 unfold stOp at hh;unfold wpOpIn;cases ho:ops[i]? with
 | none=>rw [ho] at hh; exact h _ hh
 | some o =>
  rw [ho] at hh
  dsimp only at hh ⊢
  by_cases hw:Region.wanted o (yielded ops a.tmps)=true
  ·rw [if_pos hw] at hh ⊢
   exact Rp (Dt hn ho) h hh
  ·rw [if_neg hw] at hh ⊢
   exact ⟨fun _ _=>trivial,h _ hh⟩
theorem AP (hn:zN ops=true) {m g:Nat} {L:Array Bool→Act→Prop} {Q':Exit→Act→World→Prop} (hL:∀ listed a,L listed a→wpAnyIn (oF ro) n P md ops Q' g listed a w) :
  ∀ (f:Nat) (listed:Array Bool) (a:Act),wpAnyL P md ops w m L f listed a→wpAnyIn (oF ro) n P md ops Q' (f + g) listed a w
 | 0,listed,a,h=>by rw [Nat.zero_add]; exact hL _ _ h
 | f + 1,listed,a,h=>by
  rw [show f + 1 + g=(f + g) + 1 by omega]
  exact ⟨fun h0=>absurd h0 h.1,fun i hi=>Sj hn (fun a' h'=>AP hn hL f _ a' h') (h.2 i hi).2⟩
theorem HY {Q':Exit→Act→World→Prop} {o:Oper} {i:Nat} {listed:Array Bool} {a:Act} {w:World} (ho:ops[i]? = some o) (hB:Region.seqB md ops 1 i listed=true)
  (h:wpOpIn (oF ro) n P ops Q' i (fun a' w'=>Q' .normal a' w') a w):wpAnyIn (oF ro) n P md ops Q' 1 listed a w:=by
 simp only [Region.seqB,Bool.and_eq_true,decide_eq_true_eq] at hB
 refine ⟨fun h1=>(by rw [hB.1] at h1; cases h1),fun j hj => ?_⟩
 rw [hB.1] at hj
 have hij:j=i:=by simpa using hj
 subst hij;exact wpOpIn_mono (fun a' w' h'=>⟨by simpa using hB.2,h'⟩) h
end
section
variable {E:Env} {k:List Item} {f:Nat→Value} {w:World} {M:Mem} {L:List bV}
theorem Nn {c:Code} (h:c.wpIn (oF E.ro) 0 E.P (fun e a w'=>e = .normal∧∃ f,a=E.fr f∧Go E k f w') (E.fr f) w):Go E (.code c::k) f w:=by
 obtain ⟨e,a',w',⟨rfl,f',rfl,hg⟩,harr⟩:=h E.b k E.cs rfl trivial (room_wide _);exact .steps (StepsIn.steps harr) hg
theorem Dc {l:List Oper} {Q:Act→Prop}:∀ {n i:Nat} {f:Nat→Value} {K:(Nat→Value)→Prop},(∀ f,K f→Q (E.fr f))→Rd E.P E.N l.toArray w n i f K →
  wpStill E.P l.toArray w Q ((l.drop i).take n) (E.fr f)
 | 0,i,f,K,hK,h=>by simpa [wpStill] using hK f h
 | n + 1,i,f,K,hK,⟨o,ho,h⟩=>by
  have ho':l[i]? = some o:=by simpa using ho
  have hlt:i < l.length:=(List.getElem?_eq_some_iff.1 ho').1;have hl:(l.drop i).take (n + 1)=o::(l.drop (i + 1)).take n:=by
   rw [List.drop_eq_getElem_cons hlt,List.take_succ_cons]
   congr 1
   exact (List.getElem?_eq_some_iff.1 ho').2
  rw [hl]
  simp only [wpStill]
  rw [show Region.wanted o (yielded l.toArray (E.fr f).tmps)=wants E.N l.toArray f o from mQ E.N _ f o]
  rcases h with ⟨hw,h⟩ | ⟨v,hw,hr,h⟩
  ·rw [hw,if_neg (by simp),uX]
   exact Dc hK h
  ·rw [hw,if_pos rfl]
   unfold Oper.still
   rw [uo,hr,Oper.stillUpon_value,uX]
   exact Dc hK h
theorem Sk {o:Oper} {ops:Array Oper} {i:Nat} (hn:zN ops=true) (ho:ops[i]? = some o) (hw:wants E.N ops f o=true) (h:Eff E.P o (ev E.N f) w (fun v w'=>Go E k (qJ f o.dst v) w')) :
  wpOpIn (oF E.ro) 0 E.P ops (fun e a w'=>e = .normal∧∃ f,a=E.fr f∧Go E k f w') i (fun a w'=>Exit.normal = .normal∧∃ f,a=E.fr f∧Go E k f w') (E.fr f) w:=by
 unfold wpOpIn
 rw [ho]
 dsimp only
 rw [show Region.wanted o (yielded ops (E.fr f).tmps)=wants E.N ops f o from mQ E.N _ f o,hw,if_pos rfl]
 refine ⟨fun _ _=>trivial,?_⟩
 rw [Oper.semAt_eq _ _ _ (Dt hn ho),uo]
 replace h:=h.out;cases hr:(execOp (ev E.N f) o).run E.P w with
 | halt x w'=>rw [hr] at h; exact h.elim
 | ok m w' =>
  rw [hr] at h
  cases m <;> first
   | (dsimp only [Fy,Oper.uponIn] at h ⊢; rw [uX]; exact ⟨rfl,_,rfl,h⟩)
   | (dsimp only [Fy,Oper.uponIn] at h ⊢; refine ⟨fun h=>(by cases h),(callsIn_wide.2 (Calls.mono h ?_):CallsIn Fence.wide _ E.P _ _ _ _)⟩; rintro e w'' ⟨v,rfl,h'⟩; dsimp only; rw [uX]; exact ⟨rfl,_,rfl,h'⟩)
   | exact h.elim
theorem Md {id:Nat} {l:List Oper} (m:Nat) (o:Oper) (G:List Grp) (hs:List Hint) (us:List (Nat×Value)) (bs:List (Int×Nat))
  (hm:E.P.follows .mixedOrders=true) (hB:Region.lexTailB .any l.toArray m=true) (hl:hs.length=m) (ho:l.drop m=[o])
  (hG:pV w G) (hb':uW bs) (hr:lL (iU E.P E.N l.toArray G hs 0 f)=some (bq f us)) (ha:ig (iU E.P E.N l.toArray G hs 0 f) true=ig (iU E.P E.N l.toArray G hs 0 f) false)
  (hb:uH (iU E.P E.N l.toArray G hs 0 f)=bs) (hw:wants E.N l.toArray (bq f us) o=true) (hI:Inv M w L)
  (h:∀ w',Inv M w' L→hp w'=hp w→Eff E.P o (ev E.N (bq f us)) w' (fun v w''=>Go E k (qJ (bq f us) o.dst v) w'')) (hnd:zN l.toArray=true:=by kernel_rfl):Go E (.code (.region id l.toArray true)::k) f w:=by
 refine Nn (wpIn_region_any hm ?_)
 simp only [Region.lexTailB,Bool.and_eq_true,decide_eq_true_eq] at hB
 obtain ⟨⟨⟨⟨hsel,hn⟩,hs'⟩,hc⟩,hlex⟩:=hB;have hn':m < l.length:=by simpa using hn
 have hlen:l.length=m + 1:=by
  have:=congrArg List.length ho
  rw [List.length_drop,List.length_singleton] at this
  omega
 have htl:(l.take m).length=m:=by simp; omega
 have a2:l.toArray.size - m=1:=by simp; omega
 have hom:l.toArray[m]? = some o:=by
  have:(l.drop m)[0]? = some o:=by rw [ho]; rfl
  rw [List.getElem?_drop] at this
  simpa using this
 have a1:HeadInv .any l.toArray m (Array.replicate l.toArray.size false) :=
  ⟨by simp,fun j oj _ hl=>(by rw [getD_replicate_false] at hl; cases hl),fun t _ ht=>getD_in (by simpa using ht) (getD_replicate_false _ _)⟩
 have h1:Rd E.P E.N l.toArray w.drew (hs.length + 0) 0 f (fun f'=>f'=bq f us):=FB (n:=0) 0 G hs us bs (Dj hG) hb' hr ha hb rfl
 rw [Nat.add_zero,hl] at h1
 have h2:=Dc (E:=E) (Q:=fun a'=>a'=E.fr (bq f us)) (fun f' h'=>by rw [h']) h1;have H:=wpAnyL_lex (P:=E.P) (w:=w.drew) (md := .any) (g:=l.toArray.size - m) hsel hs' hc hn (l.take m) 0 (Array.replicate l.toArray.size false) (E.fr f) (fun j hj=>by
  have hj':j < m:=by rw [htl] at hj; exact hj
  simp [hj']) (by simpa using htl) a1 (by rw [htl]; exact hlex) (by simpa using h2)
 have:=AP (ro:=E.ro) (n:=0) (Q':=fun e a w'=>e = .normal∧∃ f,a=E.fr f∧Go E k f w') hnd (g:=l.toArray.size - m) (fun listed a' hL=>by
  obtain ⟨hq,rfl⟩:=hL
  rw [a2] at hq ⊢
  exact HY hom hq (Sk hnd hom hw (h _ hI.drew' rfl))) _ _ _ H
 rw [htl,show m + (l.toArray.size - m)=l.toArray.size by omega] at this
 exact this
end
end Go.Proofs.YtfpeabnehpclnaaGreatDoorE
namespace Go.Proofs.YtfpeabnehpclnaaGreatDoorE
open Go Go.Proofs
set_option linter.unusedVariables false
set_option linter.unusedSimpArgs false
open Classical in
noncomputable def BP {σ α:Type} (step:σ→α→Option σ) (s0:σ) (m:List α):Option σ :=
 if h:∃ R,∀ l:List α,l.Perm m→l.foldlM step s0=some R then some h.choose else none
theorem Hy {σ α:Type} {step:σ→α→Option σ} {s0 R:σ} {m:List α} (h:BP step s0 m=some R):∀ l:List α,l.Perm m→l.foldlM step s0=some R:=by
 unfold BP at h
 split at h
 ·rename_i hx
  rw [← Option.some.inj h]
  exact hx.choose_spec
 ·cases h
theorem KH {σ α:Type} {step:σ→α→Option σ} {s0 R:σ} {m:List α} (h:∀ l:List α,l.Perm m→l.foldlM step s0=some R):BP step s0 m=some R:=by
 unfold BP;have hx:∃ R,∀ l:List α,l.Perm m→l.foldlM step s0=some R:=⟨R,h⟩
 rw [dif_pos hx]
 have h1:=hx.choose_spec m (List.Perm.refl _)
 rw [h m (List.Perm.refl _)] at h1
 exact h1.symm
section
variable {P:Program}
theorem Ff (w:World) (ty:TypeId) (bm since:Nat) (seen:Array Nat) (es:Array MapEntry) (hb:w.heap[bm]? = some (.map es since)) (hold:∀ x ∈ es.toList,x.born < since) :
  ((leftOf es seen).size=0∧(Instr.next (.pointer (some ⟨w.heap.size,0,none⟩)) false ty).run P (w.alloc (.mapIter (some bm) since seen since)) = .ok (.tuple #[.bool false]) (w.alloc (.mapIter (some bm) since seen since))) ∨
  ∃ e ∈ (leftOf es seen).toList,∃ w1:World,(w1=w∨w1=w.drew)∧(Instr.next (.pointer (some ⟨w.heap.size,0,none⟩)) false ty).run P (w.alloc (.mapIter (some bm) since seen since)) = .ok (.tuple #[.bool true,e.key,e.val]) (w1.alloc (.mapIter (some bm) since (seen.push e.born) since)):=by
 have hlt:bm < w.heap.size:=by
  rcases Nat.lt_or_ge bm w.heap.size with h | h
  ·exact h
  ·simp [Array.getElem?_eq_none h] at hb
 have hb':(w.alloc (.mapIter (some bm) since seen since)).heap[bm]? = some (.map es since):=by rw [heap_alloc_old w _ hlt,hb]
 simp only [Instr.next,getObj,Sem.run_bind,Sem.run,heap_alloc_new,hb',Result.andThen,next_test_false seen es since since hold (Nat.le_refl _),Bool.false_eq_true,if_false]
 unfold leftOf;have hmem:∀ x ∈ (Array.filter (fun e => !seen.contains e.born) es).toList,x.born < since:=fun x hx=>hold x (by simp at hx ⊢; exact hx.1);generalize Array.filter (fun e => !seen.contains e.born) es=L at hmem ⊢;have e1:L.filter (fun x=>decide (x.born < since))=L:=Array.filter_eq_self.2 (fun x hx=>by simpa using hmem x (by simpa using hx))
 have e2:L.filter (fun x=>decide (x.born ≥ since)) = #[]:=by
  rw [Array.filter_eq_empty_iff]
  intro x hx;have:=hmem x (by simpa using hx)
  simp
  omega
 simp only [e1,e2,Array.append_empty]
 by_cases h0:L.size=0
 ·left
  have:L = #[]:=Array.eq_empty_of_size_eq_zero h0;subst this;refine ⟨rfl,?_⟩
  simp [choose,Sem.run,Question.forced]
 ·right
  have hne:L.isEmpty=false:=by simp [Array.isEmpty,h0]
  simp only [hne,Bool.false_eq_true,if_false,Array.empty_append,Array.size_map]
  have hch:∃ (j:Nat) (w1:World),j < L.size∧(w1=w∨w1=w.drew)∧(choose (Question.mapNext L.size)).run P (w.alloc (.mapIter (some bm) since seen since)) = .ok j (w1.alloc (.mapIter (some bm) since seen since)):=by
   by_cases hf:L.size≤1
   ·exact ⟨0,w,by omega,.inl rfl,by simp [choose,Sem.run,Question.forced,hf]⟩
   ·exact ⟨_,w.drew,Nat.mod_lt _ (by omega),.inr rfl,by
     simp only [choose,Sem.run,Question.forced,decide_eq_true_eq,hf,if_false,Question.cut]
     rfl⟩
  obtain ⟨j,w1,hj,hal,hrun⟩:=hch;refine ⟨L[j],by simp,w1,hal,?_⟩
  have hsz:w1.heap.size=w.heap.size:=by rcases hal with rfl | rfl <;> rfl
  have hp:∀ (h:Array Obj) (x y:Obj),(h.push x).setIfInBounds h.size y=h.push y:=by
   intro h x y
   apply Array.toList_inj.1
   simp
  have hset:∀ (a:Option Nat) (b:Nat) (c:Array Nat) (d:Nat) (o':Obj),(setObj w.heap.size o').run P (w1.alloc (.mapIter a b c d)) = .ok () (w1.alloc o'):=fun a b c d o'=>by
   simp only [setObj,Sem.run]
   rw [← hsz,heap_alloc_new]
   show Result.ok () ({ w1.alloc (.mapIter a b c d) with heap:=(w1.heap.push (.mapIter a b c d)).setIfInBounds w1.heap.size o' }:World)=_
   rw [hp]
   rfl
  simp only [hrun,Array.getElem?_map,Array.getElem?_eq_getElem hj,Option.map_some,Sem.run_bind,hset,Result.andThen]
  rfl
theorem KI {es:Array MapEntry} {seen:Array Nat} {e:MapEntry} (hn:(es.toList.map (·.born)).Nodup) (he:e ∈ (leftOf es seen).toList) :
  ∃ l1 l2,(leftOf es seen).toList=l1++e::l2∧(leftOf es (seen.push e.born)).toList=l1++l2:=by
 obtain ⟨l1,l2,h⟩:=List.append_of_mem he;refine ⟨l1,l2,h,?_⟩;have h1:(leftOf es (seen.push e.born)).toList=(leftOf es seen).toList.filter (fun x => !(x.born == e.born)):=by
  unfold leftOf
  rw [Array.toList_filter,Array.toList_filter,List.filter_filter]
  congr 1
  funext x
  rw [contains_push]
  cases seen.contains x.born <;> simp [Bool.beq_comm,eq_comm]
 have h2:((leftOf es seen).toList.map (·.born)).Nodup:=by
  unfold leftOf
  rw [Array.toList_filter]
  exact hn.sublist ((List.filter_sublist (l:=es.toList)).map _)
 rw [h1,h]
 rw [h,List.map_append,List.map_cons,List.nodup_append,List.nodup_cons] at h2
 obtain ⟨_,⟨h4,_⟩,h6⟩:=h2
 rw [List.filter_append,List.filter_cons]
 have q1:l1.filter (fun x => !(x.born == e.born))=l1:=List.filter_eq_self.2 fun x hx=>by
  have:=h6 x.born (List.mem_map_of_mem hx) e.born (by simp)
  simpa using this
 have q2:l2.filter (fun x => !(x.born == e.born))=l2:=List.filter_eq_self.2 fun x hx=>by
  have:x.born≠e.born:=fun q=>h4 (q ▸ List.mem_map_of_mem hx)
  simpa using this
 rw [q1,q2]
 simp
end
theorem Fg.{u} {α:Type u} (L x:List α):(List.range L.length).map ((L++x)[·]?)=L.map some:=by
 apply List.ext_getElem?
 intro i
 by_cases hi:i < L.length
 ·rw [List.getElem?_map,List.getElem?_range hi,List.getElem?_map,List.getElem?_eq_getElem hi]
  simp [List.getElem?_append_left hi,List.getElem?_eq_getElem hi]
 ·rw [List.getElem?_eq_none (by simp; omega),List.getElem?_eq_none (by simp; omega)]
section
variable {E:Env} {k:List Item} {f:Nat→Value} {w:World} {M:Mem} {L:List bV}
variable {κ ν:Type} {ek:κ→Value} {ev:ν→Value}
theorem Rn {P:Program} {o:Oper} {ev_:Operand→Value} {K:Value→World→Prop} {t kt et:TypeId} {x:Operand} {bm:Nat} {m:List (κ×ν)} (hop:o.op = .range t x) (hm:jr ek ev (hp w) bm m)
  (h:∀ es clock bi,bi=w.heap.size→w.heap[bm]? = some (.map es clock)→es.toList.map (fun e=>(e.key,e.val))=m.map (fun p=>(ek p.1,ev p.2))→yG es clock→K (.pointer (some ⟨bi,0,none⟩)) (w.alloc (.mapIter (some bm) clock #[] clock)))
  (hx:ev_ x = .map (some bm):=by kernel_rfl) (ht:P.underlying t=some (.map kt et):=by kernel_rfl):Eff P o ev_ w K:=by
 obtain ⟨es,clock,hb,hes,hbn⟩:=hm;have hb:w.heap[bm]? = some (.map es clock):=hb;refine gX _ ?_ (h es clock _ rfl hb hes hbn)
 simp only [execOp,hop,hx,Sem.run_bind,run_range_map w t kt et bm es clock ht hb,Result.andThen,Sem.run,pure]
theorem Jy {P:Program} {o:Oper} {ev_:Operand→Value} {w w':World} {K:Value→World→Prop} {x:Operand} {it v:Value} (hop:o.op = .next x false) (h:∀ ty,(Instr.next it false ty).run P w = .ok v w') (hk:K v w')
  (hx:ev_ x=it:=by kernel_rfl):Eff P o ev_ w K:=gX v (by simp only [execOp,hop,hx,Sem.run_bind,h,Result.andThen,Sem.run,pure]) hk
theorem Nj {P:Program} {o:Oper} {ev_:Operand→Value} {w w':World} {K:Value→World→Prop} {x:Operand} {it v:Value} (hop:o.op = .entry x) (h:(Instr.entry it).run P w = .ok v w') (hk:K v w')
  (hx:ev_ x=it:=by kernel_rfl):Eff P o ev_ w K:=gX v (by simp only [execOp,hop,hx,Sem.run_bind,h,Result.andThen,Sem.run,pure]) hk
theorem KJ {σ:Type} {c:Code} {step:σ→κ×ν→Option σ} {s0 R:σ} {m:List (κ×ν)} {bm bi clock:Nat} {es:Array MapEntry} (St:σ→(Nat→Value)→Prop) (hR:∀ l:List (κ×ν),l.Perm m→l.foldlM step s0=some R)
  (hbi:bi=w.heap.size) (hb:w.heap[bm]? = some (.map es clock)) (hes:es.toList.map (fun e=>(e.key,e.val))=m.map (fun p=>(ek p.1,ev p.2))) (hbn:yG es clock) (hI:Inv M w L) (h0:St s0 f)
  (hnil:∀ f w',St R f→Inv M w' L→(∀ ty,(Instr.next (.pointer (some ⟨bi,0,none⟩)) false ty).run E.P w' = .ok (.tuple #[.bool false]) w')→Go E (.code c :: .inLoop c::k) f w')
  (hcons:∀ s s' p f w1 w2,St s f→step s p=some s'→Inv M w2 L→(∀ ty,(Instr.next (.pointer (some ⟨bi,0,none⟩)) false ty).run E.P w1 = .ok (.tuple #[.bool true,ek p.1,ev p.2]) w2) →
   ((Instr.entry (.pointer (some ⟨bi,0,none⟩))).run E.P w2 = .ok (.tuple #[ek p.1,ev p.2]) w2)→(∀ f',St s' f'→Go E (.inLoop c::k) f' w2)→Go E (.code c :: .inLoop c::k) f w1) :
  Go E (.code (.loop c)::k) f (w.alloc (.mapIter (some bm) clock #[] clock)):=by
 have key:∀ (n:Nat) (s:σ) (f:Nat→Value) (w1:World) (seen:Array Nat) (done rem:List (κ×ν)),rem.length=n→(done++rem).Perm m→done.foldlM step s0=some s →
   (leftOf es seen).toList.map (fun e=>(e.key,e.val))=rem.map (fun p=>(ek p.1,ev p.2))→St s f→w1.heap=w.heap→Inv M w1 L→Go E (.code c :: .inLoop c::k) f (w1.alloc (.mapIter (some bm) clock seen clock)):=by
  intro n
  induction n with
  | zero =>
   intro s f w1 seen done rem hn hp hd hl hs hw a2;have hr:rem=[]:=List.eq_nil_of_length_eq_zero hn;subst hr
   rw [List.append_nil] at hp
   have hsR:s=R:=Option.some.inj (hd.symm.trans (hR _ hp));subst hsR;have a1:w1.heap[bm]? = some (.map es clock):=by rw [hw]; exact hb
   rcases Ff (P:=E.P) w1 0 bm clock seen es a1 (fun x hx=>hbn.2 _ (List.mem_map_of_mem hx)) with ⟨h1,_⟩ | ⟨e,he,_⟩
   ·refine hnil f _ hs ((a2.objNew _).pick (List.range L.length) List.nodup_range (Fg L _)) fun ty => ?_
    ·rcases Ff (P:=E.P) w1 ty bm clock seen es a1 (fun x hx=>hbn.2 _ (List.mem_map_of_mem hx)) with ⟨_,h2⟩ | ⟨e,he,_⟩
     ·rw [hbi,← hw]; exact h2
     ·have:(leftOf es seen).toList=[]:=by simpa using hl
      rw [this] at he
      cases he
   ·have:(leftOf es seen).toList=[]:=by simpa using hl
    rw [this] at he
    cases he
  | succ n ih =>
   intro s f w1 seen done rem hn hp hd hl hs hw a2;have a1:w1.heap[bm]? = some (.map es clock):=by rw [hw]; exact hb
   rcases Ff (P:=E.P) w1 0 bm clock seen es a1 (fun x hx=>hbn.2 _ (List.mem_map_of_mem hx)) with ⟨h1,_⟩ | ⟨e,he,w2,a3,hrun⟩
   ·have h3:=congrArg List.length hl
    rw [List.length_map,List.length_map,Array.length_toList] at h3
    omega
   ·obtain ⟨l1,l2,a5,a6⟩:=KI hbn.1 he;have hsplit:∃ r1 p r2,rem=r1++p::r2∧l1.map (fun e=>(e.key,e.val))=r1.map (fun p=>(ek p.1,ev p.2))∧e.key=ek p.1∧e.val=ev p.2∧l2.map (fun e=>(e.key,e.val))=r2.map (fun p=>(ek p.1,ev p.2)):=by
     rw [a5,List.map_append,List.map_cons] at hl
     obtain ⟨r1,r2',q1,q2,q3⟩:=List.map_eq_append_iff.1 hl.symm;obtain ⟨p,r2,q4,q5,q6⟩:=List.map_eq_cons_iff.1 q3;subst q4;exact ⟨r1,p,r2,q1,q2.symm,(congrArg Prod.fst q5).symm,(congrArg Prod.snd q5).symm,q6.symm⟩
    obtain ⟨r1,p,r2,rfl,p1,p2,p3,p4⟩:=hsplit;have hperm:(done++[p]++(r1++r2)).Perm m:=by
     refine List.Perm.trans ?_ hp
     rw [List.append_assoc]
     exact List.Perm.append_left _ (show (p::(r1++r2)).Perm (r1++p::r2) from List.perm_middle.symm)
    obtain ⟨s',hs'⟩:∃ s',step s p=some s':=by
     have:=hR _ hperm
     rw [List.append_assoc,List.foldlM_append,hd] at this
     cases hq:step s p with
     | some s'=>exact ⟨s',rfl⟩
     | none=>simp [List.foldlM_cons,hq] at this
    have hd':(done++[p]).foldlM step s0=some s':=by rw [List.foldlM_append,hd]; simp [List.foldlM_cons,hs']
    have hw2h:w2.heap=w.heap:=by rcases a3 with rfl | rfl <;> exact hw
    have a4:Inv M w2 L:=by rcases a3 with rfl | rfl; exact a2; exact a2.drew'
    have hrem:(r1++r2).length=n:=by
     simp only [List.length_append,List.length_cons] at hn ⊢
     omega
    have hlm:(leftOf es (seen.push e.born)).toList.map (fun e=>(e.key,e.val))=(r1++r2).map (fun p=>(ek p.1,ev p.2)):=by rw [a6,List.map_append,List.map_append,p1,p4]
    have hnx:∀ ty,(Instr.next (.pointer (some ⟨bi,0,none⟩)) false ty).run E.P (w1.alloc (.mapIter (some bm) clock seen clock)) = .ok (.tuple #[.bool true,ek p.1,ev p.2]) (w2.alloc (.mapIter (some bm) clock (seen.push e.born) clock)):=by
     intro ty
     rw [hbi,← hw,← p2,← p3]
     exact hrun
    refine hcons s s' p f _ (w2.alloc (.mapIter (some bm) clock (seen.push e.born) clock)) hs hs' ((a4.objNew _).pick (List.range L.length) List.nodup_range (Fg L _)) hnx ?_ fun f' h'=>FD (ih s' f' w2 (seen.push e.born) (done++[p]) (r1++r2) hrem hperm hd' hlm h' hw2h a4)
    ·rw [hbi,← hw2h,← p2,← p3]
     have he':e ∈ es.toList:=(mem_left he).1;exact run_entry_map w2 bm clock seen es clock e (by rw [hw2h]; exact hb) he' hbn.1
 refine go_loop (key m.length s0 f w #[] [] m rfl (List.Perm.refl _) rfl ?_ h0 rfl hI)
 rw [← hes]
 congr 1
 unfold leftOf
 rw [Array.toList_filter]
 exact List.filter_eq_self.2 fun x _=>by simp
end
end Go.Proofs.YtfpeabnehpclnaaGreatDoorE
namespace Go.Proofs.YtfpeabnehpclnaaGreatDoorE
open Go Go.Proofs Go.Shelf Go.Sort Go.RowKit
set_option linter.unusedVariables false
set_option linter.unusedSimpArgs false
theorem flatMap_one {α β:Type} (f:α→β):∀ xs:List α,xs.flatMap (fun x=>[f x])=xs.map f
 | []=>rfl
 | x::xs=>by rw [List.flatMap_cons,List.map_cons,flatMap_one f xs]; rfl
theorem KG {P:Program} {ρ:Ren} (Ly:SlLaysM.n5 P ρ) {e:TypeId} (A:Option Addr) (c:Nat) (xs:List Int) (M:Mem) (w:World) (hI:Inv M w [.row (aF .i64) e A xs.length c xs]) (r:List Int)
  (H:must (xs.length < 4611686018427387904) (some (xs.mergeSort fun x y=>decide (x≤y)))=some r) :
  Calls P (ρ.f 5) #[.slice A xs.length c] w fun e' w'=>e' = .returned (.tuple #[])∧Inv M w' [.row (aF .i64) e A xs.length c r]:=by
 obtain ⟨hsz,H⟩:=ah H;cases H
 by_cases h0:xs=[]
 ·subst h0;refine (AnyM.slices_Sort_int_none { Ly with } A c w).mono ?_;rintro _ _ ⟨rfl,rfl⟩;exact ⟨rfl,by simpa using hI⟩
 ·obtain ⟨F1,a2,hown⟩:=hI.look (i:=0) rfl;rcases hown.1 with ⟨_,_,h⟩ | ⟨b,arr,rfl,hFb,hb,hl,hcm,harr,hseq⟩
  ·exact absurd h h0
  ·have hb:w.heap[b]? = some (.cells arr e (0,0)):=hb;have hlt:b < w.heap.size:=(Array.getElem?_eq_some_iff.1 hb).1;have ht:arr.toList.take xs.length=xs.map (Value.int .i64):=by
    have h1:=bX.flat.1 hseq
    rw [show xs.length * (aF .i64).sz=xs.length from Nat.mul_one _] at h1
    rw [h1]
    exact flatMap_one _ xs
   refine (AnyM.slices_Sort_int Ly b 0 c xs w (holds_of_blockI hb ht) hlt hsz).mono ?_;rintro _ w' ⟨rfl,n,os,rfl⟩;refine ⟨rfl,?_⟩;have hg:=grownBy_sortedI (w:=w) (g:=b) (n:=n) (os:=os) (xs.mergeSort fun x y=>decide (x≤y)).toArray;have hlen:(xs.mergeSort fun x y=>decide (x≤y)).length=xs.length:=List.length_mergeSort _;have a1:arr.size=c * 1:=harr;refine hI.turn (i:=0) (a' := .row (aF .i64) e (some ⟨b,0,none⟩) xs.length c (xs.mergeSort fun x y=>decide (x≤y))) rfl hg.size hg.os hg.tape hg.output ?_;rintro F hF ⟨hrow,_⟩;rcases hrow with ⟨h,_⟩ | ⟨b',arr',e',hFb',hb',_,_,_,_⟩
   ·cases h
   ·cases e';refine ⟨F,⟨.inr ⟨b,_,rfl,hFb',heap_sortedI _ hb,by omega,hcm,?_,?_⟩,hlen⟩,fun k hk hn=>hg.block k hk (fun e=>hn (by cases e; exact hFb')),fun _ h => .inl h⟩
    ·show (putCells (Value.int .i64) 0 _ arr).size=c * 1
     simp [putCells,a1]
    ·refine bX.flat.2 ?_
     rw [flatMap_one,show (xs.mergeSort fun x y=>decide (x≤y)).length * (aF .i64).sz=(xs.mergeSort fun x y=>decide (x≤y)).length from Nat.mul_one _]
     exact take_putCellsI arr _ (by omega)
end Go.Proofs.YtfpeabnehpclnaaGreatDoorE
namespace Go.Proofs.YtfpeabnehpclnaaGreatDoorE
open Go Go.Proofs
set_option linter.unusedVariables false
set_option linter.unusedSimpArgs false
class Rf (b:Bool) (p:outParam Prop):Prop where
 iff:b=true↔p
instance Tq:Rf true True:=⟨by simp⟩
instance Td:Rf false False:=⟨by simp⟩
instance Tv {p:Prop} [Decidable p]:Rf (decide p) p:=⟨decide_eq_true_iff⟩
instance Tw {α:Type} [BEq α] [LawfulBEq α] {x y:α}:Rf (x == y) (x=y):=⟨beq_iff_eq⟩
instance Tx {α:Type} [BEq α] [LawfulBEq α] {x y:α}:Rf (x != y) (x≠y):=⟨bne_iff_ne⟩
instance Tz {b:Bool} {p:Prop} [h:Rf b p]:Rf (!b) (¬ p):=⟨by rw [Bool.not_eq_true',← h.iff,Bool.not_eq_true]⟩
instance TA {a b:Bool} {p q:Prop} [h:Rf a p] [h':Rf b q]:Rf (a && b) (p∧q):=⟨by rw [Bool.and_eq_true,h.iff,h'.iff]⟩
instance TD {a b:Bool} {p q:Prop} [h:Rf a p] [h':Rf b q]:Rf (a || b) (p∨q):=⟨by rw [Bool.or_eq_true,h.iff,h'.iff]⟩
instance TB {a b:ByteArray}:Rf (sEq a b) (a=b):=⟨Rw⟩
instance (priority:=low) TC {b:Bool}:Rf b (b=true):=⟨Iff.rfl⟩
theorem ai {α:Type} {c:Bool} {x y:Option α} {p:Prop} {Q:α→Prop} [r:Rf c p] (h1:p→Tri x Q) (h2:¬ p→Tri y Q):Tri (bif c then x else y) Q:=by
 cases hc:c
 ·exact h2 (fun h=>by rw [← r.iff,hc] at h; cases h)
 ·exact h1 (r.iff.1 hc)
theorem aZ {α β:Type} {x:Option α} {a:α} {k:α→Option β} {Q:β→Prop} (h:x=some a) (hk:Tri (k a) Q):Tri (x.bind k) Q:=by
 rw [h]; exact hk
theorem LZ {α:Type} {x:Option α} {a:α} {Q:α→Prop} (h:x=some a) (hq:Q a):Tri x Q:=⟨a,h,hq⟩
theorem yC {x:Option Bool} {p:Prop} [Decidable p]:Tri x (fun r=>r=true↔p)↔x=some (decide p):=by
 constructor
 ·rintro ⟨b,h,hb⟩; rw [h]; congr 1; rw [Bool.eq_iff_iff,hb]; simp
 ·intro h; exact ⟨_,h,by simp⟩
theorem dH {α β:Type} {c:Bool} {x y:Option α} {k:α→Option β} {Q:β→Prop} (h:Tri (bif c then x.bind k else y.bind k) Q):Tri ((bif c then x else y).bind k) Q:=by
 cases c <;> exact h
theorem cZ {α β:Type} {a:α} {k:α→Option β} {Q:β→Prop} (h:Tri (k a) Q):Tri ((some a).bind k) Q:=h
theorem dF {α β:Type} {c:Prop} [Decidable c] {x:Option α} {k:α→Option β} {Q:β→Prop} (h:Tri (must c (x.bind k)) Q):Tri ((must c x).bind k) Q:=by
 obtain ⟨a,h,hq⟩:=h;obtain ⟨hc,hx⟩:=ah h
 rw [iL _ hc]
 exact ⟨a,hx,hq⟩
theorem dI {α β γ:Type} {x:Option α} {j:α→Option β} {k:β→Option γ} {Q:γ→Prop} (h:Tri (x.bind fun a=>(j a).bind k) Q):Tri ((x.bind j).bind k) Q:=by
 cases x with
 | none=>exact h
 | some a=>exact h
theorem bW {x:Int} (h0 : -9223372036854775808≤x) (h1:x≤9223372036854775807):w64 x=x:=oD (by omega) (by omega)
def Nxt {Ω:Type} (n k:Nat) (p:Nat→Prop) (Q:Ω→Prop):Int ⊕ Ω→Prop
 | .inl s'=>s'=((k + 1:Nat):Int)∧k < n∧p k
 | .inr o=>Q o
theorem oW {Ω:Type} {step:Int→Option (Int ⊕ Ω)} {Q:Ω→Prop} (n:Nat) (p:Nat→Prop) 
  (hs:∀ k:Nat,k≤n→(∀ j,j < k→p j)→Tri (step (k:Int)) (Nxt n k p Q)):Tri (iter step 0) Q:=by
 refine Ht n (fun k=>∀ j,j < k→p j) (fun j h=>absurd h (Nat.not_lt_zero _)) (fun k hk hJ=>eX (hs k hk hJ) ?_);rintro (s | o) h
 ·refine ⟨h.1,h.2.1,fun j hj => ?_⟩;rcases Nat.lt_or_ge j k with h1 | h1
  ·exact hJ j h1
  ·rw [show j=k by omega]; exact h.2.2
 ·exact h
def wF {α:Type} [Inhabited α] (l:List α) (p:α→Prop):Prop:=∀ j:Nat,j < l.length→p (idx l (j:Int))
theorem zI {α:Type} [Inhabited α] {l:List α} {p:α→Prop}:wF l p↔∀ x ∈ l,p x:=by
 constructor
 ·intro h x hx;obtain ⟨j,hj,rfl⟩:=List.getElem_of_mem hx;have:=h j hj
  rwa [bS rfl hj] at this
 ·intro h j hj
  rw [bS rfl hj]
  exact h _ (List.getElem_mem hj)
theorem lm {α:Type} [Inhabited α] {l:List α} {k:Nat} (hk:k≤l.length):dW l 0 (k:Int)=l.take k:=by
 unfold dW
 simp
theorem vY {α:Type} [Inhabited α] {l:List α} {k j:Nat} (h:j < k):idx (l.take k) (j:Int)=idx l (j:Int):=by
 unfold idx
 simp only [Int.toNat_natCast,List.getD_eq_getElem?_getD,List.getElem?_take]
 rw [if_pos h]
theorem kZ {α:Type} [Inhabited α] {l m:List α} {j:Nat} (h:j < l.length):idx (l++m) (j:Int)=idx l (j:Int):=by
 unfold idx
 simp only [Int.toNat_natCast,List.getD_eq_getElem?_getD,List.getElem?_append_left h]
theorem jZ {α:Type} [Inhabited α] {l:List α} {x:α} {j:Nat} (h:j=l.length):idx (l++[x]) (j:Int)=x:=by
 subst h;unfold idx
 simp
theorem uk {α:Type} [Inhabited α] {l:List α} {k j:Nat} {v:α} (h:k < l.length):idx (l.set k v) (j:Int)=if j=k then v else idx l (j:Int):=by
 have:=Hu (xs:=l) (i:=(k:Int)) (j:=j) (v:=v) (by omega) (by omega)
 simp only [Int.toNat_natCast] at this
 rw [this]
 by_cases e:j=k
 ·simp [e]
 ·rw [if_neg e,if_neg (by omega)]
theorem yD {α β:Type} [Inhabited α] [Inhabited β] {f:α→β} {l:List α} {k:Nat} (h:k < l.length):idx (l.map f) (k:Int)=f (idx l (k:Int)):=by
 rw [bS rfl (by simpa using h),bS rfl h,List.getElem_map]
theorem iQ {α:Type} [Inhabited α] {l:List α} {k:Nat} (h:k < l.length):l.take (k + 1)=l.take k++[idx l (k:Int)]:=by
 rw [bS rfl h,List.take_succ_eq_append_getElem h]
theorem xQ {κ ν:Type} [DecidableEq κ] {m:List (κ×ν)} {k x:κ} {v:ν}:kC (gG m k v) x=true↔x=k∨kC m x=true:=by
 induction m with
 | nil=>simp [gG,kC,eq_comm]
 | cons p m ih =>
  unfold gG
  by_cases e:p.1=k
  ·rw [if_pos e]
   simp only [kC,List.any_cons,Bool.or_eq_true,decide_eq_true_eq]
   constructor
   ·rintro (h | h)
    ·exact .inl h.symm
    ·exact .inr (.inr h)
   ·rintro (h | h | h)
    ·exact .inl h.symm
    ·exact .inl (e ▸ h)
    ·exact .inr h
  ·rw [if_neg e]
   simp only [kC,List.any_cons,Bool.or_eq_true,decide_eq_true_eq] at ih ⊢
   rw [ih]
   constructor
   ·rintro (h | h | h)
    ·exact .inr (.inl h)
    ·exact .inl h
    ·exact .inr (.inr h)
   ·rintro (h | h | h)
    ·exact .inr (.inl h)
    ·exact .inl h
    ·exact .inr (.inr h)
theorem qp {κ ν:Type} [DecidableEq κ] [Inhabited ν] {m:List (κ×ν)} {k x:κ} {v:ν}:mat (gG m k v) x=if x=k then v else mat m x:=by
 induction m with
 | nil =>
  by_cases e:x=k
  ·simp [gG,mat,e]
  ·have e':¬ k=x:=fun h=>e h.symm
   simp [gG,mat,e,e']
 | cons p m ih =>
  unfold gG
  by_cases e:p.1=k
  ·rw [if_pos e]
   by_cases e2:x=k
   ·simp [mat,e2]
   ·have e':¬ k=x:=fun h=>e2 h.symm;have e3:¬ p.1=x:=fun h=>e2 (h.symm.trans e)
    simp [mat,e2,e',e3]
  ·rw [if_neg e]
   by_cases e2:p.1=x
   ·have e3:¬ x=k:=fun h=>e (e2.trans h)
    simp [mat,e2,e3]
   ·simp [mat,e2,ih]
theorem Fb {κ ν:Type} [DecidableEq κ] {x:κ}:kC ([]:List (κ×ν)) x=false:=rfl
theorem Rl {κ ν:Type} [DecidableEq κ] [Inhabited ν] {x:κ}:mat ([]:List (κ×ν)) x=default:=rfl
def Lock {σ τ Ω Ψ:Type} (n k:Nat) (I:Nat→σ→τ→Prop) (Q:Ω→Ψ→Prop):σ ⊕ Ω→τ ⊕ Ψ→Prop
 | .inl s,.inl t=>k < n∧I (k + 1) s t
 | .inr o,.inr p=>Q o p
 | _,_=>False
theorem Db {σ τ Ω Ψ:Type} {f:σ→Option (σ ⊕ Ω)} {g:τ→Option (τ ⊕ Ψ)} {Q:Ω→Ψ→Prop} (n:Nat) (I:Nat→σ→τ→Prop) {s:σ} {t:τ} {k0:Nat} (a1:k0≤n) (h0:I k0 s t)
  (hs:∀ (k:Nat) (s:σ) (t:τ),k≤n→I k s t→Tri (f s) (fun x=>Tri (g t) (Lock n k I Q x))):Tri (iter f s) (fun o=>Tri (iter g t) (Q o)):=by
 generalize hd:n - k0=d
 induction d using Nat.strongRecOn generalizing k0 s t with
 | ind d ih =>
  obtain ⟨x,hx,y,hy,hr⟩:=hs k0 s t a1 h0
  rw [Aj,hx,Aj,hy]
  cases x with
  | inl s' =>
   cases y with
   | inl t'=>exact ih (n - (k0 + 1)) (by have:=hr.1; omega) (k0:=k0 + 1) (by have:=hr.1; omega) hr.2 rfl
   | inr p=>exact hr.elim
  | inr o =>
   cases y with
   | inl t'=>exact hr.elim
   | inr p=>exact ⟨o,rfl,p,rfl,hr⟩
end Go.Proofs.YtfpeabnehpclnaaGreatDoorE
namespace Go.Proofs.YtfpeabnehpclnaaGreatDoorE
open Go
set_option linter.unusedVariables false
set_option linter.unusedSimpArgs false
structure ko (P:Program) (t:TypeId) {α:Type} (k:Ty α) (G:α→Prop):Prop where
 out:∀ {H:Type} {enc:TypeId×Value→H} {w:World} {base:Nat} {spare:Nat→Bool} {held:Bool} {fuel:Nat} {cs:List Value} {x:DataW H×List MemPlace},
  DataW.trod enc P w base spare held fuel t cs=some x→(∀ n ∈ DataW.weights P t x.1,n≤reachBytes)→∃ a,k.rd (hp w) a cs∧G a
section
variable {P:Program} {t e:TypeId}
theorem Gw {kk:IntKind} (ht:P.underlying t=some (.int kk)):ko P t (aF kk) (fun n=>(Lit.int kk n).wf=true):=⟨fun h _=>by
 obtain ⟨n,rfl,_,hw⟩:=DataW.trod_int ht h;exact ⟨n,rfl,hw⟩⟩
theorem KM (ht:P.underlying t=some .bool):ko P t rW (fun _=>True):=⟨fun h _=>by
 obtain ⟨b,rfl,_⟩:=DataW.trod_bool ht h;exact ⟨b,rfl,trivial⟩⟩
theorem Nl (ht:P.underlying t=some .string):ko P t gP (fun s=>s.size≤reachBytes):=⟨fun h hn=>by
 obtain ⟨s,rfl,rfl,_⟩:=DataW.trod_string ht h;refine ⟨s,rfl,?_⟩;have h1:s.data.toList.length≤reachBytes:=hn s.data.toList.length (by show _ ∈ [_]; exact List.mem_singleton.2 rfl)
 rw [Array.length_toList] at h1
 exact h1⟩
theorem zL {H:Type} {P:Program} {e:TypeId} {n:Nat} {d:DataW H}:∀ {l:List (DataW H)},d ∈ l→n ∈ DataW.weights P e d→n ∈ DataW.weightsAll P e l
 | d'::l,hd,hn=>by
  simp only [DataW.weightsAll,List.mem_append]
  rcases List.mem_cons.1 hd with rfl | hd
  ·exact .inl hn
  ·exact .inr (zL hd hn)
theorem Jz {α:Type} {k:Ty α} {G:α→Prop} (ht:P.underlying t=some (.slice e)) (ho:ko P e k G) (hc:P.cellsOf e=k.sz) (hpos:0 < k.sz) :
  ko P t (cB e k) (fun l=>(∀ x ∈ l,G x)∧l.length * P.bytesOf e≤reachBytes):=⟨fun {H enc w base spare held fuel cs x} h hn=>by
 rcases Deep.open_slice ht h with ⟨rfl,rfl⟩ | ⟨a,len,cap,m,n,D,Pl,rfl,hb,hl,hm,hmm,rfl,hx⟩
 ·exact ⟨[],⟨none,0,rfl,Nat.le_refl _,.inl rfl⟩,(fun x hx=>absurd hx List.not_mem_nil),by rw [List.length_nil,Nat.zero_mul]; exact Nat.zero_le _⟩
 ·have hle:len≤m:=by rw [hmm]; split <;> omega
  have hw:DataW.weights P t (.slice ((List.range len).map D) ((List.range (m - len)).map fun j=>D (len + j))) =
    (((List.range len).map D).length + ((List.range (m - len)).map fun j=>D (len + j)).length) * P.bytesOf e::(DataW.weightsAll P e ((List.range len).map D)++DataW.weightsAll P e ((List.range (m - len)).map fun j=>D (len + j))):=by
   simp only [DataW.weights,ht]
  have hel:∀ i,i < len→∃ y cs',k.rd (hp w) y cs'∧G y∧w.cells? base (a.add (i * P.cellsOf e)) (P.cellsOf e)=some cs':=by
   intro i hi;obtain ⟨cs',h1,h2⟩:=hx i (by omega);obtain ⟨y,h3,h4⟩:=ho.out h2 (fun q hq=>hn q (by
    show q ∈ DataW.weights P t _
    rw [hw]
    refine List.mem_cons_of_mem _ (List.mem_append_left _ (zL (d:=D i) ?_ hq));exact List.mem_map.2 ⟨i,by simpa using hi,rfl⟩))
   exact ⟨y,cs',h3,h4,h1⟩
  have hlist:∀ q,q≤len→∃ l:List α,l.length=q∧(∀ x ∈ l,G x)∧∀ i y,l[i]? = some y→∃ cs',k.rd (hp w) y cs'∧w.cells? base (a.add (i * P.cellsOf e)) (P.cellsOf e)=some cs':=by
   intro q
   induction q with
   | zero=>intro _; exact ⟨[],rfl,(fun x hx=>absurd hx List.not_mem_nil),(fun i y hy=>by simp at hy)⟩
   | succ q ih =>
    intro hq;obtain ⟨l,h1,h2,h3⟩:=ih (by omega);obtain ⟨y,cs',g1,g2,g3⟩:=hel q (by omega);refine ⟨l++[y],by simp [h1],fun x hx => ?_,fun i z hz => ?_⟩
    ·rcases List.mem_append.1 hx with hx | hx
     ·exact h2 x hx
     ·rw [List.mem_singleton.1 hx]; exact g2
    ·rcases Nat.lt_or_ge i l.length with hi | hi
     ·rw [List.getElem?_append_left hi] at hz
      exact h3 i z hz
     ·rw [List.getElem?_append_right hi] at hz
      have a1:i=q:=by
       have:=(List.getElem?_eq_some_iff.1 hz).1
       simp at this
       omega
      subst a1
      rw [h1,Nat.sub_self] at hz
      cases hz;exact ⟨cs',g1,g3⟩
  obtain ⟨l,h1,h2,h3⟩:=hlist len (Nat.le_refl _);subst h1;refine ⟨l,⟨some a,cap,rfl,hl,?_⟩,h2,?_⟩
  ·rcases l with _ | ⟨y0,l'⟩
   ·exact .inl rfl
   ·right
    obtain ⟨b,o,sp⟩:=a;have hsp:sp=none:=by
     obtain ⟨cs',g1,g2⟩:=h3 0 y0 rfl;have hlen:=k.rd_len g1;obtain ⟨_,_,g3⟩:=World.cells?_some g2;have hlt:0 < cs'.length:=by omega
     have:=g3 0 (by rw [hc]; exact hpos)
     rw [List.getElem?_eq_getElem hlt] at this
     simpa [Addr.add] using World.cell?_spot this
    subst hsp;refine ⟨b,o,rfl,fun j y hj => ?_⟩;obtain ⟨cs',g1,g2⟩:=h3 j y hj;obtain ⟨_,_,g3⟩:=World.cells?_some g2;refine ⟨cs',g1,fun i u hu => ?_⟩;have hi:=(List.getElem?_eq_some_iff.1 hu).1;have:=g3 i (by rw [hc,← k.rd_len g1]; exact hi)
    rw [hu,addr_add,addr_add,hc,rV] at this
    exact this
  ·have:=hn _ (by rw [hw]; exact List.mem_cons_self)
   rw [List.length_map,List.length_map,List.length_range,List.length_range] at this
   refine Nat.le_trans (Nat.mul_le_mul_right _ ?_) this
   omega⟩
end
theorem Inv.below {w w':World} {L:List bV} (h:Inv (aV w) w' L):Go.RowKit.Below w.heap.size w w' :=
 ⟨h.os,h.tape,h.output,h.size,fun k hk=>by
  have:hp w k=some (w.heap[k]'hk):=by simp [hp,hk]
  rw [show w.heap[k]? = some (w.heap[k]'hk) from this]
  exact h.fix k _ this⟩
section
variable {H:Type} {enc:TypeId×Value→H} {P:Program}
theorem JA (hl:laidOutB P=true) {W W':World} (hb:Go.RowKit.Below W.heap.size W W'):∀ {ts:List TypeId} {vs:List Value} {ds:List (DataW H)} {ps:List MemPlace},(∀ t ∈ ts,P.readableRec t=true∧t < P.types.size) →
  DataW.TrodAll enc P W 0 (fun _=>true) true ts vs ds ps→(∀ p ∈ ps,p.block < W.heap.size)→DataW.TrodAll enc P W' 0 (fun b=>decide (b < W.heap.size)) true ts vs ds ps
 | [],vs,ds,ps,_,h,_=>by
  cases vs <;> cases ds <;> simp_all [DataW.TrodAll]
 | t::ts,vs,ds,ps,hr,h,hp=>by
  obtain ⟨v,vs',d,ds',p,q,rfl,rfl,rfl,h1,h2⟩:=Go.ChangeShapes.trodAll_cons h;refine Go.trodAll_cons_mk (Go.RowKit.Below.trod hl (hr t (List.mem_cons_self)).1 (hr t List.mem_cons_self).2 h1 hb (fun x hx=>hp x (List.mem_append_left _ hx)))
   (JA hl hb (fun t ht=>hr t (List.mem_cons_of_mem _ ht)) h2 (fun x hx=>hp x (List.mem_append_right _ hx)))
theorem OV {f:Func} {s:ChangeSpec} {apart:Bool} {W W':World} {args:Array Value} {ds gs:List (DataW H)} {before:List MemPlace} {tb:TypeId}
  (hl:laidOutB P=true) (hW:DataW.Whole enc P f.params.toList s.vars apart W args.toList ds gs before) (hvars:s.vars=[]) (hrt:f.resultTypes = #[tb]) (hb:P.underlying tb=some .bool)
  (hr:∀ t ∈ f.params.toList,P.readableRec t=true∧t < P.types.size) (hfn:(s.fn H (ds++gs)).results=[.lit (.bool true)]) (hfa:(s.fn H (ds++gs)).args=ds) (hfv:(s.fn H (ds++gs)).vars=[])
  (h:Go.RowKit.Below W.heap.size W W'):s.post enc P f apart true false false W args (.bool true) W':=by
 have hlt:=fun p hp=>hW.lt p hp;have hW':=hW;obtain ⟨p,q,hA,hV,rfl,_,_⟩:=hW
 rw [hvars] at hV
 obtain ⟨rfl,rfl⟩:=Go.ChangeShapes.trodVars_none hV;refine ⟨ds,[],p++[],[],p,[],hW',?_,?_,?_,Go.RowKit.Below.frame h _,fun h=>by cases h⟩
 ·rw [hfn,hrt]
  exact Go.trodAll_cons_mk (Go.RowKit.shut_bool hb true) Go.ChangeShapes.trodAll_mk0
 ·rw [hfa]
  exact JA hl h hr hA (fun x hx=>hlt x (List.mem_append_left _ hx))
 ·rw [hfv,hvars]
  rfl
end
end Go.Proofs.YtfpeabnehpclnaaGreatDoorE
namespace Go.Proofs.YtfpeabnehpclnaaGreatDoorE
open Go
set_option linter.unusedVariables false
set_option linter.unusedSimpArgs false
structure wU (P:Program) (fs:List Field) (off:Nat) {α:Type} (k:Ty α) (G:α→Prop):Prop where
 out:∀ {H:Type} {enc:TypeId×Value→H} {w:World} {base:Nat} {spare:Nat→Bool} {held:Bool} {n:Nat} {cs:List Value} {xs:List (DataW H×List MemPlace)},
  xs.length=fs.length→(∀ (i:Nat) (f:Field),fs[i]? = some f→DataW.trod enc P w base spare held n f.type ((cs.drop f.offset).take (P.cellsOf f.type))=xs[i]?) →
  (∀ m ∈ DataW.weightsEach P (fs.map (·.type)) (xs.map (·.1)),m≤reachBytes)→cs.length=off + k.sz→∃ a,k.rd (hp w) a (cs.drop off)∧G a
section
variable {P:Program} {t:TypeId}
theorem Ej {α:Type} {k:Ty α} {G:α→Prop} {f:Field} {off:Nat} (h:ko P t k G) (ht:f.type=t) (ho:f.offset=off) (hc:P.cellsOf f.type=k.sz):wU P [f] off k G:=⟨fun {H enc w base spare held n cs xs} hl hf hw hcs=>by
 subst ht
 match xs,hl with
 | [x],_ =>
  have h0:=hf 0 f rfl
  rw [ho,hc,List.take_of_length_le (by rw [List.length_drop]; omega)] at h0
  exact h.out h0 (fun m hm=>hw m (by simpa [DataW.weightsEach] using hm))⟩
theorem tO {α β:Type} {k:Ty α} {k':Ty β} {G:α→Prop} {G':β→Prop} {f g:Field} {fs:List Field} {off:Nat} (h:ko P t k G) (ht:f.type=t) (ho:f.offset=off) (hc:P.cellsOf f.type=k.sz)
  (hr:wU P (g::fs) (off + k.sz) k' G'):wU P (f::g::fs) off (cu k k') (fun x=>G x.1∧G' x.2):=⟨fun {H enc w base spare held n cs xs} hl hf hw hcs=>by
 subst ht
 match xs,hl with
 | x::xs,hl =>
  have hcs':cs.length=off + (k.sz + k'.sz):=hcs;have h0:=hf 0 f rfl
  rw [ho,hc] at h0
  obtain ⟨a,ha,ga⟩:=h.out h0 (fun m hm=>hw m (by simp only [List.map_cons,DataW.weightsEach]; exact List.mem_append_left _ hm));obtain ⟨b,hb,gb⟩:=hr.out (cs:=cs) (xs:=xs) (by simpa using hl) (fun i q hq=>hf (i + 1) q hq) (fun m hm=>hw m (by simp only [List.map_cons,DataW.weightsEach] at hm ⊢; exact List.mem_append_right _ hm)) (by omega);refine ⟨(a,b),⟨_,_,?_,ha,hb⟩,ga,gb⟩
  rw [← List.drop_drop,List.take_append_drop]⟩
theorem uU {α:Type} {k:Ty α} {G:α→Prop} {fs:Array Field} (ht:P.underlying t=some (.struct fs)) (h:wU P fs.toList 0 k G) (hc:P.cellsOf t=k.sz):ko P t k G:=⟨fun {H enc w base spare held fuel cs x} hx hn=>by
 obtain ⟨xs,n,_,rfl,hl,hlen,hf⟩:=DataW.trod_struct ht hx;obtain ⟨a,ha,ga⟩:=h.out (cs:=cs) (xs:=xs) (by simpa using hlen) (fun i f hi=>hf i f (by simpa using hi)) (fun m hm=>hn m (by simp only [DataW.weights,ht]; exact hm)) (by omega);exact ⟨a,by simpa using ha,ga⟩⟩
theorem Ae {α β:Type} {k:Ty α} {G:α→Prop} (h:ko P t k G) (g:β→α) (f:α→β) (hgf:∀ a,g (f a)=a):ko P t (k.iso g) (fun b=>G (g b)):=⟨fun hx hn=>by
 obtain ⟨a,ha,ga⟩:=h.out hx hn;exact ⟨f a,by show k.rd _ (g (f a)) _; rw [hgf]; exact ha,by rw [hgf]; exact ga⟩⟩
theorem vX {α:Type} {k:Ty α} {G:α→Prop} {e:TypeId} {B:Nat} (ht:P.underlying t=some (.slice e)) (ho:ko P e k G) (hc:P.cellsOf e=k.sz) (hpos:0 < k.sz) (hb:P.bytesOf e=B) :
  ko P t (cB e k) (fun l=>(∀ x ∈ l,G x)∧l.length * B≤140737488351232):=by
 subst hb;exact Jz ht ho hc hpos
theorem Fa {α:Type} {k:Ty α} {G:α→Prop} (ho:ko P t k G) {fs:Array Field} (hs:P.underlying t=some (.struct fs)) {H:Type} {enc:TypeId×Value→H} {w w':World} {r:Reach} {b0 base:Nat} {spare:Nat→Bool} {held:Bool} {v:Value} {d:DataW H} {p:List MemPlace}
  (hv:Value.okWide P w' r b0 t v) (hd:DataW.Trod enc P w base spare held t v d p) (hw:∀ n ∈ DataW.weights P t d,n≤reachBytes):∃ a cs,v = .agg cs∧k.rd (hp w) a cs.toList∧G a:=by
 obtain ⟨cs,rfl,_⟩:=Go.WideShapes.okWide_struct hs hv;obtain ⟨fuel,hf⟩:=hd;obtain ⟨a,h1,h2⟩:=ho.out hf hw;exact ⟨a,cs,rfl,h1,h2⟩
end
end Go.Proofs.YtfpeabnehpclnaaGreatDoorE
