/- The engine, part V: maps that the call has made. -/
import Derived.Test.YtnlkggppokcmfaaU
import Derived.MapKept
import Derived.WideLaws
namespace Go.Proofs.YtnlkggppokcmfaaE
open Go
set_option linter.unusedVariables false
set_option linter.unusedSimpArgs false
set_option linter.unusedSectionVars false
def mhas {κ ν : Type} [DecidableEq κ] (m : List (κ × ν)) (x : κ) : Bool := m.any (fun p => decide (p.1 = x))
def mat {κ ν : Type} [DecidableEq κ] [Inhabited ν] : List (κ × ν) → κ → ν
  | [], _ => default
  | p :: m, x => if p.1 = x then p.2 else mat m x
def mput {κ ν : Type} [DecidableEq κ] : List (κ × ν) → κ → ν → List (κ × ν)
  | [], x, y => [(x, y)]
  | p :: m, x, y => if p.1 = x then (x, y) :: m else p :: mput m x y
def mdel {κ ν : Type} [DecidableEq κ] : List (κ × ν) → κ → List (κ × ν)
  | [], _ => []
  | p :: m, x => if p.1 = x then m else p :: mdel m x
def mapA {κ ν : Type} (ek : κ → Value) (ev : ν → Value) (b : Nat) (m : List (κ × ν)) : Asrt :=
  .any (fun H F => F b ∧ ∃ es clock, H b = some (.map es clock) ∧ es.toList.map (fun e => (e.key, e.val)) = m.map (fun p => (ek p.1, ev p.2)))
    (fun h hF => ⟨hF _ h.1, h.2⟩) (fun h hF => ⟨h.1, by rw [hF _ h.1]; exact h.2⟩)
def rdMap {κ ν : Type} (ek : κ → Value) (ev : ν → Value) (H : BM) (b : Nat) (m : List (κ × ν)) : Prop :=
  ∃ es clock, H b = some (.map es clock) ∧ es.toList.map (fun e => (e.key, e.val)) = m.map (fun p => (ek p.1, ev p.2))
theorem rdMap.mono {κ ν : Type} {ek : κ → Value} {ev : ν → Value} {H H' : BM} {b : Nat} {m : List (κ × ν)} (h : rdMap ek ev H b m) (hs : Sub H H') : rdMap ek ev H' b m := by
  obtain ⟨es, clock, h1, h2⟩ := h
  exact ⟨es, clock, hs _ _ h1, h2⟩
structure KeyL (P : Program) (kt : TypeId) {κ : Type} [DecidableEq κ] (ek : κ → Value) : Prop where
  check : ∀ (w : World) (em : Bool) (x : κ), (Instr.checkKey em 10000 kt (ek x)).run P w = .ok () w
  find : ∀ (w : World) (x : κ) (es : List MapEntry) (ks : List κ), es.map (·.key) = ks.map ek →
    ((Instr.findKey kt (ek x) es).run P w = .ok none w ∧ ∀ k ∈ ks, k ≠ x) ∨
    ∃ j e, (Instr.findKey kt (ek x) es).run P w = .ok (some (j, e.val)) w ∧ es[j]? = some e ∧ ks[j]? = some x ∧ ∀ i k, i < j → ks[i]? = some k → k ≠ x
  stays : ∀ (w : World) (x : κ), (Instr.keyThatStays (ek x) (ek x)).run P w = .ok (ek x) w
theorem findNow_list {d : TypeDesc} {κ : Type} (ek : κ → Value) (hinj : ∀ a b, ek a = ek b → a = b) (hk : ∀ x, MapKept.IsKey d (ek x)) (x : κ) : ∀ (es : List MapEntry) (ks : List κ) (i : Nat), es.map (·.key) = ks.map ek →
    (Instr.findNow d (ek x) es i = some none ∧ ∀ k ∈ ks, k ≠ x) ∨ ∃ j e, Instr.findNow d (ek x) es i = some (some (i + j, e.val)) ∧ es[j]? = some e ∧ ks[j]? = some x ∧ ∀ i k, i < j → ks[i]? = some k → k ≠ x
  | [], [], _, _ => .inl ⟨rfl, by simp⟩
  | [], _ :: _, _, h => by simp at h
  | _ :: _, [], _, h => by simp at h
  | e :: es, k :: ks, i, h => by
    simp only [List.map_cons, List.cons.injEq] at h
    obtain ⟨hek, h⟩ := h
    obtain ⟨r, hr, hiff⟩ := MapKept.sameNow_of_keys (d := d) (hk x) (hk k)
    rw [← hek] at hr hiff
    cases r with
    | true =>
      have hx : x = k := hinj _ _ ((hiff.1 rfl).trans hek)
      subst hx
      exact .inr ⟨0, e, by simp [Instr.findNow, hr], rfl, rfl, fun i _ hi => by omega⟩
    | false =>
      have hne : k ≠ x := fun q => by subst q; have := hiff.2 hek.symm; cases this
      rcases findNow_list ek hinj hk x es ks (i + 1) h with ⟨h1, h2⟩ | ⟨j, e', h1, h2, h3, h4⟩
      · exact .inl ⟨by simp [Instr.findNow, hr, h1], fun q hq => by
          cases hq with
          | head => exact hne
          | tail _ hq => exact h2 q hq⟩
      · refine .inr ⟨j + 1, e', by simp [Instr.findNow, hr, h1]; omega, by simpa using h2, by simpa using h3, fun q k' hq hk' => ?_⟩
        cases q with
        | zero => cases hk'; exact hne
        | succ q => exact h4 q k' (by omega) (by simpa using hk')
theorem key_plain {P : Program} {kt : TypeId} {d : TypeDesc} (hd : P.underlying kt = some d) {κ : Type} [DecidableEq κ] (ek : κ → Value) (hinj : ∀ a b, ek a = ek b → a = b) (hk : ∀ x, MapKept.IsKey d (ek x)) : KeyL P kt ek where
  check := fun w em x => MapKept.run_checkKey hd (hk x) em 9999
  find := fun w x es ks h => by
    rcases findNow_list ek hinj hk x es ks 0 h with ⟨h1, h2⟩ | ⟨j, e, h1, h2, h3, h4⟩
    · exact .inl ⟨MapKept.run_findKey hd h1, h2⟩
    · exact .inr ⟨j, e, by rw [Nat.zero_add] at h1; exact MapKept.run_findKey hd h1, h2, h3, h4⟩
  stays := fun w x => MapKept.run_keyThatStays (hk x)
theorem key_int {P : Program} {kt : TypeId} {q : IntKind} (hd : P.underlying kt = some (.int q)) : KeyL P kt (fun x : Int => .int q x) :=
  key_plain hd _ (fun a b h => by cases h; rfl) (fun x => by simp [MapKept.IsKey])
theorem key_str {P : Program} {kt : TypeId} (hd : P.underlying kt = some .string) : KeyL P kt (fun x : ByteArray => .string x) :=
  key_plain hd _ (fun a b h => by cases h; rfl) (fun x => by simp [MapKept.IsKey])
section
variable {κ ν : Type} [DecidableEq κ] {ek : κ → Value} {ev : ν → Value}
theorem mat_none [Inhabited ν] : ∀ {m : List (κ × ν)} {x : κ}, (∀ k ∈ m.map (·.1), k ≠ x) → mat m x = default ∧ mhas m x = false
  | [], _, _ => ⟨rfl, rfl⟩
  | p :: m, x, h => by
    have h1 : p.1 ≠ x := h p.1 (by simp)
    have h2 := mat_none (m := m) (x := x) (fun k hk => h k (by simp at hk ⊢; exact .inr hk))
    refine ⟨by rw [mat, if_neg h1]; exact h2.1, ?_⟩
    have := h2.2
    unfold mhas at this ⊢
    rw [List.any_cons, this, decide_eq_false h1]
    rfl
theorem mat_some [Inhabited ν] : ∀ {m : List (κ × ν)} {x : κ} {j : Nat} {y : ν}, m[j]? = some (x, y) → (∀ i k, i < j → (m.map (·.1))[i]? = some k → k ≠ x) → mat m x = y ∧ mhas m x = true
  | p :: m, x, 0, y, h, _ => by
    simp only [List.getElem?_cons_zero, Option.some.injEq] at h
    subst h
    exact ⟨by rw [mat, if_pos rfl], by unfold mhas; simp⟩
  | p :: m, x, j + 1, y, h, hn => by
    have h1 : p.1 ≠ x := hn 0 p.1 (by omega) rfl
    have h2 := mat_some (m := m) (x := x) (j := j) (y := y) (by simpa using h) (fun i k hi hk => hn (i + 1) k (by omega) (by simpa using hk))
    refine ⟨by rw [mat, if_neg h1]; exact h2.1, ?_⟩
    have := h2.2
    unfold mhas at this ⊢
    rw [List.any_cons, this, Bool.or_true]
theorem mput_none : ∀ {m : List (κ × ν)} {x : κ} {y : ν}, (∀ k ∈ m.map (·.1), k ≠ x) → mput m x y = m ++ [(x, y)]
  | [], _, _, _ => rfl
  | p :: m, x, y, h => by
    have h1 : p.1 ≠ x := h p.1 (by simp)
    rw [mput, if_neg h1, mput_none (fun k hk => h k (by simp at hk ⊢; exact .inr hk))]
    rfl
theorem mput_some : ∀ {m : List (κ × ν)} {x : κ} {y : ν} {j : Nat}, (m.map (·.1))[j]? = some x → (∀ i k, i < j → (m.map (·.1))[i]? = some k → k ≠ x) → mput m x y = m.set j (x, y)
  | p :: m, x, y, 0, h, _ => by
    simp only [List.map_cons, List.getElem?_cons_zero, Option.some.injEq] at h
    rw [mput, if_pos h]
    rfl
  | p :: m, x, y, j + 1, h, hn => by
    have h1 : p.1 ≠ x := hn 0 p.1 (by omega) rfl
    rw [mput, if_neg h1, mput_some (j := j) (by simpa using h) (fun i k hi hk => hn (i + 1) k (by omega) (by simpa using hk))]
    rfl
end
section
variable {P : Program} {o : Oper} {ev_ : Operand → Value} {K : Value → World → Prop} {w : World} {M : Mem} {L : List Asrt}
variable {κ ν : Type} [DecidableEq κ] {ek : κ → Value} {ev : ν → Value}
theorem Inv.mapAt (h : Inv M w L) (li : Nat) {b : Nat} {m : List (κ × ν)} (hL : L[li]? = some (mapA ek ev b m)) : rdMap ek ev (hp w) b m := by
  obtain ⟨F1, _, hown⟩ := h.look hL
  exact hown.2
theorem e_makemap (κ ν : Type) (ek : κ → Value) (ev : ν → Value) (t : TypeId) (hop : o.op = .makeMap t none) (hI : Inv M w L) (h : ∀ b w', Inv M w' (L ++ [mapA ek ev b ([] : List (κ × ν))]) → K (.map (some b)) w') : Eff P o ev_ w K := by
  refine eff_val (.map (some w.heap.size)) (w' := w.alloc (.map #[] 0)) ?_ (h _ _ (hI.alloc _ ⟨rfl, #[], 0, hp_alloc_new w _, rfl⟩))
  simp only [execOp, hop, Option.map_none]
  rfl
theorem keys_of {m : List (κ × ν)} {es : List MapEntry} (h : es.map (fun e => (e.key, e.val)) = m.map (fun p => (ek p.1, ev p.2))) : es.map (·.key) = (m.map (·.1)).map ek := by
  have := congrArg (List.map Prod.fst) h
  simpa [List.map_map, Function.comp_def] using this
theorem val_of {m : List (κ × ν)} {es : List MapEntry} (h : es.map (fun e => (e.key, e.val)) = m.map (fun p => (ek p.1, ev p.2))) {j : Nat} {e : MapEntry} (he : es[j]? = some e) : ∃ p, m[j]? = some p ∧ e.key = ek p.1 ∧ e.val = ev p.2 := by
  have h1 : (es.map (fun e => (e.key, e.val)))[j]? = some (e.key, e.val) := by rw [List.getElem?_map, he]; rfl
  rw [h, List.getElem?_map] at h1
  cases hm : m[j]? with
  | none => rw [hm] at h1; cases h1
  | some p =>
    rw [hm] at h1
    have h2 := Option.some.inj h1
    exact ⟨p, rfl, (congrArg Prod.fst h2).symm, (congrArg Prod.snd h2).symm⟩
theorem e_lookup [Inhabited ν] (t kt et : TypeId) (a x : Operand) (ok : Bool) (b : Nat) (m : List (κ × ν)) (k : κ) (hop : o.op = .lookup t a x ok) (ht : P.underlying t = some (.map kt et)) (hK : KeyL P kt ek) (hz : ∀ w : World, (zeroValue et).run P w = .ok (ev default) w)
    (ha : ev_ a = .map (some b)) (hx : ev_ x = ek k) (hm : rdMap ek ev (hp w) b m) (h : K (bif ok then .tuple #[ev (mat m k), .bool (mhas m k)] else ev (mat m k)) w) : Eff P o ev_ w K := by
  obtain ⟨es, clock, hb, hes⟩ := hm
  have hb : w.heap[b]? = some (.map es clock) := hb
  refine eff_val _ ?_ h
  have hrun : (Instr.lookup t (.map (some b)) (ek k) ok).run P w = .ok (bif ok then .tuple #[ev (mat m k), .bool (mhas m k)] else ev (mat m k)) w := by
    rcases hK.find w k es.toList _ (keys_of hes) with ⟨h1, h2⟩ | ⟨j, e, h1, h2, h3, h4⟩
    · obtain ⟨e1, e2⟩ := mat_none h2
      rw [e1, e2]
      simp only [Instr.lookup, Sem.run_bind, run_underlying' ht, Result.andThen, MapKept.run_getObj_map hb, hK.check, h1, hz, pure, Sem.run]
      cases ok <;> rfl
    · obtain ⟨p, hp1, hp2, hp3⟩ := val_of hes h2
      have hk' : p.1 = k := by
        rw [List.getElem?_map, hp1] at h3
        exact Option.some.inj h3
      obtain ⟨pk, pv⟩ := p
      have hk' : pk = k := hk'
      subst hk'
      obtain ⟨e1, e2⟩ := mat_some hp1 h4
      rw [e1, e2]
      have hp3 : e.val = ev pv := hp3
      simp only [Instr.lookup, Sem.run_bind, run_underlying' ht, Result.andThen, MapKept.run_getObj_map hb, hK.check, h1, hp3, pure, Sem.run]
      cases ok <;> rfl
  simp only [execOp, hop, ha, hx, Sem.run_bind, hrun, Result.andThen, Sem.run, pure]
theorem e_maplen (t : TypeId) (ty : TypeId) (a : Operand) (b : Nat) (m : List (κ × ν)) (kt et : TypeId) (hop : o.op = .call { callee := .builtin .len, args := #[a], argTypes := #[t] }) (hty : o.type = ty) (ht : P.underlying t = some (.map kt et)) (ha : ev_ a = .map (some b)) (hm : rdMap ek ev (hp w) b m)
    (h : K (.int .i64 (m.length : Int)) w) : Eff P o ev_ w K := by
  obtain ⟨es, clock, hb, hes⟩ := hm
  have hb : w.heap[b]? = some (.map es clock) := hb
  have hlen : es.size = m.length := by
    have := congrArg List.length hes
    simpa using this
  refine eff_val _ ?_ h
  have ht' : P.underlying t = some (.map (P.mapKeyOf t) (P.mapElemOf t)) := by rw [ht]; simp [Program.mapKeyOf, Program.mapElemOf, ht]
  have hrun := run_len_map (P := P) w t o.type b es clock ht' hb
  rw [hlen] at hrun
  have hargs : (#[a].map ev_ : Array Value) = #[.map (some b)] := by simp [ha]
  simp only [execOp, hop, resolve, invoke, builtin, Sem.run_bind, Sem.run, pure, Result.andThen, hargs, hrun]
  rfl
theorem e_mapput (t kt et : TypeId) (a x y : Operand) (li b : Nat) (m : List (κ × ν)) (k : κ) (v : ν) (hop : o.op = .mapUpdate t a x y) (ht : P.underlying t = some (.map kt et)) (hK : KeyL P kt ek)
    (ha : ev_ a = .map (some b)) (hx : ev_ x = ek k) (hy : ev_ y = ev v) (hI : Inv M w L) (hL : L[li]? = some (mapA ek ev b m)) (h : ∀ w', Inv M w' (L.set li (mapA ek ev b (mput m k v))) → K undef w') : Eff P o ev_ w K := by
  obtain ⟨F1, hF1, hFb, es, clock, hb, hes⟩ := hI.look hL
  have hb : w.heap[b]? = some (.map es clock) := hb
  have hlt : b < w.heap.size := (Array.getElem?_eq_some_iff.1 hb).1
  have key : ∃ o', (Instr.mapUpdate t (.map (some b)) (ek k) (ev v)).run P w = .ok () { w with heap := w.heap.setIfInBounds b o' } ∧ ∃ es' clock', o' = .map es' clock' ∧ es'.toList.map (fun e => (e.key, e.val)) = (mput m k v).map (fun p => (ek p.1, ev p.2)) := by
    rcases hK.find w k es.toList _ (keys_of hes) with ⟨h1, h2⟩ | ⟨j, e, h1, h2, h3, h4⟩
    · refine ⟨_, ?_, es.push { key := ek k, val := ev v, born := clock }, clock + 1, rfl, ?_⟩
      · simp only [Instr.mapUpdate, Sem.run_bind, run_underlying' ht, Result.andThen, MapKept.run_getObj_map hb, hK.check, h1, MapKept.run_setObj_map _ hb, pure, Sem.run]
      · rw [mput_none h2, Array.toList_push, List.map_append, hes, List.map_append]
        rfl
    · obtain ⟨p, hp1, hp2, hp3⟩ := val_of hes h2
      have hj : es[j]? = some e := by simpa using h2
      have hk' : p.1 = k := by
        rw [List.getElem?_map, hp1] at h3
        exact Option.some.inj h3
      have hek : e.key = ek k := by rw [hp2, hk']
      refine ⟨_, ?_, es.modify j (fun e => { e with key := ek k, val := ev v }), clock, rfl, ?_⟩
      · simp only [Instr.mapUpdate, Sem.run_bind, run_underlying' ht, Result.andThen, MapKept.run_getObj_map hb, hK.check, h1, hj, Option.map_some, Option.getD_some, hek, hK.stays, MapKept.run_setObj_map _ hb, pure, Sem.run]
      · rw [mput_some h3 h4, List.map_set, ← hes]
        apply List.ext_getElem?
        intro i
        have hjl : j < es.toList.length := (List.getElem?_eq_some_iff.1 h2).1
        rw [List.getElem?_map, Array.getElem?_toList, Array.getElem?_modify, List.getElem?_set, List.length_map]
        by_cases e' : j = i
        · subst e'
          rw [if_pos rfl, if_pos rfl, if_pos hjl, hj]
          rfl
        · rw [if_neg e', if_neg e', List.getElem?_map, Array.getElem?_toList]
  obtain ⟨o', hrun, es', clock', rfl, hes'⟩ := key
  refine eff_unit (w' := { w with heap := w.heap.setIfInBounds b (.map es' clock') }) ?_ (h _ ?_)
  · simp only [execOp, hop, ha, hx, hy, Sem.run_bind, hrun, Result.andThen, Sem.run, pure]
  · have hset := MapKept.heap_set (w := w) (o' := .map es' clock') hb
    refine hI.turn hL (w' := { w with heap := w.heap.setIfInBounds b (.map es' clock') }) (by simp) rfl rfl rfl ?_
    rintro F hF ⟨hFb', _⟩
    exact ⟨F, ⟨hFb', es', clock', hset.1, hes'⟩, fun b2 _ hn => hset.2 b2 (fun e => hn (e ▸ hFb')), fun _ h => .inl h⟩
theorem mdel_none : ∀ {m : List (κ × ν)} {x : κ}, (∀ k ∈ m.map (·.1), k ≠ x) → mdel m x = m
  | [], x, _ => rfl
  | p :: m, x, h => by
    rw [mdel, if_neg (h p.1 (by simp)), mdel_none (fun k hk => h k (List.mem_cons_of_mem _ hk))]
theorem mdel_some : ∀ {m : List (κ × ν)} {x : κ} {j : Nat}, (m.map (·.1))[j]? = some x → (∀ i k, i < j → (m.map (·.1))[i]? = some k → k ≠ x) → mdel m x = m.eraseIdx j
  | p :: m, x, 0, h, _ => by
    simp only [List.map_cons, List.getElem?_cons_zero, Option.some.injEq] at h
    rw [mdel, if_pos h]
    rfl
  | p :: m, x, j + 1, h, hn => by
    have h1 : p.1 ≠ x := hn 0 p.1 (by omega) rfl
    rw [mdel, if_neg h1, mdel_some (j := j) (by simpa using h) (fun i k hi hk => hn (i + 1) k (by omega) (by simpa using hk))]
    rfl
theorem eraseIdx_map {α β : Type} (f : α → β) : ∀ (l : List α) (j : Nat), (l.eraseIdx j).map f = (l.map f).eraseIdx j
  | [], _ => rfl
  | _ :: _, 0 => rfl
  | x :: l, j + 1 => by simp [eraseIdx_map f l j]
theorem e_mapdel (t kt et : TypeId) (a x : Operand) (tk : TypeId) (li b : Nat) (m : List (κ × ν)) (k : κ) (hop : o.op = .call { callee := .builtin .delete, args := #[a, x], argTypes := #[t, tk] }) (ht : P.underlying t = some (.map kt et)) (hK : KeyL P kt ek)
    (ha : ev_ a = .map (some b)) (hx : ev_ x = ek k) (hI : Inv M w L) (hL : L[li]? = some (mapA ek ev b m)) (h : ∀ w', Inv M w' (L.set li (mapA ek ev b (mdel m k))) → K (.tuple #[]) w') : Eff P o ev_ w K := by
  obtain ⟨F1, hF1, hFb, es, clock, hb, hes⟩ := hI.look hL
  have hb : w.heap[b]? = some (.map es clock) := hb
  have key : ∃ o', (Builtin.delete_ #[t, tk] o.type #[.map (some b), ek k]).run P w = .ok (.tuple #[]) { w with heap := w.heap.setIfInBounds b o' } ∧ ∃ es' clock', o' = .map es' clock' ∧ es'.toList.map (fun e => (e.key, e.val)) = (mdel m k).map (fun p => (ek p.1, ev p.2)) := by
    rcases hK.find w k es.toList _ (keys_of hes) with ⟨h1, h2⟩ | ⟨j, e, h1, h2, h3, h4⟩
    · refine ⟨_, ?_, es, clock, rfl, by rw [mdel_none h2]; exact hes⟩
      simp only [Builtin.delete_, List.getElem?_toArray, List.getElem?_cons_zero, List.getElem?_cons_succ, Sem.run_bind, run_underlying' ht, Result.andThen, MapKept.run_getObj_map hb, hK.check, h1, MapKept.run_setObj_map _ hb, pure, Sem.run]
    · refine ⟨_, ?_, es.eraseIdxIfInBounds j, clock, rfl, ?_⟩
      · simp only [Builtin.delete_, List.getElem?_toArray, List.getElem?_cons_zero, List.getElem?_cons_succ, Sem.run_bind, run_underlying' ht, Result.andThen, MapKept.run_getObj_map hb, hK.check, h1, MapKept.run_setObj_map _ hb, pure, Sem.run]
      · rw [mdel_some h3 h4, eraseIdx_map, ← hes, ← eraseIdx_map]
        congr 1
        unfold Array.eraseIdxIfInBounds
        have hjl : j < es.toList.length := (List.getElem?_eq_some_iff.1 h2).1
        rw [dif_pos (by simpa using hjl), Array.toList_eraseIdx]
  obtain ⟨o', hrun, es', clock', rfl, hes'⟩ := key
  refine eff_val (.tuple #[]) (w' := { w with heap := w.heap.setIfInBounds b (.map es' clock') }) ?_ (h _ ?_)
  · have hargs : (#[a, x].map ev_ : Array Value) = #[.map (some b), ek k] := by simp [ha, hx]
    simp only [execOp, hop, resolve, invoke, builtin, Sem.run_bind, Sem.run, pure, Result.andThen, hargs, hrun]
  · have hset := MapKept.heap_set (w := w) (o' := .map es' clock') hb
    refine hI.turn hL (w' := { w with heap := w.heap.setIfInBounds b (.map es' clock') }) (by simp) rfl rfl rfl ?_
    rintro F hF ⟨hFb', _⟩
    exact ⟨F, ⟨hFb', es', clock', hset.1, hes'⟩, fun b2 _ hn => hset.2 b2 (fun e => hn (e ▸ hFb')), fun _ h => .inl h⟩
end
end Go.Proofs.YtnlkggppokcmfaaE
