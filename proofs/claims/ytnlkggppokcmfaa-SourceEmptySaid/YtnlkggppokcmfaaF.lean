/- The engine, part F: the operations that make and write memory. -/
import Derived.Test.YtnlkggppokcmfaaD
import Derived.Laws.CopyRow
namespace Go.Proofs.YtnlkggppokcmfaaE
open Go
set_option linter.unusedVariables false
set_option linter.unusedSimpArgs false
theorem hp_alloc_new (w : World) (o : Obj) : hp (w.alloc o) w.heap.size = some o := by
  show (w.heap.push o)[w.heap.size]? = some o
  simp
theorem hp_alloc_old (w : World) (o : Obj) {b : Nat} (h : b < w.heap.size) : (w.alloc o).heap[b]? = w.heap[b]? := by
  show (w.heap.push o)[b]? = _
  rw [Array.getElem?_push_lt h, Array.getElem?_eq_getElem h]
theorem size_alloc (w : World) (o : Obj) : (w.alloc o).heap.size = w.heap.size + 1 := by
  show (w.heap.push o).size = _
  simp
section
variable {M : Mem} {w w' : World} {L L' : List Asrt}
theorem Inv.alloc (h : Inv M w L) (o : Obj) {a : Asrt} (ha : a.Own (hp (w.alloc o)) (fun b => b = w.heap.size)) : Inv M (w.alloc o) (L ++ [a]) := by
  refine h.grow (by rw [size_alloc]; omega) (fun b hb => hp_alloc_old w o hb) rfl rfl rfl ?_
  refine ⟨fun b => b = w.heap.size, fun _ => False, ?_, fun _ h => h.elim, fun _ _ h => h, ha, trivial⟩
  intro b hb
  subst hb
  exact ⟨Nat.le_refl _, by rw [size_alloc]; omega⟩
theorem Inv.alloc_blk (h : Inv M w L) (t : TypeId) (cs : List Value) : Inv M (w.alloc (.cells cs.toArray t)) (L ++ [.blk w.heap.size t cs]) :=
  h.alloc _ ⟨rfl, hp_alloc_new w _⟩
theorem setRow_same (w : World) (b : Nat) (arr cs : Array Value) (t : TypeId) (fz : Nat × Nat) (h : w.heap[b]? = some (.cells arr t fz)) : (w.setRow b cs).heap[b]? = some (.cells cs t fz) := by
  exact setRow_heap w b arr cs t fz h
theorem setRow_else (w : World) (b b' : Nat) (cs : Array Value) (h : b' ≠ b) : (w.setRow b cs).heap[b']? = w.heap[b']? := by
  unfold World.setRow
  rw [Array.getElem?_modify, if_neg (fun e => h e.symm)]
theorem setRow_size (w : World) (b : Nat) (cs : Array Value) : (w.setRow b cs).heap.size = w.heap.size := by
  unfold World.setRow
  simp
def splice (cs : List Value) (j : Nat) (vs : List Value) : List Value := cs.take j ++ (vs ++ cs.drop (j + vs.length))
theorem splice_len {cs : List Value} {j : Nat} {vs : List Value} (h : j + vs.length ≤ cs.length) : (splice cs j vs).length = cs.length := by
  unfold splice
  simp
  omega
theorem run_storeVar {P : Program} {w : World} {t e : TypeId} {b o : Nat} {v : Value} {arr : Array Value} (hi : (P.info? t).map (·.size) = some v.cells.size) (hb : w.heap[b]? = some (.cells arr e (0, 0)))
    (hl : o + v.cells.size ≤ arr.size) (h1 : ∀ u ∈ v.cells.toList, u.oneCell' = true) :
    (storeVar t ⟨b, o, none⟩ v).run P w = .ok () (w.setRow b (splice arr.toList o v.cells.toList).toArray) := by
  cases hi' : P.info? t with
  | none => rw [hi'] at hi; cases hi
  | some i =>
    rw [hi'] at hi
    simp only [Option.map_some, Option.some.injEq] at hi
    have hs := run_storeCells_at P b o e v.cells.toList 0 arr w hb (by simpa using hl) h1
    simp only [Nat.add_zero, List.append_assoc] at hs
    simp only [storeVar, Sem.run_bind, run_sizeOf hi', Result.andThen, hi, ne_eq, not_true, if_false]
    exact hs
end
section
variable {P : Program} {o : Oper} {ev_ : Operand → Value} {K : Value → World → Prop} {E : Env} {ops : Array Oper} {k : List Item} {f : Nat → Value} {w : World} {M : Mem} {L : List Asrt}
theorem e_alloc (t : TypeId) (z : Value) (cs : List Value) (hop : o.op = .alloc t)
    (hz : (P.info? t).bind (·.zero) = some z) (hcs : z.cells.toList = cs) (hI : Inv M w L)
    (h : ∀ b w', Inv M w' (L ++ [.blk b t cs]) → K (.pointer (some ⟨b, 0, none⟩)) w') : Eff P o ev_ w K := by
  subst hcs
  cases hi : P.info? t with
  | none => rw [hi] at hz; cases hz
  | some inf =>
    rw [hi] at hz
    simp only [Option.bind_some] at hz
    refine eff_val (.pointer (some ⟨w.heap.size, 0, none⟩)) (w' := w.alloc (.cells z.cells t)) ?_ ?_
    · simp [execOp, hop, Instr.alloc, zeroValue, typeInfo, program, hi, hz, newVar, newRow, newObj, Sem.run]
    · have := hI.alloc_blk t z.cells.toList
      rw [Array.toArray_toList] at this
      exact h _ _ this
theorem e_box (t : TypeId) (x : Operand) (v : Value) (cs : List Value) (hop : o.op = .box t x)
    (hv : ev_ x = v) (hcs : v.cells.toList = cs) (hI : Inv M w L)
    (h : ∀ b w', Inv M w' (L ++ [.blk b t cs]) → K (.pointer (some ⟨b, 0, none⟩)) w') : Eff P o ev_ w K := by
  subst hcs
  refine eff_val (.pointer (some ⟨w.heap.size, 0, none⟩)) (w' := w.alloc (.cells v.cells t)) ?_ ?_
  · simp [execOp, hop, hv, Instr.box, newVar, newRow, newObj, Sem.run]
  · have := hI.alloc_blk t v.cells.toList
    rw [Array.toArray_toList] at this
    exact h _ _ this
theorem e_store (t : TypeId) (a x : Operand) (li : Nat) (b : Nat) (t' : TypeId) (cs cs' : List Value) (j : Nat) (v : Value) (hop : o.op = .store t a x)
    (ha : ev_ a = .pointer (some ⟨b, j, none⟩)) (hx : ev_ x = v) (hs : (P.info? t).map (·.size) = some v.cells.size) (h1 : v.cells.toList.all Value.oneCell' = true)
    (hI : Inv M w L) (hL : L[li]? = some (.blk b t' cs)) (hl : Nat.ble (j + v.cells.size) cs.length = true) (hcs : splice cs j v.cells.toList = cs')
    (h : ∀ w', Inv M w' (L.set li (.blk b t' cs')) → K undef w') : Eff P o ev_ w K := by
  subst hcs
  obtain ⟨F1, hF1, hown⟩ := hI.look hL
  have hb : w.heap[b]? = some (.cells cs.toArray t' (0, 0)) := hown.2
  have hrun := run_storeVar (P := P) (t := t) (o := j) (v := v) hs hb (by simpa using Nat.le_of_ble_eq_true hl) (List.all_eq_true.1 h1)
  refine eff_unit (w' := w.setRow b (splice cs j v.cells.toList).toArray) ?_ (h _ ?_)
  · simp only [execOp, hop, ha, hx, Instr.storeAt, Instr.sureAddr, Sem.run_bind, Sem.run, pure, Result.andThen, hrun]
  · refine hI.turn hL (by rw [setRow_size]; exact Nat.le_refl _) rfl rfl rfl ?_
    rintro F hF ⟨hFb, _⟩
    exact ⟨F, ⟨hFb, setRow_same w b _ _ _ _ hb⟩, fun b' _ hn => setRow_else w b b' _ (fun e => hn (e ▸ hFb)), fun b' hb' => .inl hb'⟩
theorem flatMap_len {α : Type} {enc : α → List Value} {n : Nat} (h : ∀ x, (enc x).length = n) (xs : List α) : (xs.flatMap enc).length = xs.length * n := by
  induction xs with
  | nil => simp
  | cons x xs ih => rw [List.flatMap_cons, List.length_append, h, ih, List.length_cons, Nat.add_mul]; omega
theorem flatMap_set {α : Type} {enc : α → List Value} {n : Nat} (h : ∀ x, (enc x).length = n) : ∀ (xs : List α) (j : Nat) (x' : α), j < xs.length →
    (xs.set j x').flatMap enc = splice (xs.flatMap enc) (j * n) (enc x')
  | [], j, x', hj => by simp at hj
  | x :: xs, 0, x', _ => by
    simp only [List.set_cons_zero, List.flatMap_cons, splice, Nat.zero_mul, List.take_zero, List.nil_append, Nat.zero_add]
    rw [h x', ← h x, List.drop_left]
  | x :: xs, j + 1, x', hj => by
    have ih := flatMap_set h xs j x' (by simpa using hj)
    simp only [List.set_cons_succ, List.flatMap_cons, ih, splice, h x']
    rw [show (j + 1) * n = (enc x).length + j * n by rw [h x, Nat.add_mul]; omega, List.take_length_add_append, Nat.add_assoc, List.drop_length_add_append, List.append_assoc]
theorem splice_splice {cs : List Value} {a q n : Nat} {vs : List Value} (h1 : a + n ≤ cs.length) (h2 : q + vs.length ≤ n) :
    splice cs a (splice ((cs.drop a).take n) q vs) = splice cs (a + q) vs := by
  unfold splice
  have e1 : ((cs.drop a).take n).take q = (cs.drop a).take q := by rw [List.take_take]; congr 1; omega
  have e2 : ((cs.drop a).take n).drop (q + vs.length) = (cs.drop (a + (q + vs.length))).take (n - (q + vs.length)) := by rw [List.drop_take, List.drop_drop]
  rw [e1, e2]
  have hlen : ((cs.drop a).take q ++ (vs ++ (cs.drop (a + (q + vs.length))).take (n - (q + vs.length)))).length = n := by
    simp
    omega
  rw [hlen]
  have e3 : cs.take (a + q) = cs.take a ++ (cs.drop a).take q := by rw [List.take_add]
  have e4 : cs.drop (a + q + vs.length) = (cs.drop (a + (q + vs.length))).take (n - (q + vs.length)) ++ cs.drop (a + n) := by
    rw [show a + q + vs.length = a + (q + vs.length) by omega]
    conv => lhs; rw [← List.take_append_drop (n - (q + vs.length)) (cs.drop (a + (q + vs.length)))]
    rw [List.drop_drop, show a + (q + vs.length) + (n - (q + vs.length)) = a + n by omega]
  rw [e3, e4]
  simp only [List.append_assoc]
theorem splice_take {cs : List Value} {j n : Nat} {vs : List Value} (h : j + vs.length ≤ n) : (splice cs j vs).take n = splice (cs.take n) j vs := by
  unfold splice
  rw [List.take_append, List.take_append, List.take_take, List.take_take, List.drop_take]
  by_cases hj : j ≤ cs.length
  · rw [show min n j = j by omega, show min j n = j by omega, List.length_take, Nat.min_eq_left hj, List.take_of_length_le (l := vs) (by omega), show n - j - vs.length = n - (j + vs.length) by omega]
  · have h1 : cs.drop (j + vs.length) = [] := List.drop_of_length_le (by omega)
    rw [h1, List.length_take, show min n j = j by omega, show min j n = j by omega, List.take_of_length_le (l := vs) (by omega)]
    simp
theorem e_put {α : Type} [Inhabited α] {kt : Ty α} {enc : α → List Value} [Flat kt enc] (t : TypeId) (a x : Operand) (li : Nat) (b : Nat) (e : TypeId) (n c : Nat) (xs : List α) (x' : α) (j : Int) (q : Nat) (v : Value)
    (hop : o.op = .store t a x)
    (ha : ev_ a = .pointer (some ⟨b, 0 + j.toNat * kt.sz + q, none⟩)) (hx : ev_ x = v) (hs : (P.info? t).map (·.size) = some v.cells.size) (h1 : v.cells.toList.all Value.oneCell' = true)
    (hI : Inv M w L) (hL : L[li]? = some (.row kt e (some ⟨b, 0, none⟩) n c xs)) (hj : 0 ≤ j ∧ j < n) (hq : Nat.ble (q + v.cells.size) kt.sz = true) (hx' : splice (enc (idx xs j)) q v.cells.toList = enc x')
    (h : ∀ w', Inv M w' (L.set li (.row kt e (some ⟨b, 0, none⟩) n c (xs.set j.toNat x'))) → K undef w') : Eff P o ev_ w K := by
  obtain ⟨F1, hF1, hown⟩ := hI.look hL
  have henc : ∀ x, (enc x).length = kt.sz := fun x => kt.rd_len (H := hp w) (Flat.rd_iff.2 rfl)
  have hln := hown.2
  subst hln
  have hjl : j.toNat < xs.length := by omega
  have hq' := Nat.le_of_ble_eq_true hq
  rcases hown.1 with ⟨h0, _⟩ | ⟨b', arr, hA, hFb, hb, hlc, hcm, hsz, hseq⟩
  · cases h0
  · have hbb : b' = b := by cases hA; rfl
    subst hbb
    have hb' : w.heap[b']? = some (.cells arr e (0, 0)) := hb
    have hcells := seqOwn.flat.1 hseq
    have hfit : j.toNat * kt.sz + kt.sz ≤ xs.length * kt.sz := by rw [← Nat.succ_mul]; exact Nat.mul_le_mul_right _ hjl
    have hcap : xs.length * kt.sz ≤ arr.size := by rw [hsz]; exact Nat.mul_le_mul_right _ hlc
    have hvl : v.cells.toList.length = v.cells.size := by simp
    have hrun := run_storeVar (P := P) (t := t) (o := 0 + j.toNat * kt.sz + q) (v := v) hs hb' (by omega) (List.all_eq_true.1 h1)
    refine eff_unit (w' := w.setRow b' (splice arr.toList (0 + j.toNat * kt.sz + q) v.cells.toList).toArray) ?_ (h _ ?_)
    · simp only [execOp, hop, ha, hx, Instr.storeAt, Instr.sureAddr, Sem.run_bind, Sem.run, pure, Result.andThen, hrun]
    · refine hI.turn hL (by rw [setRow_size]; exact Nat.le_refl _) rfl rfl rfl ?_
      rintro F hF hown
      rcases hown.1 with ⟨h0, _⟩ | ⟨b2, arr2, hA2, hFb2, hb2, _, _, _, hseq2⟩
      · cases h0
      · have hbb : b2 = b' := by cases hA2; rfl
        subst hbb
        have harr : arr2 = arr := by rw [hb] at hb2; cases hb2; rfl
        subst harr
        refine ⟨F, ⟨.inr ⟨b2, _, rfl, hFb2, setRow_same w b2 _ _ _ _ hb', by simpa using hlc, hcm, ?_, ?_⟩, by simp⟩, fun b3 _ hn => setRow_else w b2 b3 _ (fun e => hn (e ▸ hFb2)), fun _ h => .inl h⟩
        · rw [List.size_toArray, splice_len (by rw [hvl]; simp; omega)]
          simpa using hsz
        · refine seqOwn.flat.2 ?_
          rw [List.length_set, flatMap_set henc _ _ _ hjl, ← hx', ← hcells]
          have hget : enc (idx xs j) = ((xs.flatMap enc).drop (j.toNat * kt.sz)).take kt.sz := by
            have := flatMap_set henc xs j.toNat xs[j.toNat] hjl
            rw [List.set_getElem_self] at this
            rw [idx, List.getD_eq_getElem?_getD, List.getElem?_eq_getElem hjl, Option.getD_some]
            rw [this]
            unfold splice
            have hlen : ((xs.flatMap enc).take (j.toNat * kt.sz)).length = j.toNat * kt.sz := by
              rw [List.length_take, flatMap_len henc]
              omega
            rw [List.drop_append_of_le_length (by omega), List.drop_of_length_le (by omega), List.nil_append, ← henc xs[j.toNat], List.take_left]
          rw [hget, ← hcells, splice_splice (by simp; omega) (by rw [hvl]; exact hq')]
          rw [List.toList_toArray, splice_take (by rw [hvl]; omega), Nat.zero_add]
end
end Go.Proofs.YtnlkggppokcmfaaE
