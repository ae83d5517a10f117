/- Layer 10: what transactions wrote, and who wrote on a key. -/
import Derived.Test.YtnlkggppokcmfaaTPLD
namespace Go.Proofs.YtnlkggppokcmfaaT
open Go Go.Proofs Go.Proofs.YtnlkggppokcmfaaE
set_option linter.unusedVariables false
set_option linter.unusedSimpArgs false
def wroteOf (h : History) (t : Int) (key : Int) : List Int := ownL (idx h.Txns t).Ops key (idx h.Txns t).Ops.length
theorem wroteOf_len {h : History} {t key : Int} : (wroteOf h t key).length ≤ (idx h.Txns t).Ops.length := ownL_len
theorem wrote_told {x : Txn} {key : Int} (ho : x.Ops.length ≤ 16) : index_wrote x key = some (ownL x.Ops key x.Ops.length) := by
  refine tri_eq.1 ?_
  unfold index_wrote
  refine tri_upm (k0 := 0) x.Ops.length (fun k s => s = (ownL x.Ops key k, (k : Int))) (Nat.zero_le _) rfl ?_
  rintro k s hk rfl
  have hw : w64 ((k : Int) + 1) = ((k + 1 : Nat) : Int) := w64zsucc (by omega)
  have l3 := ownL_len (ops := x.Ops) (key := key) (p := k)
  have hn : k < x.Ops.length → ownL x.Ops key (k + 1) = _ := fun hk => ownL_succ hk
  unfold index_wrote.s1 index_wrote.j3 index_wrote.j2
  dsimp only
  rw [hw]
  refine tri_if (fun hk1 => ?_) (fun hk1 => ?_)
  · have hk2 : k < x.Ops.length := by omega
    replace hn := hn hk2
    repeat' (first | contradiction | with_reducible refine tri_if (fun hq => ?_) (fun hq => ?_) | with_reducible refine tri_must (by first | omega | grind [w64zin]) ?_ | with_reducible refine tri_out ?_ | with_reducible refine tri_sb ?_ | with_reducible refine tri_cb ?_ | with_reducible refine tri_mb ?_ | with_reducible refine tri_bb ?_ | with_reducible refine tri_some ?_)
    all_goals (refine ⟨hk2, ?_⟩; dsimp only; grind)
  · have : k = x.Ops.length := by omega
    subst this
    repeat' (first | contradiction | with_reducible refine tri_if (fun hq => ?_) (fun hq => ?_) | with_reducible refine tri_must (by first | omega | grind [w64zin]) ?_ | with_reducible refine tri_out ?_ | with_reducible refine tri_sb ?_ | with_reducible refine tri_cb ?_ | with_reducible refine tri_mb ?_ | with_reducible refine tri_bb ?_ | with_reducible refine tri_some ?_)
    all_goals rfl
theorem Wrote_told {h : History} {t key : Int} (ht : 0 ≤ t ∧ t < (h.Txns.length : Int)) (ho : (idx h.Txns t).Ops.length ≤ 16) : assizeref05zWrote h t key = some (wroteOf h t key) := by
  refine tri_eq.1 ?_
  unfold assizeref05zWrote wroteOf
  generalize hx : (idx h.Txns t).Ops = ops at ho ⊢
  refine tri_upm (k0 := 0) ops.length (fun k s => s = (ownL ops key k, (k : Int))) (Nat.zero_le _) rfl ?_
  rintro k s hk rfl
  have hw : w64 ((k : Int) + 1) = ((k + 1 : Nat) : Int) := w64zsucc (by omega)
  have l3 := ownL_len (ops := ops) (key := key) (p := k)
  have hn : k < ops.length → ownL ops key (k + 1) = _ := fun hk => ownL_succ hk
  unfold assizeref05zWrote.s1 assizeref05zWrote.j3 assizeref05zWrote.j2 assizeref05zWrites
  simp only [hx, hw, Option.bind_some]
  refine tri_must ht ?_
  refine tri_if (fun hk1 => ?_) (fun hk1 => ?_)
  · have hk2 : k < ops.length := by omega
    replace hn := hn hk2
    repeat' (first | contradiction | with_reducible refine tri_if (fun hq => ?_) (fun hq => ?_) | with_reducible refine tri_must (by first | omega | grind [w64zin]) ?_ | with_reducible refine tri_out ?_ | with_reducible refine tri_sb ?_ | with_reducible refine tri_cb ?_ | with_reducible refine tri_mb ?_ | with_reducible refine tri_bb ?_ | with_reducible refine tri_some ?_)
    all_goals (refine ⟨hk2, ?_⟩; dsimp only; grind)
  · have : k = ops.length := by omega
    subst this
    repeat' (first | contradiction | with_reducible refine tri_if (fun hq => ?_) (fun hq => ?_) | with_reducible refine tri_must (by first | omega | grind [w64zin]) ?_ | with_reducible refine tri_out ?_ | with_reducible refine tri_sb ?_ | with_reducible refine tri_cb ?_ | with_reducible refine tri_mb ?_ | with_reducible refine tri_bb ?_ | with_reducible refine tri_some ?_)
    all_goals rfl
def wrOk (h : History) (key : Int) (t : Nat) : Bool := decide ((idx h.Txns (t : Int)).Status ≠ 2 ∧ 0 < (wroteOf h (t : Int) key).length)
def writersUp (h : History) (key : Int) (k : Nat) : List Int := ((List.range k).filter (wrOk h key)).map (fun t : Nat => (t : Int))
def othersUp (h : History) (a : Ask) (k : Nat) : List Int := (writersUp h a.Key k).filter (fun t => decide (t ≠ a.Txn))
theorem writersUp_succ {h : History} {key : Int} {k : Nat} : writersUp h key (k + 1) = if wrOk h key k then writersUp h key k ++ [(k : Int)] else writersUp h key k := by
  unfold writersUp
  rw [List.range_succ, List.filter_append, List.map_append]
  by_cases hw : wrOk h key k = true <;> simp [hw]
theorem writersUp_len {h : History} {key : Int} {k : Nat} : (writersUp h key k).length ≤ k := by
  unfold writersUp
  rw [List.length_map]
  exact Nat.le_trans (List.length_filter_le _ _) (by simp)
theorem othersUp_succ {h : History} {a : Ask} {k : Nat} : othersUp h a (k + 1) = if wrOk h a.Key k ∧ (k : Int) ≠ a.Txn then othersUp h a k ++ [(k : Int)] else othersUp h a k := by
  unfold othersUp
  rw [writersUp_succ]
  by_cases hw : wrOk h a.Key k = true <;> by_cases hn : (k : Int) = a.Txn <;> simp [hw, hn]
theorem othersUp_len {h : History} {a : Ask} {k : Nat} : (othersUp h a k).length ≤ k := Nat.le_trans (List.length_filter_le _ _) writersUp_len
theorem writers_mem {h : History} {key : Int} {k : Nat} {t : Int} : t ∈ writersUp h key k ↔ 0 ≤ t ∧ t < (k : Int) ∧ (idx h.Txns t).Status ≠ 2 ∧ 0 < (wroteOf h t key).length := by
  unfold writersUp
  simp only [List.mem_map, List.mem_filter, List.mem_range, wrOk, decide_eq_true_eq]
  constructor
  · rintro ⟨n, ⟨hn, h1, h2⟩, rfl⟩
    exact ⟨by omega, by omega, h1, h2⟩
  · rintro ⟨h0, h1, h2, h3⟩
    refine ⟨t.toNat, ⟨by omega, ?_⟩, by omega⟩
    rw [show ((t.toNat : Nat) : Int) = t by omega]
    exact ⟨h2, h3⟩
theorem others_mem {h : History} {a : Ask} {k : Nat} {t : Int} : t ∈ othersUp h a k ↔ (0 ≤ t ∧ t < (k : Int) ∧ (idx h.Txns t).Status ≠ 2 ∧ 0 < (wroteOf h t a.Key).length) ∧ t ≠ a.Txn := by
  unfold othersUp
  rw [List.mem_filter, writers_mem, decide_eq_true_eq]
theorem Writers_told {h : History} (hS : Sound h) (hc : index_Check h = some 0) {key : Int} : index_Writers h key = some (writersUp h key h.Txns.length) := by
  have h32 := hS.len
  refine tri_eq.1 ?_
  unfold index_Writers
  refine tri_bnd hc ?_
  rw [bne_self_eq_false, cond_false]
  refine tri_upm (k0 := 0) h.Txns.length (fun k s => s = (writersUp h key k, (k : Int))) (Nat.zero_le _) rfl ?_
  rintro k s hk rfl
  have hw : w64 ((k : Int) + 1) = ((k + 1 : Nat) : Int) := w64zsucc (by omega)
  have l3 := writersUp_len (h := h) (key := key) (k := k)
  have hn := writersUp_succ (h := h) (key := key) (k := k)
  unfold wrOk wroteOf at hn
  unfold index_Writers.s1 index_Writers.j3 index_Writers.j2
  dsimp only
  rw [hw]
  refine tri_if (fun hk1 => ?_) (fun hk1 => ?_)
  · have hk2 : k < h.Txns.length := by omega
    have hwt := wrote_told (x := idx h.Txns (k : Int)) (key := key) (hS.txn k hk2).ops.1
    simp only [hwt, Option.bind_some]
    repeat' (first | contradiction | with_reducible refine tri_if (fun hq => ?_) (fun hq => ?_) | with_reducible refine tri_must (by first | omega | grind [w64zin]) ?_ | with_reducible refine tri_out ?_ | with_reducible refine tri_sb ?_ | with_reducible refine tri_cb ?_ | with_reducible refine tri_mb ?_ | with_reducible refine tri_bb ?_ | with_reducible refine tri_some ?_)
    all_goals (refine ⟨hk2, ?_⟩; dsimp only; grind)
  · have : k = h.Txns.length := by omega
    subst this
    repeat' (first | contradiction | with_reducible refine tri_if (fun hq => ?_) (fun hq => ?_) | with_reducible refine tri_must (by first | omega | grind [w64zin]) ?_ | with_reducible refine tri_out ?_ | with_reducible refine tri_sb ?_ | with_reducible refine tri_cb ?_ | with_reducible refine tri_mb ?_ | with_reducible refine tri_bb ?_ | with_reducible refine tri_some ?_)
    all_goals rfl
theorem others_told {h : History} (hS : Sound h) {a : Ask} : assizeref10zothers h a = some (othersUp h a h.Txns.length) := by
  have h32 := hS.len
  refine tri_eq.1 ?_
  unfold assizeref10zothers
  refine tri_upm (k0 := 0) h.Txns.length (fun k s => s = (othersUp h a k, (k : Int))) (Nat.zero_le _) rfl ?_
  rintro k s hk rfl
  have hw : w64 ((k : Int) + 1) = ((k + 1 : Nat) : Int) := w64zsucc (by omega)
  have l3 := othersUp_len (h := h) (a := a) (k := k)
  have hn := othersUp_succ (h := h) (a := a) (k := k)
  unfold wrOk at hn
  unfold assizeref10zothers.s1 assizeref10zothers.j3 assizeref10zothers.j2
  dsimp only
  rw [hw]
  refine tri_if (fun hk1 => ?_) (fun hk1 => ?_)
  · have hk2 : k < h.Txns.length := by omega
    have hwt := Wrote_told (h := h) (t := (k : Int)) (key := a.Key) ⟨by omega, by omega⟩ (hS.txn k hk2).ops.1
    simp only [hwt, Option.bind_some]
    repeat' (first | contradiction | with_reducible refine tri_if (fun hq => ?_) (fun hq => ?_) | with_reducible refine tri_must (by first | omega | grind [w64zin]) ?_ | with_reducible refine tri_out ?_ | with_reducible refine tri_sb ?_ | with_reducible refine tri_cb ?_ | with_reducible refine tri_mb ?_ | with_reducible refine tri_bb ?_ | with_reducible refine tri_some ?_)
    all_goals (refine ⟨hk2, ?_⟩; dsimp only; grind)
  · have : k = h.Txns.length := by omega
    subst this
    repeat' (first | contradiction | with_reducible refine tri_if (fun hq => ?_) (fun hq => ?_) | with_reducible refine tri_must (by first | omega | grind [w64zin]) ?_ | with_reducible refine tri_out ?_ | with_reducible refine tri_sb ?_ | with_reducible refine tri_cb ?_ | with_reducible refine tri_mb ?_ | with_reducible refine tri_bb ?_ | with_reducible refine tri_some ?_)
    all_goals rfl
theorem Final_told {h : History} (hS : Sound h) (hc : index_Check h = some 0) {t key : Int} : index_Final h t key =
    some (if 0 ≤ t ∧ t < (h.Txns.length : Int) then (wroteOf h t key, decide (0 < (wroteOf h t key).length)) else ([], false)) := by
  refine tri_eq.1 ?_
  unfold index_Final index_Final.j1
  simp only [hc, Option.bind_some]
  by_cases ht : 0 ≤ t ∧ t < (h.Txns.length : Int)
  · have h2 : t = ((t.toNat : Nat) : Int) := by omega
    have ho := (hS.txn t.toNat (by omega)).ops.1
    rw [← h2] at ho
    have hwt := wrote_told (x := idx h.Txns t) (key := key) ho
    simp only [hwt, Option.bind_some]
    rw [if_pos ht]
    unfold wroteOf
    repeat' (first | contradiction | with_reducible refine tri_if (fun hq => ?_) (fun hq => ?_) | with_reducible refine tri_must (by first | omega | grind [w64zin]) ?_ | with_reducible refine tri_out ?_ | with_reducible refine tri_sb ?_ | with_reducible refine tri_cb ?_ | with_reducible refine tri_mb ?_ | with_reducible refine tri_bb ?_ | with_reducible refine tri_some ?_)
    all_goals (first | omega | simp)
  · rw [if_neg ht]
    repeat' (first | contradiction | with_reducible refine tri_if (fun hq => ?_) (fun hq => ?_) | with_reducible refine tri_must (by first | omega | grind [w64zin]) ?_ | with_reducible refine tri_out ?_ | with_reducible refine tri_sb ?_ | with_reducible refine tri_cb ?_ | with_reducible refine tri_mb ?_ | with_reducible refine tri_bb ?_ | with_reducible refine tri_some ?_)
    all_goals (first | omega | rfl | simp)
def finOf (h : History) (a : Ask) (l : List Int) : List SourceFinal := l.map (fun t => ⟨t, wroteOf h t a.Key⟩)
theorem finals_told {h : History} (hS : Sound h) (hc : index_Check h = some 0) {a : Ask} : source_finals h a = some (finOf h a (othersUp h a h.Txns.length)) := by
  have h32 := hS.len
  refine tri_eq.1 ?_
  unfold source_finals
  refine tri_bnd (Writers_told hS hc) ?_
  obtain ⟨W, hW⟩ : ∃ W, W = writersUp h a.Key h.Txns.length := ⟨_, rfl⟩
  have hWl := writersUp_len (h := h) (key := a.Key) (k := h.Txns.length)
  have hWm : ∀ j : Nat, j < W.length → idx W (j : Int) ∈ writersUp h a.Key h.Txns.length := by
    intro j hj
    rw [← hW, idx_eq (n := j) (by omega) (by omega)]
    exact List.getElem_mem _
  unfold othersUp
  rw [← hW] at hWl ⊢
  refine tri_upm (k0 := 0) W.length (fun k s => s = (finOf h a ((W.take k).filter (fun t => decide (t ≠ a.Txn))), (k : Int))) (Nat.zero_le _) (by simp [finOf]) ?_
  rintro k s hk rfl
  have hw : w64 ((k : Int) + 1) = ((k + 1 : Nat) : Int) := w64zsucc (by omega)
  have l3 : (finOf h a ((W.take k).filter (fun t => decide (t ≠ a.Txn)))).length ≤ 32 := by
    unfold finOf
    rw [List.length_map]
    exact Nat.le_trans (List.length_filter_le _ _) (by rw [List.length_take]; omega)
  unfold source_finals.s1 source_finals.j3 source_finals.j2
  dsimp only
  rw [hw]
  refine tri_if (fun hk1 => ?_) (fun hk1 => ?_)
  · have hk2 : k < W.length := by omega
    have hm := writers_mem.1 (hWm k hk2)
    have hn : finOf h a ((W.take (k + 1)).filter (fun t => decide (t ≠ a.Txn))) = if idx W (k : Int) ≠ a.Txn then finOf h a ((W.take k).filter (fun t => decide (t ≠ a.Txn))) ++ [⟨idx W (k : Int), wroteOf h (idx W (k : Int)) a.Key⟩] else finOf h a ((W.take k).filter (fun t => decide (t ≠ a.Txn))) := by
      rw [List.take_succ_eq_append_getElem hk2, List.filter_append]
      have : W[k] = idx W (k : Int) := (idx_eq (n := k) (by omega) hk2).symm
      rw [this]
      unfold finOf
      by_cases hq : idx W (k : Int) = a.Txn <;> simp [hq]
    simp only [Final_told hS hc, Option.bind_some, if_pos (show 0 ≤ idx W (k : Int) ∧ idx W (k : Int) < (h.Txns.length : Int) from ⟨hm.1, hm.2.1⟩)]
    repeat' (first | contradiction | with_reducible refine tri_if (fun hq => ?_) (fun hq => ?_) | with_reducible refine tri_must (by first | omega | grind [w64zin]) ?_ | with_reducible refine tri_out ?_ | with_reducible refine tri_sb ?_ | with_reducible refine tri_cb ?_ | with_reducible refine tri_mb ?_ | with_reducible refine tri_bb ?_ | with_reducible refine tri_some ?_)
    all_goals (refine ⟨hk2, ?_⟩; dsimp only; grind)
  · have : k = W.length := by omega
    subst this
    repeat' (first | contradiction | with_reducible refine tri_if (fun hq => ?_) (fun hq => ?_) | with_reducible refine tri_must (by first | omega | grind [w64zin]) ?_ | with_reducible refine tri_out ?_ | with_reducible refine tri_sb ?_ | with_reducible refine tri_cb ?_ | with_reducible refine tri_mb ?_ | with_reducible refine tri_bb ?_ | with_reducible refine tri_some ?_)
    all_goals exact (by rw [List.take_length] : finOf h a ((W.take W.length).filter (fun t => decide (t ≠ a.Txn))) = finOf h a (W.filter (fun t => decide (t ≠ a.Txn))))
end Go.Proofs.YtnlkggppokcmfaaT
