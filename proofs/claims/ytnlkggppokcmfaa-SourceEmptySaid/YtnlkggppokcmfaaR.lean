/- The engine, part R: appends of slices that are read; empty slices; what pieces a value leads to. -/
import Derived.Test.YtnlkggppokcmfaaQ
namespace Go.Proofs.YtnlkggppokcmfaaE
open Go
set_option linter.unusedVariables false
set_option linter.unusedSimpArgs false
section
variable {P : Program} {o : Oper} {ev_ : Operand → Value} {K : Value → World → Prop} {E : Env} {ops : Array Oper} {k : List Item} {f : Nat → Value} {w : World} {M : Mem} {L : List Asrt}
theorem e_empty {α : Type} (kt : Ty α) (t e : TypeId) (inf : TypeInfo) (hop : o.op = .buildSlice t 0 #[]) (ht : P.underlying t = some (.slice e)) (hi : P.info? e = some inf) (hI : Inv M w L)
    (h : ∀ b w', Inv M w' (L ++ [.row kt e (some ⟨b, 0, none⟩) 0 0 ([] : List α)]) → K (.slice (some ⟨b, 0, none⟩) 0 0) w') : Eff P o ev_ w K := by
  refine eff_val (.slice (some ⟨w.heap.size, 0, none⟩) 0 0) (w' := w.alloc (.cells #[] e)) ?_ ?_
  · simp only [execOp, hop, Instr.buildSlice, Sem.run_bind, run_underlying' ht, Result.andThen, run_sizeOf hi]
    simp [Sem.run, pure, Instr.fill, newRow, newObj]
    have : (Array.range 0) = #[] := by decide
    rw [this, Array.map_empty]
  · exact h _ _ (hI.alloc _ ⟨.inr ⟨w.heap.size, _, rfl, rfl, hp_alloc_new w _, Nat.le_refl _, Nat.zero_le _, by simp, by simp [seqOwn]⟩, rfl⟩)
theorem run_append_zero (t ty e : TypeId) (i : TypeInfo) (ht : P.underlying t = some (.slice e)) (hi : P.info? e = some i) (A A2 : Option Addr) (n c c2 : Nat) (hnc : n ≤ c) :
    (Builtin.append_ #[t, t] ty #[.slice A n c, .slice A2 0 c2]).run P w = .ok (.slice A n c) w := by
  cases A <;> cases A2 <;> simp [Builtin.append_, run_underlying ht, sizeOf, typeInfo, hi, Builtin.lenOf, Builtin.firstCells, loadCells, loadCellsFrom, hnc, storeCells]
theorem e_append_rd {α : Type} {kt : Ty α} {enc : α → List Value} [Flat kt enc] (t ty e : TypeId) (s x : Operand) (inf : TypeInfo) (z : Value) (A A2 : Option Addr) (n c : Nat) (xs ys : List α) (c2 : Nat) (li : Nat) (rest : List Nat) (L' : List Asrt)
    (hop : o.op = .call { callee := .builtin .append, args := #[s, x], argTypes := #[t, t] })
    (hs : ev_ s = .slice A n c) (hx : ev_ x = .slice A2 ys.length c2)
    (ht : P.underlying t = some (.slice e)) (hi : P.info? e = some inf) (hz : inf.zero = some z) (hsz : inf.size = kt.sz) (hzs : z.cells.size = kt.sz) (hpos : Nat.blt 0 kt.sz = true)
    (hI : Inv M w L) (hn : (li :: rest).Nodup) (hL : (li :: rest).map (L[·]?) = (.row kt e A n c xs :: L').map some)
    (hr : rdS kt (hp w) A2 ys) (hbytes : ((n + ys.length) + (n + ys.length) / 4 + 192) * inf.bytes ≤ 281474976710656 ∧ n + ys.length ≤ 9223372036854775807)
    (h : ∀ A' c' w', Inv M w' (.row kt e A' (xs ++ ys).length c' (xs ++ ys) :: L') → K (.slice A' (xs ++ ys).length c') w') : Eff P o ev_ w K := by
  rcases hr with rfl | ⟨b, of, rfl, hcs⟩
  · have hI2 := hI.pick _ hn hL
    have hln : xs.length = n := hI2.rowlen 0 rfl
    subst hln
    have hle : xs.length ≤ c := by
      obtain ⟨F, _, hown⟩ := hI2.look (i := 0) rfl
      exact rowOwn.le hown.1
    refine eff_val (.slice A xs.length c) (w' := w) ?_ ?_
    · have hargs : (#[s, x] : Array Operand).map (ev_) = #[.slice A xs.length c, .slice A2 0 c2] := by simp [hs, hx]
      simp only [execOp, hop, resolve, invoke, builtin, Sem.run_bind, Sem.run, pure, Result.andThen, hargs, run_append_zero t o.type e inf ht hi A A2 xs.length c c2 hle]
    · have := h A c w (by simpa using hI2)
      simpa using this
  · have hlen : ∀ x, (enc x).length = kt.sz := fun x => kt.rd_len (H := hp w) (Flat.rd_iff.2 rfl)
    refine e_append kt t ty e s x inf z A n c xs ys b of ys.length c2 (ys.flatMap enc) li [] rest [] L' hop hs hx ht hi hz hsz hzs hpos hI hn hL (flatMap_len hlen ys) rfl ?_ hbytes ?_ h
    · intro j u hu
      rw [cell_hp]
      exact rdS.cells hcs j u hu
    · intro H F _
      exact seqOwn.flat.2 rfl
end
theorem Inv.rowle {M : Mem} {w : World} {L : List Asrt} (h : Inv M w L) (i : Nat) {α : Type} {k : Ty α} {e : TypeId} {A : Option Addr} {n c : Nat} {xs : List α} (hi : L[i]? = some (.row k e A n c xs)) : xs.length ≤ c := by
  obtain ⟨F1, _, hown⟩ := h.look hi
  exact rowOwn.le hown.1
def subl {α : Type} (xs : List α) (l h : Int) : List α := (xs.take h.toNat).drop l.toNat
theorem run_slice_opt {P : Program} {w : World} {t e : TypeId} {inf : TypeInfo} (A : Option Addr) (n c : Nat) (lo hi : Option Value) (kl kh : IntKind) (l h : Int) (ht : P.underlying t = some (.slice e)) (hi' : P.info? e = some inf)
    (hlo : lo.getD (.int .i64 0) = .int kl l) (hhi : hi.getD (.int .i64 n) = .int kh h) (hb : 0 ≤ l ∧ l ≤ h ∧ h ≤ n) (hc : n ≤ c) :
    (Instr.sliceAt t (.slice A n c) lo hi none).run P w = .ok (.slice (if c = l.toNat then A else A.map (·.add (l.toNat * inf.size))) (h.toNat - l.toNat) (c - l.toNat)) w := by
  have hel : P.elem t = e := by simp [Program.elem, ht]
  rw [run_sliceAt_slice w t _ _ _ _ (by rw [hel]; exact ht)]
  have hz : (sizeOf (P.elem t)).run P w = .ok inf.size w := by rw [hel]; exact run_sizeOf hi'
  have ht' : P.underlying t = some (.slice (P.elem t)) := by rw [hel]; exact ht
  cases lo <;> cases hi <;> simp only [Option.getD_none, Option.getD_some] at hlo hhi
  · cases hlo; cases hhi
    rw [run_slice_all w t A n c ht', hz]
    simp [Result.andThen, sliced]
  · cases hlo; subst hhi
    rw [run_slice_h w t A n c ht' kh h (by omega) (by omega), hz]
    simp [Result.andThen, sliced]
  · cases hhi; subst hlo
    rw [run_slice_l w t A n c ht' kl l (by omega) (by omega), hz]
    simp [Result.andThen, sliced]
  · subst hlo hhi
    rw [run_slice_lh w t A n c ht' kl kh l h (by omega) (by omega) (by omega), hz]
    simp [Result.andThen, sliced]
theorem subl_len {α : Type} {xs : List α} {l h : Int} (hb : 0 ≤ l ∧ l ≤ h ∧ h ≤ xs.length) : (subl xs l h).length = h.toNat - l.toNat := by
  unfold subl
  rw [List.length_drop, List.length_take]
  omega
section
variable {P : Program} {o : Oper} {ev_ : Operand → Value} {K : Value → World → Prop} {w : World} {M : Mem} {L : List Asrt}
theorem rdS.sub {α : Type} {k : Ty α} {H : BM} {A : Option Addr} {xs : List α} {c : Nat} {l h : Int} {sz : Nat} (hr : rdS k H A xs) (hc : xs.length ≤ c) (hb : 0 ≤ l ∧ l ≤ h ∧ h ≤ xs.length) (hsz : sz = k.sz) :
    rdS k H (if c = l.toNat then A else A.map (·.add (l.toNat * sz))) (subl xs l h) := by
  subst hsz
  by_cases e : c = l.toNat
  · left
    apply List.eq_nil_of_length_eq_zero
    rw [subl_len hb]
    omega
  · rw [if_neg e]
    rcases hr with rfl | ⟨b, o, rfl, hcs⟩
    · left; simp [subl]
    · right
      refine ⟨b, o + l.toNat * k.sz, by simp [addr_add], fun j x hj => ?_⟩
      unfold subl at hj
      rw [List.getElem?_drop, List.getElem?_take] at hj
      split at hj
      · obtain ⟨cs, h1, h2⟩ := hcs _ _ hj
        refine ⟨cs, h1, fun i u hu => ?_⟩
        rw [show o + l.toNat * k.sz + j * k.sz + i = o + (l.toNat + j) * k.sz + i by rw [Nat.add_mul]; omega]
        exact h2 i u hu
      · cases hj
theorem e_slice_ro {α : Type} (kt : Ty α) (H : BM) (t e : TypeId) (x : Operand) (lo hi : Option Operand) (inf : TypeInfo) (A : Option Addr) (c : Nat) (xs : List α) (kl kh : IntKind) (l h : Int) (hop : o.op = .slice t x lo hi none)
    (hx : ev_ x = .slice A xs.length c) (hlo : (lo.map ev_).getD (.int .i64 0) = .int kl l) (hhi : (hi.map ev_).getD (.int .i64 xs.length) = .int kh h)
    (ht : P.underlying t = some (.slice e)) (hi' : P.info? e = some inf) (hsz : inf.size = kt.sz) (hr : rdS kt H A xs) (hc : xs.length ≤ c) (hb : 0 ≤ l ∧ l ≤ h ∧ h ≤ xs.length)
    (h : ∀ A' c', rdS kt H A' (subl xs l h) → (subl xs l h).length ≤ c' → K (.slice A' (subl xs l h).length c') w) : Eff P o ev_ w K := by
  have hrun := run_slice_opt (w := w) A xs.length c (lo.map ev_) (hi.map ev_) kl kh l _ ht hi' hlo hhi hb hc
  refine eff_val _ (w' := w) ?_ (h _ (c - l.toNat) (hr.sub hc hb hsz) ?_)
  · simp only [execOp, hop, hx, Option.map_none, Sem.run_bind, hrun, Result.andThen, Sem.run, pure, subl_len hb]
  · rw [subl_len hb]; omega
end
def Mk {α : Type} (k : Ty α) (R : List Asrt) (x : α) (cs : List Value) : Prop := ∀ (H : BM) (F : Nat → Prop), sep R H F → k.own H F x cs
def MkS {α : Type} (k : Ty α) (R : List Asrt) (xs : List α) (cs : List Value) : Prop := ∀ (H : BM) (F : Nat → Prop), sep R H F → seqOwn k H F xs cs
theorem mk_flat {α : Type} {k : Ty α} {enc : α → List Value} [Flat k enc] (x : α) (cs : List Value) (h : cs = enc x) : Mk k [] x cs := fun _ _ _ => Flat.own_iff.2 h
theorem mk_row {α : Type} {k : Ty α} {e : TypeId} {A : Option Addr} {n c : Nat} {xs : List α} : Mk (tSlice e k) [.row k e A n c xs] xs [.slice A n c] := by
  rintro H F ⟨F1, F2, h1, h2, h3, ⟨hr, hl⟩, _⟩
  subst hl
  exact ⟨A, c, rfl, hr.mono h1⟩
theorem mk_nil {α : Type} {k : Ty α} {e : TypeId} : Mk (tSlice e k) [] ([] : List α) [.slice none 0 0] := fun _ _ _ => ⟨none, 0, rfl, rowOwn.nil⟩
theorem mk_pair {α β : Type} {a : Ty α} {b : Ty β} {R1 R2 : List Asrt} {x : α} {y : β} {c1 c2 : List Value} (h1 : Mk a R1 x c1) (h2 : Mk b R2 y c2) : Mk (tPair a b) (R1 ++ R2) (x, y) (c1 ++ c2) := by
  intro H F h
  obtain ⟨F1, F2, g1, g2, g3, s1, s2⟩ := h.split
  exact ⟨c1, c2, F1, F2, rfl, g1, g2, g3, h1 H F1 s1, h2 H F2 s2⟩
theorem mk_iso {α β : Type} {k : Ty α} {g : β → α} {R : List Asrt} {x : β} {cs : List Value} (h : Mk k R (g x) cs) : Mk (k.iso g) R x cs := h
theorem mks_nil {α : Type} {k : Ty α} : MkS k [] ([] : List α) [] := fun _ _ _ => rfl
theorem mks_cons {α : Type} {k : Ty α} {R1 R2 : List Asrt} {x : α} {xs : List α} {c1 c2 : List Value} (h1 : Mk k R1 x c1) (h2 : MkS k R2 xs c2) : MkS k (R1 ++ R2) (x :: xs) (c1 ++ c2) := by
  intro H F h
  obtain ⟨F1, F2, g1, g2, g3, s1, s2⟩ := h.split
  exact ⟨c1, c2, F1, F2, rfl, g1, g2, g3, h1 H F1 s1, h2 H F2 s2⟩
theorem Inv.recell {M : Mem} {w : World} {L : List Asrt} (h : Inv M w L) (li : Nat) {b : Nat} {t : TypeId} {cs : List Value} (cs' : List Value) (he : cs = cs') (hi : L[li]? = some (.blk b t cs)) : Inv M w (L.set li (.blk b t cs')) := by
  subst he
  rw [set_same hi]
  exact h
theorem Inv.asrow {M : Mem} {w : World} {L L' R : List Asrt} {α : Type} {k : Ty α} {b : Nat} {e : TypeId} {cs : List Value} {xs : List α} (n : Nat) (h : Inv M w L) (li : Nat) (js rest : List Nat) (hn : (li :: (js ++ rest)).Nodup)
    (hL : (li :: (js ++ rest)).map (L[·]?) = (.blk b e cs :: (R ++ L')).map some) (hmk : MkS k R xs cs) (hl : cs.length = xs.length * k.sz) (hx : xs.length = n) (hm : Nat.ble n maxLen = true) :
    Inv M w (.row k e (some ⟨b, 0, none⟩) n n xs :: L') := by
  have hI := h.pick _ hn hL
  subst hx
  refine ⟨hI.fix, hI.size, hI.os, hI.tape, hI.output, ?_⟩
  obtain ⟨F1, F2, h1, h2, h3, hown, hsep⟩ := hI.sep
  obtain ⟨G1, G2, g1, g2, g3, hsR, hsL⟩ := hsep.split
  refine ⟨fun b' => F1 b' ∨ G1 b', G2, ?_, fun b' h => h2 b' (g2 b' h), ?_, ⟨.inr ⟨b, cs.toArray, rfl, .inl hown.1, hown.2, Nat.le_refl _, Nat.le_of_ble_eq_true hm, by simpa using hl, ?_⟩, rfl⟩, hsL⟩
  · rintro b' (h | h)
    · exact h1 b' h
    · exact h2 b' (g1 b' h)
  · rintro b' (h | h) h'
    · exact h3 b' h (g2 b' h')
    · exact g3 b' h h'
  · have : (cs.toArray.toList.take (xs.length * k.sz)) = cs := by
      rw [List.toList_toArray, ← hl, List.take_length]
    rw [this]
    exact (hmk _ _ hsR).mono (fun b' h => ⟨.inr h, fun e => h3 b hown.1 (e ▸ g1 b' h)⟩)
end Go.Proofs.YtnlkggppokcmfaaE
