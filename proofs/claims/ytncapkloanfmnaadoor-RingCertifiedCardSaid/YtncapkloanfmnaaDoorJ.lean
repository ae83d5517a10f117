/- A row inside of a value: how it is taken out and put back. -/
import Derived.Test.YtncapkloanfmnaaDoorT
namespace Go.Proofs.YtncapkloanfmnaaDoorE
open Go
set_option linter.unusedVariables false
set_option linter.unusedSimpArgs false
/-- the row at one place of a value: owning the value is owning the row and the rest; another row may stand there -/
structure Lens {α β : Type} (kt : Ty α) (e2 : TypeId) (k2 : Ty β) (fo : Nat) (get : α → List β) (set : α → List β → α) : Prop where
  split : ∀ {H : BM} {F : Nat → Prop} {x : α} {cs : List Value}, kt.own H F x cs → ∃ (A : Option Addr) (c : Nat) (F1 F2 : Nat → Prop), (∀ b, F1 b → F b) ∧ (∀ b, F2 b → F b) ∧ (∀ b, F1 b → ¬ F2 b) ∧
    cs[fo]? = some (.slice A (get x).length c) ∧ rowOwn k2 e2 H F1 A c (get x) ∧
    ∀ (H' : BM) (F1' F' : Nat → Prop) (A' : Option Addr) (c' : Nat) (y : List β), rowOwn k2 e2 H' F1' A' c' y → (∀ b, F2 b → H' b = H b) → (∀ b, F1' b → ¬ F2 b) → (∀ b, F1' b → F' b) → (∀ b, F2 b → F' b) →
      kt.own H' F' (set x y) (cs.set fo (.slice A' y.length c'))
theorem lens_slice {β : Type} {e2 : TypeId} {k2 : Ty β} : Lens (tSlice e2 k2) e2 k2 0 (fun x => x) (fun _ y => y) where
  split := by
    rintro H F x cs ⟨A, c, rfl, h⟩
    refine ⟨A, c, F, fun _ => False, fun _ h => h, fun _ h => h.elim, fun _ _ h => h, rfl, h, ?_⟩
    intro H' F1' F' A' c' y hy _ _ h1 _
    exact ⟨A', c', rfl, rowOwn.mono hy h1⟩
theorem lens_pair {α β γ : Type} {k1 : Ty γ} {kt : Ty α} {e2 : TypeId} {k2 : Ty β} {fo : Nat} {get : α → List β} {set : α → List β → α} (h : Lens kt e2 k2 fo get set) :
    Lens (tPair k1 kt) e2 k2 (k1.sz + fo) (fun x => get x.2) (fun x y => (x.1, set x.2 y)) where
  split := by
    rintro H F x cs ⟨c1, c2, G1, G2, rfl, g1, g2, g3, h1, h2⟩
    obtain ⟨A, c, F1, F2, f1, f2, f3, f4, f5, f6⟩ := h.split h2
    have hl := k1.rd_len (k1.own_rd h1)
    refine ⟨A, c, F1, fun b => G1 b ∨ F2 b, fun b hb => g2 b (f1 b hb), fun b hb => hb.elim (g1 b) (fun hb => g2 b (f2 b hb)), fun b hb hb' => hb'.elim (fun hb' => g3 b hb' (f1 b hb)) (f3 b hb), ?_, f5, ?_⟩
    · rw [List.getElem?_append_right (by omega), hl, Nat.add_sub_cancel_left]
      exact f4
    · intro H' F1' F' A' c' y hy hH hd hF1 hF2
      refine ⟨c1, c2.set fo (.slice A' y.length c'), G1, fun b => F1' b ∨ F2 b, ?_, fun b hb => hF2 b (.inl hb), fun b hb => hb.elim (hF1 b) (fun hb => hF2 b (.inr hb)), ?_, ?_, ?_⟩
      · rw [List.set_append_right _ _ (by omega), hl, Nat.add_sub_cancel_left]
      · intro b hb hb'
        rcases hb' with hb' | hb'
        · exact hd b hb' (.inl hb)
        · exact g3 b hb (f2 b hb')
      · exact k1.own_congr h1 (fun b hb => hH b (.inl hb))
      · exact f6 H' F1' _ A' c' y hy (fun b hb => hH b (.inr hb)) (fun b hb hb' => hd b hb (.inr hb')) (fun b hb => .inl hb) (fun b hb => .inr hb)
theorem lens_iso {α β γ : Type} {kt : Ty α} {e2 : TypeId} {k2 : Ty β} {fo : Nat} {get : α → List β} {set : α → List β → α} {g : γ → α} (h : Lens kt e2 k2 fo get set) (st : γ → List β → γ) (hst : ∀ x y, g (st x y) = set (g x) y) :
    Lens (Ty.iso kt g) e2 k2 fo (fun x => get (g x)) st where
  split := by
    rintro H F x cs h1
    obtain ⟨A, c, F1, F2, f1, f2, f3, f4, f5, f6⟩ := h.split (x := g x) h1
    refine ⟨A, c, F1, F2, f1, f2, f3, f4, f5, ?_⟩
    intro H' F1' F' A' c' y hy hH hd hF1 hF2
    have := f6 H' F1' F' A' c' y hy hH hd hF1 hF2
    show kt.own H' F' (g (st x y)) _
    rw [hst]
    exact this
section
variable {M : Mem} {w : World} {L : List Asrt}
/-- the row inside of an element, taken out; the element's cells are known -/
theorem Inv.takeF {α β : Type} [Inhabited α] {kt : Ty α} {e e2 : TypeId} {k2 : Ty β} {fo : Nat} {get : α → List β} {set : α → List β → α} (ln : Lens kt e2 k2 fo get set) {b n c : Nat} {xs : List α} {A2 : Option Addr} {m c2 : Nat} {cs0 : List Value}
    (h : Inv M w L) (li : Nat) {i : Int} (hL : L[li]? = some (.row kt e (some ⟨b, 0, none⟩) n c xs)) (hi : 0 ≤ i ∧ i < n) (hg : Grp.ok w (b, 0 + i.toNat * kt.sz, cs0)) (hcs : cs0.length = kt.sz) (hfo : cs0[fo]? = some (.slice A2 m c2)) :
    Inv M w (.row k2 e2 A2 (get (idx xs i)).length c2 (get (idx xs i)) :: L.set li (.row (tOpt kt) e (some ⟨b, 0, none⟩) n c ((xs.map Sum.inl).set i.toNat (Sum.inr cs0)))) := by
  refine h.part hL ?_
  rintro F ⟨hr, hl⟩
  subst hl
  rcases hr with ⟨h0, _⟩ | ⟨b', arr, hA, hFb, hb, hlc, hcm, hsz, hseq⟩
  · cases h0
  · cases hA
    have hj : xs[i.toNat]? = some (idx xs i) := idx_some (xs := xs) (by omega)
    have hlt : i.toNat < xs.length := (List.getElem?_eq_some_iff.1 hj).1
    have hseq' := seqOwn_inl hseq
    obtain ⟨c0, E1, E2, e1, e2', e3, e4, e5, e6, e7⟩ := hseq'.at (j := i.toNat) (x := Sum.inl (idx xs i)) (by rw [List.getElem?_map, hj]; rfl)
    have e4 : kt.own (hp w) E1 (idx xs i) c0 := e4
    have e5 : c0.length = kt.sz := e5
    have hszo : (tOpt kt).sz = kt.sz := rfl
    have hfit : i.toNat * kt.sz + kt.sz ≤ xs.length * kt.sz := by rw [← Nat.succ_mul]; exact Nat.mul_le_mul_right _ hlt
    have hcap : xs.length * kt.sz ≤ arr.size := by rw [hsz]; exact Nat.mul_le_mul_right _ hlc
    have hsame : c0 = cs0 := by
      apply List.ext_getElem?
      intro q
      rcases Nat.lt_or_ge q kt.sz with hq | hq
      · have hq1 : q < c0.length := by omega
        have hq2 : q < cs0.length := by omega
        have h1 := e6 q c0[q] (List.getElem?_eq_getElem hq1)
        have h2 := hg q cs0[q] (List.getElem?_eq_getElem hq2)
        rw [cell_hp] at h2
        unfold cellOf at h2
        rw [hb] at h2
        rw [hszo, List.getElem?_take] at h1
        split at h1
        · rw [Array.getElem?_toList] at h1
          dsimp only at h2
          rw [Nat.zero_add] at h2
          rw [h1] at h2
          rw [List.getElem?_eq_getElem hq1, List.getElem?_eq_getElem hq2]
          exact h2
        · cases h1
      · rw [List.getElem?_eq_none (by omega), List.getElem?_eq_none (by omega)]
    subst hsame
    obtain ⟨A, cc, F1, F2, f1, f2, f3, f4, f5, _⟩ := ln.split e4
    rw [hfo] at f4
    cases f4
    have hone := kt.rd_one (kt.own_rd e4)
    refine ⟨F1, fun b2 => F b2 ∧ ¬ F1 b2, fun b2 h => (e1 b2 (f1 b2 h)).1, fun b2 h => h.1, fun b2 h h' => h'.2 h, ⟨f5, rfl⟩, ⟨.inr ⟨b, arr, rfl, ⟨hFb, fun h => (e1 b (f1 b h)).2 rfl⟩, hb, by simpa using hlc, hcm, hsz, ?_⟩, by simp⟩⟩
    have h7 := e7 (hp w) (fun _ => False) (fun b2 => (F b2 ∧ ¬ F1 b2) ∧ b2 ≠ b) (Sum.inr c0) c0 ⟨rfl, e5, hone⟩
      (fun _ _ => rfl) (fun _ h => h.elim) (fun _ h => h.elim) (fun b2 hE => ⟨⟨(e2' b2 hE).1, fun h => e3 b2 (f1 b2 h) hE⟩, (e2' b2 hE).2⟩)
    rw [splice_get] at h7
    · rw [List.length_set, List.length_map]
      exact h7
    · rw [hszo, e5, List.length_take]
      have h8 : arr.toList.length = arr.size := Array.length_toList
      have h9 : ({ toList := xs } : Array α).size = xs.length := rfl
      rw [h8]
      first
        | omega
        | (rw [h9]; omega)
    · intro q u hu
      exact e6 q u hu
theorem splice_ix {cs vs : List Value} {j : Nat} (h : j + vs.length ≤ cs.length) (q : Nat) : (splice cs j vs)[q]? = if q < j then cs[q]? else if q < j + vs.length then vs[q - j]? else cs[q]? := by
  unfold splice
  have hl : (cs.take j).length = j := by rw [List.length_take]; omega
  by_cases h1 : q < j
  · rw [if_pos h1, List.getElem?_append_left (by omega), List.getElem?_take_of_lt h1]
  · rw [if_neg h1, List.getElem?_append_right (by omega), hl]
    by_cases h2 : q < j + vs.length
    · rw [if_pos h2, List.getElem?_append_left (by omega)]
    · rw [if_neg h2, List.getElem?_append_right (by omega), List.getElem?_drop]
      congr 1
      omega
theorem splice_part {cs cs0 : List Value} {o fo : Nat} {v : Value} (h : o + cs0.length ≤ cs.length) (hc : ∀ q u, cs0[q]? = some u → cs[o + q]? = some u) (hfo : fo < cs0.length) :
    splice cs (o + fo) [v] = splice cs o (cs0.set fo v) := by
  apply List.ext_getElem?
  intro q
  have l1 : ([v] : List Value).length = 1 := rfl
  rw [splice_ix (by rw [l1]; omega), splice_ix (by rw [List.length_set]; omega), List.length_set, l1]
  by_cases h1 : q < o
  · rw [if_pos (by omega), if_pos h1]
  · rw [if_neg h1]
    by_cases h2 : q < o + cs0.length
    · rw [if_pos h2, List.getElem?_set]
      have hq := hc (q - o) cs0[q - o] (List.getElem?_eq_getElem (by omega))
      rw [show o + (q - o) = q by omega] at hq
      by_cases h3 : q < o + fo
      · rw [if_pos h3, if_neg (by omega), hq, List.getElem?_eq_getElem (by omega)]
      · rw [if_neg h3]
        by_cases h4 : q < o + fo + 1
        · rw [if_pos h4, if_pos (by omega), if_pos (by omega), show q - (o + fo) = 0 by omega]; rfl
        · rw [if_neg h4, if_neg (by omega), hq, List.getElem?_eq_getElem (by omega)]
    · rw [if_neg h2, if_neg (by omega), if_neg (by omega)]
theorem Inv.row0 {α : Type} {k : Ty α} {e : TypeId} {b q n c : Nat} {xs : List α} (h : Inv M w L) (i : Nat) (hi : L[i]? = some (.row k e (some ⟨b, q, none⟩) n c xs)) : q = 0 := by
  obtain ⟨F, _, hown⟩ := h.look hi
  rcases hown.1 with ⟨h0, _⟩ | ⟨b', arr, hA, _⟩
  · cases h0
  · cases hA; rfl
/-- an element that was taken out is put back, its cells unchanged -/
theorem Inv.backF {α : Type} [Inhabited α] {kt : Ty α} (li : Nat) (js rest : List Nat) {b : Nat} {e : TypeId} {n c : Nat} {xs : List α} (x' : α) {j : Int} {cs0 : List Value} {R L' : List Asrt}
    (hI : Inv M w L) (hn : (li :: (js ++ rest)).Nodup) (hL : (li :: (js ++ rest)).map (L[·]?) = (.row (tOpt kt) e (some ⟨b, 0, none⟩) n c ((xs.map Sum.inl).set j.toNat (Sum.inr cs0)) :: (R ++ L')).map some) (hj : 0 ≤ j ∧ j < n)
    {cs1 : List Value} (hmk1 : ∀ H F, Go.Proofs.YtncapkloanfmnaaDoorE.sep R H F → kt.own H F x' cs1) (hcs : cs1 = cs0 := by first | rfl | simp only [List.length_set]) : Inv M w (.row kt e (some ⟨b, 0, none⟩) n c (xs.set j.toNat x') :: L') := by
  have hmk : ∀ H F, Go.Proofs.YtncapkloanfmnaaDoorE.sep R H F → kt.own H F x' cs0 := hcs ▸ hmk1
  have hI2 := hI.pick _ hn hL
  obtain ⟨F1, F2, h1, h2, h3, ⟨hrow, hln⟩, hsep⟩ := hI2.sep
  have hln : xs.length = n := by simpa using hln
  subst hln
  obtain ⟨G1, G2, g1, g2, g3, hsR, hsL⟩ := hsep.split
  have hy := hmk _ _ hsR
  have hjl : j.toNat < xs.length := by omega
  have hszo : (tOpt kt).sz = kt.sz := rfl
  rcases hrow with ⟨h0, _⟩ | ⟨b', arr, hA, hFb, hb, hlc, hcm, hsz, hseq⟩
  · cases h0
  · have hbb : b' = b := by cases hA; rfl
    subst hbb
    rw [List.length_set, List.length_map] at hlc hseq
    have hsz : arr.size = c * kt.sz := hsz
    have hfit : j.toNat * kt.sz + kt.sz ≤ xs.length * kt.sz := by rw [← Nat.succ_mul]; exact Nat.mul_le_mul_right _ hjl
    have hcap : xs.length * kt.sz ≤ arr.size := by rw [hsz]; exact Nat.mul_le_mul_right _ hlc
    obtain ⟨c0, E1, E2, e1, e2, e3, e4, e5, e6, e7⟩ := hseq.at (j := j.toNat) (x := Sum.inr cs0) (by rw [List.getElem?_set]; simp [hjl])
    have hc0 : c0 = cs0 := e4.1
    subst hc0
    have hbF2 : ¬ F2 b' := h3 _ hFb
    have hs7 := e7 (hp w) G1 (fun b2 => (F1 b2 ∨ G1 b2) ∧ b2 ≠ b') (Sum.inl x') c0 hy (fun _ _ => rfl) (fun b2 hG hE => h3 b2 (e2 b2 hE).1 (g1 b2 hG))
      (fun b2 hG => ⟨.inr hG, fun e => hbF2 (e ▸ g1 b2 hG)⟩) (fun b2 hE => ⟨.inl (e2 b2 hE).1, (e2 b2 hE).2⟩)
    rw [set_inl, splice_get (by
      have h8 : arr.toList.length = arr.size := Array.length_toList
      rw [List.length_take, h8, e5, hszo]; omega) e6] at hs7
    refine ⟨hI2.fix, hI2.size, hI2.os, hI2.tape, hI2.output, fun b2 => F1 b2 ∨ G1 b2, G2, ?_, fun b2 h => h2 b2 (g2 b2 h), ?_, ⟨.inr ⟨b', arr, rfl, .inl hFb, hb, by simpa using hlc, hcm, hsz, ?_⟩, by simp⟩, hsL⟩
    · rintro b2 (h | h)
      · exact h1 b2 h
      · exact h2 b2 (g1 b2 h)
    · rintro b2 (h | h) h'
      · exact h3 b2 h (g2 b2 h')
      · exact g3 b2 h h'
    · rw [List.length_set]
      exact seqOwn_back hs7
variable {P : Program} {o : Oper} {ev_ : Operand → Value} {K : Value → World → Prop}
/-- one cell of an element that was taken out is stored, with the pieces that all of it leads to: the element is back -/
theorem e_putF {α : Type} [Inhabited α] {kt : Ty α} (t : TypeId) (a x : Operand) (li : Nat) (js rest : List Nat) (b : Nat) (e : TypeId) (n c : Nat) (xs : List α) (x' : α) (j : Int) (fo : Nat) (v : Value) (cs0 : List Value) (R L' : List Asrt)
    (hop : o.op = .store t a x)
    (ha : ev_ a = .pointer (some ⟨b, 0 + j.toNat * kt.sz + fo, none⟩)) (hx : ev_ x = v) (hs : (P.info? t).map (·.size) = some v.cells.size) (hv : v.cells.toList = [v])
    (hI : Inv M w L) (hn : (li :: (js ++ rest)).Nodup) (hL : (li :: (js ++ rest)).map (L[·]?) = (.row (tOpt kt) e (some ⟨b, 0, none⟩) n c ((xs.map Sum.inl).set j.toNat (Sum.inr cs0)) :: (R ++ L')).map some) (hj : 0 ≤ j ∧ j < n)
    (hcs : cs0.length = kt.sz) (hfo : fo < cs0.length)
    (hmk : ∀ H F, Go.Proofs.YtncapkloanfmnaaDoorE.sep R H F → kt.own H F x' (cs0.set fo v))
    (h : ∀ w', Inv M w' (.row kt e (some ⟨b, 0, none⟩) n c (xs.set j.toNat x') :: L') → K undef w') : Eff P o ev_ w K := by
  have hI2 := hI.pick _ hn hL
  obtain ⟨F1, F2, h1, h2, h3, ⟨hrow, hln⟩, hsep⟩ := hI2.sep
  have hln : xs.length = n := by simpa using hln
  subst hln
  obtain ⟨G1, G2, g1, g2, g3, hsR, hsL⟩ := hsep.split
  have hy := hmk _ _ hsR
  have hone := kt.rd_one (kt.own_rd hy)
  have hjl : j.toNat < xs.length := by omega
  have hszo : (tOpt kt).sz = kt.sz := rfl
  rcases hrow with ⟨h0, _⟩ | ⟨b', arr, hA, hFb, hb, hlc, hcm, hsz, hseq⟩
  · cases h0
  · have hbb : b' = b := by cases hA; rfl
    subst hbb
    rw [List.length_set, List.length_map] at hlc hseq
    have hb' : w.heap[b']? = some (.cells arr e (0, 0)) := hb
    have hsz : arr.size = c * kt.sz := hsz
    have hfit : j.toNat * kt.sz + kt.sz ≤ xs.length * kt.sz := by rw [← Nat.succ_mul]; exact Nat.mul_le_mul_right _ hjl
    have hcap : xs.length * kt.sz ≤ arr.size := by rw [hsz]; exact Nat.mul_le_mul_right _ hlc
    have hvl : v.cells.size = 1 := by
      have := congrArg List.length hv
      simpa using this
    obtain ⟨c0, E1, E2, e1, e2, e3, e4, e5, e6, e7⟩ := hseq.at (j := j.toNat) (x := Sum.inr cs0) (by rw [List.getElem?_set]; simp [hjl])
    have hc0 : c0 = cs0 := e4.1
    subst hc0
    have hv1 : v.oneCell' = true := hone v (by rw [List.mem_iff_getElem]; exact ⟨fo, by rw [List.length_set]; exact hfo, List.getElem_set_self _⟩)
    have hrun := run_storeVar (P := P) (t := t) (o := 0 + j.toNat * kt.sz + fo) (v := v) hs hb' (by omega) (fun u hu => by rw [hv, List.mem_singleton] at hu; rw [hu]; exact hv1)
    have hpart : splice arr.toList (0 + j.toNat * kt.sz + fo) v.cells.toList = splice arr.toList (0 + j.toNat * kt.sz) (c0.set fo v) := by
      rw [hv]
      refine splice_part ?_ ?_ hfo
      · have h8 : arr.toList.length = arr.size := Array.length_toList
        rw [h8]; omega
      · intro q u hu
        have := e6 q u hu
        rw [hszo, List.getElem?_take] at this
        split at this
        · rw [Nat.zero_add]; exact this
        · cases this
    have hnl : (c0.set fo v).length = kt.sz := by rw [List.length_set]; exact hcs
    refine eff_unit (w' := w.setRow b' (splice arr.toList (0 + j.toNat * kt.sz) (c0.set fo v)).toArray) ?_ (h _ ?_)
    · rw [← hpart]
      simp only [execOp, hop, ha, hx, Instr.storeAt, Instr.sureAddr, Sem.run_bind, Sem.run, pure, Result.andThen, hrun]
    · have hother : ∀ b2, b2 ≠ b' → hp (w.setRow b' (splice arr.toList (0 + j.toNat * kt.sz) (c0.set fo v)).toArray) b2 = hp w b2 := fun b2 hne => setRow_else w b' b2 _ hne
      have hblt : b' < w.heap.size := (h1 _ hFb).2
      have hbF2 : ¬ F2 b' := h3 _ hFb
      have hs7 := e7 (hp (w.setRow b' (splice arr.toList (0 + j.toNat * kt.sz) (c0.set fo v)).toArray)) G1 (fun b2 => (F1 b2 ∨ G1 b2) ∧ b2 ≠ b') (Sum.inl x') (c0.set fo v)
        (kt.own_congr hy (fun b2 hG => hother b2 (fun e => hbF2 (e ▸ g1 b2 hG)))) (fun b2 hE => hother b2 (e2 b2 hE).2) (fun b2 hG hE => h3 b2 (e2 b2 hE).1 (g1 b2 hG))
        (fun b2 hG => ⟨.inr hG, fun e => hbF2 (e ▸ g1 b2 hG)⟩) (fun b2 hE => ⟨.inl (e2 b2 hE).1, (e2 b2 hE).2⟩)
      rw [set_inl] at hs7
      refine ⟨fun b2 ob hM => ?_, by rw [setRow_size]; exact hI2.size, hI2.os, hI2.tape, hI2.output, fun b2 => F1 b2 ∨ G1 b2, G2, ?_, ?_, ?_, ⟨.inr ⟨b', _, rfl, .inl hFb, setRow_same w b' _ _ _ _ hb', by simpa using hlc, hcm, ?_, ?_⟩, by simp⟩, ?_⟩
      · rw [hother b2 (fun e => ?_)]
        · exact hI2.fix b2 ob hM
        · have := (h1 _ hFb).1
          rw [← e, hM] at this
          cases this
      · rintro b2 (h | h)
        · rw [setRow_size]; exact h1 b2 h
        · rw [setRow_size]; exact h2 b2 (g1 b2 h)
      · intro b2 h
        rw [setRow_size]; exact h2 b2 (g2 b2 h)
      · rintro b2 (h | h) h'
        · exact h3 b2 h (g2 b2 h')
        · exact g3 b2 h h'
      · rw [List.size_toArray, splice_len (by rw [hnl]; simp; omega)]
        simpa using hsz
      · rw [List.length_set, List.toList_toArray, splice_take (by rw [hnl]; omega)]
        simp only [Nat.zero_add] at hs7 ⊢
        exact seqOwn_back hs7
      · exact hsL.congr (fun b2 h => hother b2 (fun e => hbF2 (e ▸ g2 b2 h)))
end
theorem eff_ins {P : Program} {o : Oper} {ev_ : Operand → Value} {K : Value → World → Prop} {w : World} {t : TypeId} {a x y : Operand} (hop : o.op = .insert t a x y) (h : Eff P { o with op := .mapUpdate t a x y } ev_ w K) : Eff P o ev_ w K := by
  constructor
  have : execOp ev_ o = execOp ev_ { o with op := .mapUpdate t a x y } := by simp only [execOp, hop]
  rw [this]
  exact h.out
theorem two_of {x : Int} (h : 0 ≤ x ∧ x < ((2 : Nat) : Int)) (h0 : (x == 0) = false) : x = 1 := by
  have : x ≠ 0 := by intro e; subst e; simp at h0
  omega
theorem row_some {α : Type} {k : Ty α} {H : BM} {A : Option Addr} {xs : List α} (h : rdS k H A xs) (hx : xs ≠ []) : A.isNone = false := by
  rcases h with h | ⟨b, o, rfl, _⟩
  · exact absurd h hx
  · rfl
theorem run_isnil' {P : Program} {w : World} {t el : TypeId} {A : Option Addr} {n c : Nat} (ht : P.underlying t = some (.slice el)) (d : Nat) : (Op.equalIn (d + 1) t (.slice A n c) (.slice none 0 0)).run P w = .ok A.isNone w := by
  simp only [Op.equalIn, Sem.run_bind, run_underlying' ht, Result.andThen]
  cases A <;> rfl
theorem run_isnil {P : Program} {w : World} {t el : TypeId} {A : Option Addr} {n c : Nat} (ht : P.underlying t = some (.slice el)) : (Op.equal t (.slice A n c) (.slice none 0 0)).run P w = .ok A.isNone w := run_isnil' ht 9999
theorem e_isnil {P : Program} {o : Oper} {ev_ : Operand → Value} {K : Value → World → Prop} {w : World} (t el : TypeId) (x y : Operand) (yt : TypeId) (A : Option Addr) (n c : Nat) {b : Bool} (hb : A.isNone = b) (hop : o.op = .binOp .eql t x y yt)
    (ht : P.underlying t = some (.slice el)) (hx : ev_ x = .slice A n c) (hy : ev_ y = .slice none 0 0) (hg : P.eqGuardType P.depth t = false) (h : K (.bool b) w) : Eff P o ev_ w K := by
  subst hb
  refine eff_val _ (w' := w) ?_ h
  simp [execOp, hop, hx, hy, eqGuard, binOp, Sem.run_bind, Sem.run, program, pure, Result.andThen, hg, run_isnil ht]
theorem e_notnil {P : Program} {o : Oper} {ev_ : Operand → Value} {K : Value → World → Prop} {w : World} (t el : TypeId) (x y : Operand) (yt : TypeId) (A : Option Addr) (n c : Nat) {b : Bool} (hb : A.isNone = b) (hop : o.op = .binOp .neq t x y yt)
    (ht : P.underlying t = some (.slice el)) (hx : ev_ x = .slice A n c) (hy : ev_ y = .slice none 0 0) (hg : P.eqGuardType P.depth t = false) (h : K (.bool (!b)) w) : Eff P o ev_ w K := by
  subst hb
  refine eff_val _ (w' := w) ?_ h
  simp [execOp, hop, hx, hy, eqGuard, binOp, Sem.run_bind, Sem.run, program, pure, Result.andThen, hg, run_isnil ht]
end Go.Proofs.YtncapkloanfmnaaDoorE
