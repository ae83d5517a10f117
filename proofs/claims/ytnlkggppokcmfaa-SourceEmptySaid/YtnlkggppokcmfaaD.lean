/- The engine, part D: what becomes of what the call owns: new blocks, stores, calls. -/
import Derived.Test.YtnlkggppokcmfaaC
namespace Go.Proofs.YtnlkggppokcmfaaE
open Go
set_option linter.unusedVariables false
set_option linter.unusedSimpArgs false
def triv : Asrt := .any (fun _ _ => True) (fun _ _ => trivial) (fun _ _ => trivial)
theorem set_same {α : Type 1} {L : List α} {i : Nat} {a : α} (h : L[i]? = some a) : L.set i a = L := by
  apply List.ext_getElem?
  intro j
  rw [List.getElem?_set]
  by_cases e : i = j
  · subst e
    obtain ⟨hl, he⟩ := List.getElem?_eq_some_iff.1 h
    simp [hl, he]
  · simp [e]
theorem sep.take : ∀ {L : List Asrt} {H : BM} {F : Nat → Prop} {i : Nat} {a : Asrt}, sep L H F → L[i]? = some a →
    ∃ F1 F2, (∀ b, F1 b → F b) ∧ (∀ b, F2 b → F b) ∧ (∀ b, F1 b → ¬ F2 b) ∧ a.Own H F1 ∧ sep (L.set i triv) H F2
  | [], _, _, _, _, _, hi => by simp at hi
  | a :: l, H, F, 0, a0, ⟨F1, F2, h1, h2, h3, h4, h5⟩, hi => by
    simp only [List.getElem?_cons_zero, Option.some.injEq] at hi
    subst hi
    exact ⟨F1, F2, h1, h2, h3, h4, fun _ => False, F2, fun _ h => h.elim, fun _ h => h, fun _ h => h.elim, trivial, h5⟩
  | a :: l, H, F, i + 1, a0, ⟨F1, F2, h1, h2, h3, h4, h5⟩, hi => by
    obtain ⟨G1, G2, g1, g2, g3, g4, g5⟩ := h5.take (i := i) (by simpa using hi)
    refine ⟨G1, fun b => F1 b ∨ G2 b, fun b h => h2 b (g1 b h), fun b h => h.elim (h1 b) (fun h => h2 b (g2 b h)), ?_, g4, F1, G2, fun _ h => .inl h, fun _ h => .inr h, fun b h h' => h3 b h (g2 b h'), h4, g5⟩
    rintro b hb (h | h)
    · exact h3 b h (g1 b hb)
    · exact g3 b hb h
theorem sep.pick : ∀ {js : List Nat} {L L' : List Asrt} {H : BM} {F : Nat → Prop}, sep L H F → js.Nodup → js.map (L[·]?) = L'.map some → sep L' H F
  | [], L, L', H, F, h, _, hL => by
    have : L' = [] := by simpa using hL.symm
    subst this
    trivial
  | j :: js, L, [], H, F, h, _, hL => by simp at hL
  | j :: js, L, a :: L', H, F, h, hn, hL => by
    simp only [List.map_cons, List.cons.injEq] at hL
    obtain ⟨F1, F2, h1, h2, h3, h4, h5⟩ := h.take hL.1
    obtain ⟨hj, hn'⟩ := List.nodup_cons.1 hn
    refine ⟨F1, F2, h1, h2, h3, h4, sep.pick h5 hn' ?_⟩
    rw [← hL.2]
    refine List.map_congr_left fun i hi => ?_
    rw [List.getElem?_set_ne]
    rintro rfl
    exact hj hi
theorem sep.split : ∀ {l m : List Asrt} {H : BM} {F : Nat → Prop}, sep (l ++ m) H F → ∃ F1 F2, (∀ b, F1 b → F b) ∧ (∀ b, F2 b → F b) ∧ (∀ b, F1 b → ¬ F2 b) ∧ sep l H F1 ∧ sep m H F2
  | [], m, H, F, h => ⟨fun _ => False, F, fun _ h => h.elim, fun _ h => h, fun _ h => h.elim, trivial, h⟩
  | a :: l, m, H, F, ⟨F1, F2, h1, h2, h3, h4, h5⟩ => by
    obtain ⟨G1, G2, g1, g2, g3, g4, g5⟩ := h5.split
    refine ⟨fun b => F1 b ∨ G1 b, G2, fun b h => h.elim (h1 b) (fun h => h2 b (g1 b h)), fun b h => h2 b (g2 b h), ?_, ⟨F1, G1, fun _ h => .inl h, fun _ h => .inr h, fun b h h' => h3 b h (g1 b h'), h4, g4⟩, g5⟩
    rintro b (h | h) h'
    · exact h3 b h (g2 b h')
    · exact g3 b h h'
section
variable {M : Mem} {w w' : World} {L L' : List Asrt}
theorem Inv.start (w : World) : Inv (memOf w) w [] := ⟨Sub.refl _, Nat.le_refl _, rfl, rfl, rfl, trivial⟩
theorem Inv.lt (h : Inv M w L) {b : Nat} {o : Obj} (hb : M.blk b = some o) : b < w.heap.size := (Array.getElem?_eq_some_iff.1 (h.fix b o hb)).1
theorem Inv.drew (h : Inv M w L) (hw : w'.heap = w.heap) (ho : w'.os = w.os) (ht : w'.tape = w.tape) (hu : w'.output = w.output) : Inv M w' L := by
  have : hp w' = hp w := by unfold hp; rw [hw]
  refine ⟨by rw [this]; exact h.fix, by rw [hw]; exact h.size, ho.trans h.os, ht.trans h.tape, hu.trans h.output, ?_⟩
  rw [this, hw]
  exact h.sep
theorem Inv.pick (h : Inv M w L) (js : List Nat) (hn : js.Nodup) (hL : js.map (L[·]?) = L'.map some) : Inv M w L' :=
  ⟨h.fix, h.size, h.os, h.tape, h.output, h.sep.pick hn hL⟩
theorem Inv.grow (h : Inv M w L) {l : List Asrt} (hs : w.heap.size ≤ w'.heap.size) (hb : ∀ b, b < w.heap.size → w'.heap[b]? = w.heap[b]?) (ho : w'.os = w.os) (ht : w'.tape = w.tape) (hu : w'.output = w.output)
    (hl : Go.Proofs.YtnlkggppokcmfaaE.sep l (hp w') (fun b => w.heap.size ≤ b ∧ b < w'.heap.size)) : Inv M w' (L ++ l) := by
  refine ⟨fun b o hbo => (hb b (h.lt hbo)).trans (h.fix b o hbo), Nat.le_trans h.size hs, ho.trans h.os, ht.trans h.tape, hu.trans h.output, ?_⟩
  have h1 := (h.sep.congr (H' := hp w') (fun b hF => hb b hF.2)).append hl (fun b hF hG => by omega)
  refine h1.mono fun b hb' => ?_
  rcases hb' with hb' | hb'
  · exact ⟨hb'.1, by omega⟩
  · refine ⟨?_, hb'.2⟩
    cases e : M.blk b with
    | none => rfl
    | some o => have := h.lt e; omega
theorem Inv.turn (h : Inv M w L) {i : Nat} {a a' : Asrt} (hi : L[i]? = some a) (hs : w.heap.size ≤ w'.heap.size) (ho : w'.os = w.os) (ht : w'.tape = w.tape) (hu : w'.output = w.output)
    (step : ∀ F1, (∀ b, F1 b → b < w.heap.size) → a.Own (hp w) F1 → ∃ F1', a'.Own (hp w') F1' ∧ (∀ b, b < w.heap.size → ¬ F1 b → w'.heap[b]? = w.heap[b]?) ∧ ∀ b, F1' b → F1 b ∨ (w.heap.size ≤ b ∧ b < w'.heap.size)) :
    Inv M w' (L.set i a') := by
  obtain ⟨F1, hF1, hown, hturn⟩ := h.sep.focus hi
  obtain ⟨F1', hown', hkeep, hF'⟩ := step F1 (fun b hb => (hF1 b hb).2) hown
  have hs' := hturn (hp w') F1' a' hown' (fun b hb hn => hkeep b hb.2 hn) (fun b hb => (hF' b hb).imp id (fun h' h'' => by have := h''.2; omega))
  refine ⟨fun b o hbo => ?_, Nat.le_trans h.size hs, ho.trans h.os, ht.trans h.tape, hu.trans h.output, hs'.mono fun b hb => ?_⟩
  · refine (hkeep b (h.lt hbo) (fun hb => ?_)).trans (h.fix b o hbo)
    have := (hF1 b hb).1
    rw [hbo] at this
    cases this
  · rcases hb with hb | hb
    · exact ⟨hb.1, by have := hb.2; omega⟩
    · rcases hF' b hb with hb' | hb'
      · have := hF1 b hb'
        exact ⟨this.1, by have := this.2; omega⟩
      · refine ⟨?_, hb'.2⟩
        cases e : M.blk b with
        | none => rfl
        | some o => have := h.lt e; omega
theorem Inv.look (h : Inv M w L) {i : Nat} {a : Asrt} (hi : L[i]? = some a) : ∃ F1, (∀ b, F1 b → b < w.heap.size ∧ M.blk b = none) ∧ a.Own (hp w) F1 := by
  obtain ⟨F1, hF1, hown, _⟩ := h.sep.focus hi
  exact ⟨F1, fun b hb => ⟨(hF1 b hb).2, (hF1 b hb).1⟩, hown⟩
theorem Inv.grp (h : Inv M w L) (i : Nat) {b : Nat} {t : TypeId} {cs : List Value} (hi : L[i]? = some (.blk b t cs)) : Grp.ok w (b, 0, cs) := by
  obtain ⟨F1, _, hown⟩ := h.look hi
  intro j u hu
  rw [cell_hp]
  unfold cellOf
  rw [show hp w b = _ from hown.2]
  simpa using hu
theorem blkOwn.lies {H : BM} {F : Nat → Prop} {b : Nat} {t : TypeId} {cs : List Value} (h : (Asrt.blk b t cs).Own H F) : Lies H (b, 0, cs) := by
  intro j u hu
  unfold cellOf
  rw [show H b = _ from h.2]
  simpa using hu
theorem Inv.row (h : Inv M w L) (i : Nat) {α : Type} {k : Ty α} {e : TypeId} {A : Option Addr} {n c : Nat} {xs : List α} (hi : L[i]? = some (.row k e A n c xs)) : rdS k (hp w) A xs := by
  obtain ⟨F1, _, hown⟩ := h.look hi
  exact rowOwn.rd hown.1
theorem Inv.rowlen (h : Inv M w L) (i : Nat) {α : Type} {k : Ty α} {e : TypeId} {A : Option Addr} {n c : Nat} {xs : List α} (hi : L[i]? = some (.row k e A n c xs)) : xs.length = n := by
  obtain ⟨F1, _, hown⟩ := h.look hi
  exact hown.2
theorem Inv.rowAt (h : Inv M w L) (i : Nat) {α : Type} {k : Ty α} {e : TypeId} {A : Option Addr} {n c : Nat} {xs : List α} (hi : L[i]? = some (.row k e A n c xs)) {j : Int} (hj : 0 ≤ j ∧ j < n) : ∃ b, A = some ⟨b, 0, none⟩ := by
  obtain ⟨F1, _, hown⟩ := h.look hi
  rcases hown.1 with ⟨_, _, rfl⟩ | ⟨b, arr, rfl, _⟩
  · have := hown.2
    simp at this
    omega
  · exact ⟨b, rfl⟩
theorem Inv.nilrow (h : Inv M w L) {α : Type} (k : Ty α) (e : TypeId) : Inv M w (L ++ [.row k e none 0 0 ([] : List α)]) := by
  refine ⟨h.fix, h.size, h.os, h.tape, h.output, ?_⟩
  have := h.sep.append (m := [.row k e none 0 0 ([] : List α)]) (G := fun _ => False) ⟨fun _ => False, fun _ => False, fun _ h => h, fun _ h => h, fun _ h => h.elim, ⟨rowOwn.nil, rfl⟩, trivial⟩ (fun _ _ h => h)
  exact this.mono (fun b h => h.elim id (fun h => h.elim))
theorem Inv.renum (h : Inv M w L) (i : Nat) {α : Type} {k : Ty α} {e : TypeId} {A : Option Addr} {n c : Nat} {xs : List α} (hi : L[i]? = some (.row k e A n c xs)) : Inv M w (L.set i (.row k e A xs.length c xs)) := by
  have := h.rowlen i hi
  subst this
  rw [set_same hi]
  exact h
theorem Inv.rd (h : Inv M w L) {α : Type} {k : Ty α} {A : Option Addr} {xs : List α} (hr : rdS k M.blk A xs) : rdS k (hp w) A xs := hr.mono h.fix
theorem Inv.lies (h : Inv M w L) {g : Grp} (hg : Lies M.blk g) : Grp.ok w g := fun j u hu => by rw [cell_hp]; exact h.fix.cell (hg j u hu)
theorem Inv.call0 (h : Inv M w L) (h' : Inv (memOf w) w' L') : Inv M w' (L ++ L') := by
  have hs : w.heap.size ≤ w'.heap.size := h'.size
  refine h.grow hs (fun b hb => ?_) h'.os h'.tape h'.output (h'.sep.mono fun b hb => ?_)
  · cases e : w.heap[b]? with
    | none => simp at e; omega
    | some o => exact h'.fix b o e
  · refine ⟨?_, hb.2⟩
    rcases Nat.lt_or_ge b w.heap.size with hlt | hge
    · have := hb.1
      simp only [memOf, hp, Array.getElem?_eq_getElem hlt] at this
      cases this
    · exact hge
end
end Go.Proofs.YtnlkggppokcmfaaE
