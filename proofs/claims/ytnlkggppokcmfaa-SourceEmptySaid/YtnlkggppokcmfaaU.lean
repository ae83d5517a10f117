/- The engine, part U: an element that has been taken out of a row, with what it leads to, and is put back; pieces that are lent to a region and come back. -/
import Derived.Test.YtnlkggppokcmfaaR
namespace Go.Proofs.YtnlkggppokcmfaaE
open Go
set_option linter.unusedVariables false
set_option linter.unusedSimpArgs false
def tOpt {α : Type} (k : Ty α) : Ty (α ⊕ List Value) where
  sz := k.sz
  own := fun H F x cs => match x with
    | .inl a => k.own H F a cs
    | .inr c => cs = c ∧ c.length = k.sz ∧ ∀ v ∈ c, v.oneCell' = true
  rd := fun H x cs => match x with
    | .inl a => k.rd H a cs
    | .inr c => cs = c ∧ c.length = k.sz ∧ ∀ v ∈ c, v.oneCell' = true
  own_mono := by
    rintro H F F' (x | x) cs h hF
    · exact k.own_mono h hF
    · exact h
  own_congr := by
    rintro H H' F (x | x) cs h hF
    · exact k.own_congr h hF
    · exact h
  own_rd := by
    rintro H F (x | x) cs h
    · exact k.own_rd h
    · exact h
  rd_mono := by
    rintro H H' (x | x) cs h hs
    · exact k.rd_mono h hs
    · exact h
  rd_len := by
    rintro H (x | x) cs h
    · exact k.rd_len h
    · rw [h.1]; exact h.2.1
  rd_one := by
    rintro H (x | x) cs h
    · exact k.rd_one h
    · rw [h.1]; exact h.2.2
instance {α : Type} [Inhabited α] : Inhabited (α ⊕ List Value) := ⟨.inl default⟩
section
variable {α : Type} {k : Ty α} {H : BM}
theorem seqOwn_inl : ∀ {xs : List α} {F : Nat → Prop} {cs : List Value}, seqOwn k H F xs cs → seqOwn (tOpt k) H F (xs.map Sum.inl) cs
  | [], _, _, h => h
  | _ :: _, _, _, ⟨c1, c2, F1, F2, e, h1, h2, h3, h4, h5⟩ => ⟨c1, c2, F1, F2, e, h1, h2, h3, h4, seqOwn_inl h5⟩
theorem seqOwn_back : ∀ {xs : List α} {F : Nat → Prop} {cs : List Value}, seqOwn (tOpt k) H F (xs.map Sum.inl) cs → seqOwn k H F xs cs
  | [], _, _, h => h
  | _ :: _, _, _, ⟨c1, c2, F1, F2, e, h1, h2, h3, h4, h5⟩ => ⟨c1, c2, F1, F2, e, h1, h2, h3, h4, seqOwn_back h5⟩
theorem sep_part : ∀ {L : List Asrt} {H : BM} {F : Nat → Prop} {i : Nat} {a a1 a2 : Asrt}, sep L H F → L[i]? = some a →
    (∀ F, a.Own H F → ∃ G1 G2, (∀ b, G1 b → F b) ∧ (∀ b, G2 b → F b) ∧ (∀ b, G1 b → ¬ G2 b) ∧ a1.Own H G1 ∧ a2.Own H G2) → sep (a1 :: L.set i a2) H F
  | [], _, _, _, _, _, _, _, hi, _ => by simp at hi
  | a :: l, H, F, 0, a0, a1, a2, ⟨F1, F2, h1, h2, h3, h4, h5⟩, hi, hs => by
    simp only [List.getElem?_cons_zero, Option.some.injEq] at hi
    subst hi
    obtain ⟨G1, G2, g1, g2, g3, g4, g5⟩ := hs F1 h4
    refine ⟨G1, fun b => G2 b ∨ F2 b, fun b h => h1 b (g1 b h), fun b h => h.elim (fun h => h1 b (g2 b h)) (h2 b), ?_, g4, G2, F2, fun _ h => .inl h, fun _ h => .inr h, fun b h => h3 b (g2 b h), g5, h5⟩
    rintro b hb (h | h)
    · exact g3 b hb h
    · exact h3 b (g1 b hb) h
  | a :: l, H, F, i + 1, a0, a1, a2, ⟨F1, F2, h1, h2, h3, h4, h5⟩, hi, hs => by
    obtain ⟨G1, G2, g1, g2, g3, g4, g5⟩ := sep_part (i := i) h5 (by simpa using hi) hs
    refine ⟨G1, fun b => F1 b ∨ G2 b, fun b h => h2 b (g1 b h), fun b h => h.elim (h1 b) (fun h => h2 b (g2 b h)), ?_, g4, F1, G2, fun _ h => .inl h, fun _ h => .inr h, fun b h h' => h3 b h (g2 b h'), h4, g5⟩
    rintro b hb (h | h)
    · exact h3 b h (g1 b hb)
    · exact g3 b hb h
end
section
variable {M : Mem} {w : World} {L : List Asrt}
theorem Inv.part {i : Nat} {a a1 a2 : Asrt} (h : Inv M w L) (hi : L[i]? = some a)
    (hs : ∀ F, a.Own (hp w) F → ∃ G1 G2, (∀ b, G1 b → F b) ∧ (∀ b, G2 b → F b) ∧ (∀ b, G1 b → ¬ G2 b) ∧ a1.Own (hp w) G1 ∧ a2.Own (hp w) G2) : Inv M w (a1 :: L.set i a2) :=
  ⟨h.fix, h.size, h.os, h.tape, h.output, sep_part h.sep hi hs⟩
theorem Inv.takeS {α : Type} [Inhabited α] {kt : Ty α} {e e2 : TypeId} {b n c : Nat} {xs : List (List α)} {A2 : Option Addr} {m c2 : Nat} (h : Inv M w L) (li : Nat) {i : Int}
    (hL : L[li]? = some (.row (tSlice e2 kt) e (some ⟨b, 0, none⟩) n c xs)) (hi : 0 ≤ i ∧ i < n) (hg : Grp.ok w (b, 0 + i.toNat * 1, [.slice A2 m c2])) :
    Inv M w (.row kt e2 A2 (idx xs i).length c2 (idx xs i) :: L.set li (.row (tOpt (tSlice e2 kt)) e (some ⟨b, 0, none⟩) n c ((xs.map Sum.inl).set i.toNat (Sum.inr [.slice A2 (idx xs i).length c2])))) := by
  refine h.part hL ?_
  rintro F ⟨hr, hl⟩
  subst hl
  rcases hr with ⟨h0, _⟩ | ⟨b', arr, hA, hFb, hb, hlc, hcm, hsz, hseq⟩
  · cases h0
  · cases hA
    have hj : xs[i.toNat]? = some (idx xs i) := idx_some (xs := xs) (by omega)
    have hseq' := seqOwn_inl hseq
    obtain ⟨c0, E1, E2, e1, e2', e3, e4, e5, e6, e7⟩ := hseq'.at (j := i.toNat) (x := Sum.inl (idx xs i)) (by rw [List.getElem?_map, hj]; rfl)
    have e4 : (tSlice e2 kt).own (hp w) E1 (idx xs i) c0 := e4
    obtain ⟨A, cc, hc0, hinner⟩ := e4
    subst hc0
    have hsz1 : (tOpt (tSlice e2 kt)).sz = 1 := rfl
    have h6 := e6 0 _ rfl
    have hcell := hg 0 _ rfl
    rw [cell_hp] at hcell
    unfold cellOf at hcell
    rw [hb] at hcell
    have h6' := h6
    rw [hsz1, List.getElem?_take] at h6
    split at h6
    · simp only [Nat.add_zero, Nat.zero_add, Nat.mul_one] at hcell h6
      rw [Array.getElem?_toList] at h6
      rw [h6] at hcell
      cases hcell
      refine ⟨E1, fun b2 => F b2 ∧ ¬ E1 b2, fun b2 h => (e1 b2 h).1, fun b2 h => h.1, fun b2 h h' => h'.2 h, ⟨hinner, rfl⟩, ⟨.inr ⟨b, arr, rfl, ⟨hFb, fun h => (e1 b h).2 rfl⟩, hb, by simpa using hlc, hcm, hsz, ?_⟩, by simp⟩⟩
      have h7 := e7 (hp w) (fun _ => False) (fun b2 => (F b2 ∧ ¬ E1 b2) ∧ b2 ≠ b) (Sum.inr [.slice A2 (idx xs i).length c2]) [.slice A2 (idx xs i).length c2] ⟨rfl, rfl, oneOf rfl⟩
        (fun _ _ => rfl) (fun _ h => h.elim) (fun _ h => h.elim) (fun b2 hE => ⟨⟨(e2' b2 hE).1, fun h => e3 b2 h hE⟩, (e2' b2 hE).2⟩)
      rw [splice_get] at h7
      · rw [List.length_set, List.length_map]
        exact h7
      · have hlt : i.toNat < xs.length := (List.getElem?_eq_some_iff.1 hj).1
        have hs1 : (tSlice e2 kt).sz = 1 := rfl
        have hsz' : arr.size = c * 1 := hsz
        have e0 : (List.take (xs.length * (tSlice e2 kt).sz) arr.toList).length = min (xs.length * 1) arr.size := by rw [List.length_take, Array.length_toList]; rfl
        have e1 : ([.slice A2 (idx xs i).length c2] : List Value).length = 1 := rfl
        rw [hsz1, e0, e1]
        omega
      · intro q u hu
        have hq : q = 0 := by
          have := (List.getElem?_eq_some_iff.1 hu).1
          simpa using this
        subst hq
        cases hu
        exact h6'
    · cases h6
theorem Inv.optback {α : Type} {k : Ty α} {e : TypeId} {A : Option Addr} {n c : Nat} {ys : List (α ⊕ List Value)} (h : Inv M w L) (li : Nat) (zs : List α) (hL : L[li]? = some (.row (tOpt k) e A n c ys)) (hz : ys = zs.map Sum.inl) :
    Inv M w (L.set li (.row k e A n c zs)) := by
  subst hz
  refine h.turn hL (Nat.le_refl _) rfl rfl rfl ?_
  rintro F hF ⟨hr, hl⟩
  refine ⟨F, ⟨?_, by simpa using hl⟩, fun _ _ _ => rfl, fun _ h => .inl h⟩
  rcases hr with ⟨h1, h2, h3⟩ | ⟨b, arr, h1, h2, h3, h4, h5, h6, h7⟩
  · exact .inl ⟨h1, h2, by simpa using h3⟩
  · exact .inr ⟨b, arr, h1, h2, h3, by simpa using h4, h5, h6, by have h8 := seqOwn_back h7; rw [List.length_map] at h8; exact h8⟩
theorem set_inl {α : Type} {xs : List α} {j : Nat} {c : List Value} {y : α} : (((xs.map Sum.inl).set j (Sum.inr c)).set j (Sum.inl y) : List (α ⊕ List Value)) = (xs.set j y).map Sum.inl := by
  rw [List.set_set, List.map_set]
open Classical in
theorem Inv.lend {a : Asrt} (h : Inv M w L) (i : Nat) (hi : L[i]? = some a) :
    ∃ (M' : Mem) (F : Nat → Prop), Sub M.blk M'.blk ∧ (∀ w' L', Inv M' w' L' → Inv M w' (a :: L')) ∧ a.Own M'.blk F ∧ Inv M' w (L.set i triv) := by
  obtain ⟨F1, F2, h1, h2, h3, hown, hsep⟩ := h.sep.take hi
  have hat : ∀ b, F1 b → (if F1 b then hp w b else M.blk b) = hp w b := fun b hb => if_pos hb
  have hsome : ∀ b, F1 b → ∃ o, hp w b = some o := fun b hb => by
    have := (h1 b hb).2
    exact ⟨w.heap[b], by simp [hp, this]⟩
  have hsub : Sub M.blk (fun b => if F1 b then hp w b else M.blk b) := fun b o hb => by
    show (if F1 b then hp w b else M.blk b) = some o
    split
    · exact h.fix b o hb
    · exact hb
  refine ⟨{ M with blk := fun b => if F1 b then hp w b else M.blk b, n := w.heap.size }, F1, hsub, ?_, hown.congr hat, ?_⟩
  · intro w' L' h'
    have hsz : w.heap.size ≤ w'.heap.size := h'.size
    refine ⟨fun b o hb => h'.fix b o (hsub b o hb), Nat.le_trans h.size hsz, h'.os, h'.tape, h'.output, F1, fun b => (if F1 b then hp w b else M.blk b) = none ∧ b < w'.heap.size, fun b hb => ⟨(h1 b hb).1, Nat.lt_of_lt_of_le (h1 b hb).2 hsz⟩, fun b hb => ⟨?_, hb.2⟩, fun b hb hb' => ?_, hown.congr fun b hb => ?_, h'.sep⟩
    · have h0 := hb.1
      split at h0
      · rename_i hF
        exact (h1 b hF).1
      · exact h0
    · have h0 := hb'.1
      rw [hat b hb] at h0
      obtain ⟨o, ho⟩ := hsome b hb
      rw [ho] at h0
      cases h0
    · obtain ⟨o, ho⟩ := hsome b hb
      rw [ho]
      exact h'.fix b o (by show (if F1 b then hp w b else M.blk b) = some o; rw [hat b hb, ho])
  · refine ⟨fun b o hb => ?_, Nat.le_refl _, h.os, h.tape, h.output, hsep.mono fun b hb => ⟨?_, (h2 b hb).2⟩⟩
    · have hb : (if F1 b then hp w b else M.blk b) = some o := hb
      split at hb
      · exact hb
      · exact h.fix b o hb
    · show (if F1 b then hp w b else M.blk b) = none
      rw [if_neg (fun hF => h3 b hF hb)]
      exact (h2 b hb).1
end
end Go.Proofs.YtnlkggppokcmfaaE
