/- The engine, part L: rows of owned elements, opened: what is left, what is kept, and closed again (slices.DeleteFunc). -/
import Derived.Test.YtnlkggppokcmfaaJ
namespace Go.Proofs.YtnlkggppokcmfaaE
open Go
set_option linter.unusedVariables false
set_option linter.unusedSimpArgs false
theorem seqOwn.cut {α : Type} {k : Ty α} {H : BM} : ∀ {xs ys : List α} {F : Nat → Prop} {cs : List Value}, seqOwn k H F (xs ++ ys) cs →
    ∃ G1 G2, (∀ b, G1 b → F b) ∧ (∀ b, G2 b → F b) ∧ (∀ b, G1 b → ¬ G2 b) ∧ seqOwn k H G1 xs (cs.take (xs.length * k.sz)) ∧ seqOwn k H G2 ys (cs.drop (xs.length * k.sz))
  | [], ys, F, cs, h => ⟨fun _ => False, F, fun _ h => h.elim, fun _ h => h, fun _ h => h.elim, by simp [seqOwn], by simpa using h⟩
  | x :: xs, ys, F, cs, ⟨c1, c2, F1, F2, e, h1, h2, h3, h4, h5⟩ => by
    obtain ⟨G1, G2, g1, g2, g3, g4, g5⟩ := h5.cut
    have hl := k.rd_len (k.own_rd h4)
    have e1 : cs.take ((x :: xs).length * k.sz) = c1 ++ c2.take (xs.length * k.sz) := by
      rw [e, List.length_cons, Nat.add_mul, Nat.one_mul, Nat.add_comm, ← hl, List.take_length_add_append]
    have e2 : cs.drop ((x :: xs).length * k.sz) = c2.drop (xs.length * k.sz) := by
      rw [e, List.length_cons, Nat.add_mul, Nat.one_mul, Nat.add_comm, ← hl, List.drop_length_add_append]
    rw [e1, e2]
    refine ⟨fun b => F1 b ∨ G1 b, G2, fun b h => h.elim (h1 b) (fun h => h2 b (g1 b h)), fun b h => h2 b (g2 b h), ?_, ⟨c1, _, F1, G1, rfl, fun _ h => .inl h, fun _ h => .inr h, fun b h h' => h3 b h (g1 b h'), h4, g4⟩, g5⟩
    rintro b (h | h) h'
    · exact h3 b h (g2 b h')
    · exact g3 b h h'
section
variable {M : Mem} {w : World} {L : List Asrt} {α : Type} {k : Ty α}
theorem Inv.cutseq {xs ys zs : List α} {cs : List Value} (hI : Inv M w L) (li : Nat) (hz : zs = xs ++ ys) (hL : L[li]? = some (seqA k zs cs)) :
    Inv M w (seqA k xs (cs.take (xs.length * k.sz)) :: L.set li (seqA k ys (cs.drop (xs.length * k.sz)))) := by
  subst hz
  refine hI.part hL ?_
  intro F h
  obtain ⟨G1, G2, g1, g2, g3, g4, g5⟩ := seqOwn.cut (show seqOwn k (hp w) F (xs ++ ys) cs from h)
  exact ⟨G1, G2, g1, g2, g3, g4, g5⟩
theorem Inv.joinseq {xs ys : List α} {cs ds : List Value} (hI : Inv M w (seqA k xs cs :: seqA k ys ds :: L)) : Inv M w (seqA k (xs ++ ys) (cs ++ ds) :: L) := by
  obtain ⟨F1, F2, h1, h2, h3, h4, G1, G2, g1, g2, g3, g4, g5⟩ := hI.sep
  refine ⟨hI.fix, hI.size, hI.os, hI.tape, hI.output, fun b => F1 b ∨ G1 b, G2, fun b h => h.elim (h1 b) (fun h => h2 b (g1 b h)), fun b h => h2 b (g2 b h), ?_, ?_, g5⟩
  · rintro b (h | h) h'
    · exact h3 b h (g2 b h')
    · exact g3 b h h'
  · exact seqOwn.append (show seqOwn k (hp w) F1 xs cs from h4) (show seqOwn k (hp w) G1 ys ds from g4) (fun b h h' => h3 b h (g1 b h'))
theorem Inv.closeseq {e : TypeId} {b c : Nat} {xs : List α} {cs ds : List Value} (hI : Inv M w (seqA k xs cs :: .blk b e ds :: L)) (hlen : ds.length = c * k.sz) (hcs : ds.take (xs.length * k.sz) = cs) (hlc : xs.length ≤ c) (hcm : c ≤ maxLen) :
    Inv M w (.row k e (some ⟨b, 0, none⟩) xs.length c xs :: L) := by
  obtain ⟨F1, F2, h1, h2, h3, h4, G1, G2, g1, g2, g3, ⟨hFb, hb⟩, g5⟩ := hI.sep
  refine ⟨hI.fix, hI.size, hI.os, hI.tape, hI.output, fun b => F1 b ∨ G1 b, G2, fun b h => h.elim (h1 b) (fun h => h2 b (g1 b h)), fun b h => h2 b (g2 b h), ?_, ⟨.inr ⟨b, ds.toArray, rfl, .inr hFb, hb, hlc, hcm, by simpa using hlen, ?_⟩, rfl⟩, g5⟩
  · rintro b (h | h) h'
    · exact h3 b h (g2 b h')
    · exact g3 b h h'
  · rw [show ds.toArray.toList = ds from rfl, hcs]
    exact seqOwn.mono (show seqOwn k (hp w) F1 xs cs from h4) (fun b' h => ⟨.inl h, fun e => h3 b' h (g1 b' (e ▸ hFb))⟩)
theorem seq1zrd {x : α} {c : List Value} {H : BM} {F : Nat → Prop} (h : (seqA k [x] c).Own H F) : k.rd H x c := by
  obtain ⟨c1, c2, G1, G2, e1, _, _, _, h4, h5⟩ := show seqOwn k H F [x] c from h
  have : c2 = [] := h5
  subst this
  rw [List.append_nil] at e1
  subst e1
  exact k.own_rd h4
theorem Inv.grpAt {e : TypeId} {b q : Nat} {c cs : List Value} (hI : Inv M w L) (lj : Nat) (hB : L[lj]? = some (.blk b e cs)) (hc : ∀ j u, c[j]? = some u → cs[q + j]? = some u) : Grp.ok w (b, 0 + q, c) := by
  intro j u hu
  have := hI.grp lj hB (q + j) u (hc j u hu)
  simpa [Nat.add_assoc] using this
end
def memA (X : BM) : Asrt := .any (fun H F => ∀ b o, X b = some o → F b ∧ H b = some o) (fun h hF => fun b o hb => ⟨hF b (h b o hb).1, (h b o hb).2⟩)
  (fun h hF => fun b o hb => ⟨(h b o hb).1, (hF b (h b o hb).1).trans (h b o hb).2⟩)
section
variable {M : Mem} {w : World} {L : List Asrt} {α : Type} {k kL : Ty α}
open Classical in
theorem Inv.lendX {a : Asrt} (h : Inv M w L) (i : Nat) (hi : L[i]? = some a) :
    ∃ (M' : Mem) (F : Nat → Prop) (X : BM), Sub M.blk M'.blk ∧ (∀ w' L', Inv M' w' L' → Inv M w' (a :: L')) ∧ a.Own M'.blk F ∧ Inv M' w (L.set i triv) ∧ Sub X M'.blk ∧ a.Own X F ∧ ∀ w' L', Inv M' w' L' → Inv M w' (memA X :: L') := by
  obtain ⟨F1, F2, h1, h2, h3, hown, hsep⟩ := h.sep.take hi
  have hat : ∀ b, F1 b → (if F1 b then hp w b else M.blk b) = hp w b := fun b hb => if_pos hb
  have hsome : ∀ b, F1 b → ∃ o, hp w b = some o := fun b hb => by
    have := (h1 b hb).2
    exact ⟨w.heap[b], by simp [hp, this]⟩
  have hsub : Sub M.blk (fun b => if F1 b then hp w b else M.blk b) := fun b o hb => by
    show (if F1 b then hp w b else M.blk b) = some o
    split
    · exact h.fix b o hb
    · exact hb
  have key : ∀ (a' : Asrt), (∀ w', (∀ b, F1 b → hp w' b = hp w b) → a'.Own (hp w') F1) → ∀ w' L', Inv { M with blk := fun b => if F1 b then hp w b else M.blk b, n := w.heap.size } w' L' → Inv M w' (a' :: L') := by
    intro a' ha w' L' h'
    have hsz : w.heap.size ≤ w'.heap.size := h'.size
    have hsame : ∀ b, F1 b → hp w' b = hp w b := fun b hb => by
      obtain ⟨o, ho⟩ := hsome b hb
      rw [ho]
      exact h'.fix b o ((hat b hb).trans ho)
    refine ⟨fun b o hb => h'.fix b o (hsub b o hb), Nat.le_trans h.size hsz, h'.os, h'.tape, h'.output, F1, fun b => (if F1 b then hp w b else M.blk b) = none ∧ b < w'.heap.size, fun b hb => ⟨(h1 b hb).1, Nat.lt_of_lt_of_le (h1 b hb).2 hsz⟩, fun b hb => ⟨?_, hb.2⟩, fun b hb hb' => ?_, ha w' hsame, h'.sep⟩
    · have h0 := hb.1
      split at h0
      · rename_i hF
        exact (h1 b hF).1
      · exact h0
    · have h0 := hb'.1
      rw [hat b hb] at h0
      obtain ⟨o, ho⟩ := hsome b hb
      rw [ho] at h0
      cases h0
  refine ⟨{ M with blk := fun b => if F1 b then hp w b else M.blk b, n := w.heap.size }, F1, fun b => if F1 b then hp w b else none, hsub, key a fun w' hw => hown.congr fun b hb => hw b hb, hown.congr hat, ?_, ?_, hown.congr fun b hb => if_pos hb, key (memA _) fun w' hw => ?_⟩
  · refine ⟨fun b o hb => ?_, Nat.le_refl _, h.os, h.tape, h.output, hsep.mono fun b hb => ⟨?_, (h2 b hb).2⟩⟩
    · have hb : (if F1 b then hp w b else M.blk b) = some o := hb
      split at hb
      · exact hb
      · exact h.fix b o hb
    · show (if F1 b then hp w b else M.blk b) = none
      rw [if_neg (fun hF => h3 b hF hb)]
      exact (h2 b hb).1
  · intro b o hb
    show (if F1 b then hp w b else M.blk b) = some o
    by_cases hF : F1 b
    · simpa [hF] using hb
    · simp [hF] at hb
  · intro b o hb
    by_cases hF : F1 b
    · refine ⟨hF, ?_⟩
      rw [hw b hF]
      simpa [hF] using hb
    · simp [hF] at hb
open Classical in
theorem Inv.lentOr {X : BM} {e : TypeId} {A : Option Addr} {n c : Nat} {xs : List α} (hl : Lends X kL k) (h : Inv M w (memA X :: .row kL e A n c xs :: L)) : Inv M w (orA noM k e A n c xs :: L) := by
  obtain ⟨F1, F2, h1, h2, h3, h4, G1, G2, g1, g2, g3, hrow, g5⟩ := h.sep
  refine ⟨h.fix, h.size, h.os, h.tape, h.output, fun b => F1 b ∨ G1 b, G2, fun b h => h.elim (h1 b) (fun h => h2 b (g1 b h)), fun b h => h2 b (g2 b h), ?_, ⟨⟨fun b => if F1 b ∨ G1 b then hp w b else none, ?_, ?_, hrow.1.le⟩, hrow.2⟩, g5⟩
  · rintro b (h | h) h'
    · exact h3 b h (g2 b h')
    · exact g3 b h h'
  · intro b o hb
    by_cases hF : F1 b ∨ G1 b
    · exact .inr ⟨hF, by simpa [hF] using hb⟩
    · simp [hF] at hb
  · obtain ⟨N', hN, hr⟩ := rowOwn.part hrow.1
    refine Lends.rdS hl (fun b o hb => ?_) (hr.mono fun b o hb => ?_)
    · have := h4 b o hb
      show (if F1 b ∨ G1 b then hp w b else none) = some o
      rw [if_pos (.inl this.1)]
      exact this.2
    · have := hN b o hb
      show (if F1 b ∨ G1 b then hp w b else none) = some o
      rw [if_pos (.inr this.1)]
      exact this.2
end
theorem splice_front {cs vs : List Value} {j n : Nat} (hj : j ≤ cs.length) (hn : vs.length = n) : (splice cs j vs).take (j + n) = cs.take j ++ vs := by
  subst hn
  unfold splice
  have : (cs.take j).length = j := by rw [List.length_take]; omega
  rw [← List.append_assoc, show j + vs.length = (cs.take j ++ vs).length by rw [List.length_append, this], List.take_left]
theorem splice_early {cs vs : List Value} {j n : Nat} (hj : j ≤ cs.length) (hn : n ≤ j) : (splice cs j vs).take n = cs.take n := by
  unfold splice
  have : (cs.take j).length = j := by rw [List.length_take]; omega
  rw [List.take_append_of_le_length (by omega), List.take_take, Nat.min_eq_left hn]
theorem splice_late {cs vs : List Value} {j m : Nat} (hj : j + vs.length ≤ cs.length) (hm : j + vs.length ≤ m) : (splice cs j vs).drop m = cs.drop m := by
  unfold splice
  have : (cs.take j).length = j := by rw [List.length_take]; omega
  rw [← List.append_assoc, show m = (cs.take j ++ vs).length + (m - (j + vs.length)) by rw [List.length_append, this]; omega, List.drop_length_add_append, List.drop_drop, List.length_append, this]
theorem splice_past {cs vs : List Value} {j m : Nat} (hj : j + vs.length ≤ cs.length) (hm : j + vs.length ≤ m) : (splice cs j vs)[m]? = cs[m]? := by
  have h := congrArg (fun l => l[0]?) (splice_late hj hm)
  simpa [List.getElem?_drop] using h
theorem take_get {cs : List Value} {n j : Nat} {u : Value} (h : (cs.take n)[j]? = some u) : cs[j]? = some u := by
  rw [List.getElem?_take] at h
  split at h
  · exact h
  · cases h
theorem drop_at {α : Type} [Inhabited α] (xs : List α) (x : Int) (h : 0 ≤ x ∧ x < (xs.length : Int)) : xs.drop x.toNat = [idx xs x] ++ xs.drop (x.toNat + 1) := by
  have hx : x.toNat < xs.length := by omega
  have hj : xs[x.toNat]? = some (idx xs x) := idx_some (xs := xs) (by omega)
  rw [List.drop_eq_getElem_cons hx]
  rw [List.getElem?_eq_getElem hx] at hj
  rw [Option.some.inj hj]
  rfl
end Go.Proofs.YtnlkggppokcmfaaE
