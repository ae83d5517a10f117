/- Layer 10: what asks are, and that lists and sets are written apart. -/
import Derived.Test.YtnlkggppokcmfaaTPXB
namespace Go.Proofs.YtnlkggppokcmfaaT
open Go Go.Proofs Go.Proofs.YtnlkggppokcmfaaE
set_option linter.unusedVariables false
set_option linter.unusedSimpArgs false
def KeyTy (h : History) (key ty : Int) : Prop := ∀ t p : Nat, t < h.Txns.length → p < (idx h.Txns (t : Int)).Ops.length → (opAt h (t : Int) (p : Int)).Key = key → typ (opAt h (t : Int) (p : Int)).Kind = ty
def Apart (e f : Call × Int) : Prop := e.1.Key = f.1.Key → (e.1.Kind = 2 ∨ e.1.Kind = 3) → (f.1.Kind = 2 ∨ f.1.Kind = 3) → e.1.Arg ≠ f.1.Arg
theorem ents_apart {L : List (Call × Int)} (h : EntsOk [] L) : L.Pairwise Apart := by
  rw [List.pairwise_iff_getElem]
  intro i j hi hj hij hk h1 h2
  have := (h j hj).2.1
  rw [idx_eq (n := j) rfl hj] at this
  exact this h2 L[i] (by rw [List.nil_append]; exact List.mem_take_iff_getElem.2 ⟨i, by omega, rfl⟩) hk h1
theorem wrote_mem {h : History} {t key v : Int} : v ∈ wroteOf h t key ↔ ∃ o ∈ (idx h.Txns t).Ops, o.Key = key ∧ o.Kind ≤ 4 ∧ o.Arg = v := by
  unfold wroteOf ownL
  rw [List.take_length]
  simp only [List.mem_map, List.mem_filter, decide_eq_true_eq]
  constructor
  · rintro ⟨o, ⟨h1, h2, h3⟩, h4⟩; exact ⟨o, h1, h2, h3, h4⟩
  · rintro ⟨o, h1, h2, h3, h4⟩; exact ⟨o, ⟨h1, h2, h3⟩, h4⟩
theorem op_of {h : History} {t : Nat} {o : Op} (ho : o ∈ (idx h.Txns (t : Int)).Ops) : ∃ p : Nat, p < (idx h.Txns (t : Int)).Ops.length ∧ opAt h (t : Int) (p : Int) = o := by
  obtain ⟨p, hp, rfl⟩ := List.getElem_of_mem ho
  exact ⟨p, hp, idx_eq rfl hp⟩
theorem wr_kind {h : History} (hS : Sound h) {key ty : Int} (hty : KeyTy h key ty) (h23 : ty = 2 ∨ ty = 3) {t : Nat} (ht : t < h.Txns.length) {o : Op} (ho : o ∈ (idx h.Txns (t : Int)).Ops) (hk : o.Key = key) (h4 : o.Kind ≤ 4) : o.Kind = 2 ∨ o.Kind = 3 := by
  obtain ⟨p, hp, rfl⟩ := op_of ho
  have h1 := hty t p ht hp hk
  obtain ⟨k1, k2⟩ := op_kind hS ht hp
  unfold typ at h1
  omega
theorem wrote_nodup {h : History} (hS : Sound h) {key ty : Int} (hty : KeyTy h key ty) (h23 : ty = 2 ∨ ty = 3) {t : Nat} (ht : t < h.Txns.length) : (wroteOf h (t : Int) key).Nodup := by
  have hp := (List.pairwise_flatMap.1 (ents_apart hS.ents)).1 t (List.mem_range.2 ht)
  unfold entOf callsOf at hp
  rw [List.map_map, List.pairwise_map] at hp
  unfold wroteOf ownL
  rw [List.take_length]
  unfold List.Nodup
  rw [List.pairwise_map, List.pairwise_filter]
  refine List.Pairwise.imp_of_mem (fun {x y} hx hy hR => ?_) hp
  intro h1 h2
  rw [decide_eq_true_eq] at h1 h2
  refine hR ?_ (wr_kind hS hty h23 ht hx h1.1 h1.2) (wr_kind hS hty h23 ht hy h2.1 h2.2)
  show idx h.Keys _ = idx h.Keys _
  rw [h1.1, h2.1]
theorem wrote_apart {h : History} (hS : Sound h) {key ty : Int} (hty : KeyTy h key ty) (h23 : ty = 2 ∨ ty = 3) {t u : Nat} (ht : t < h.Txns.length) (hu : u < h.Txns.length) (hn : t ≠ u) {v : Int}
    (h1 : v ∈ wroteOf h (t : Int) key) : v ∉ wroteOf h (u : Int) key := by
  intro h2
  have hp := (List.pairwise_flatMap.1 (ents_apart hS.ents)).2
  obtain ⟨o, ho, k1, k2, k3⟩ := wrote_mem.1 h1
  obtain ⟨o', ho', l1, l2, l3⟩ := wrote_mem.1 h2
  have key1 : ∀ {t u : Nat} (ht : t < h.Txns.length) (hu : u < h.Txns.length), t < u → ∀ {o o' : Op}, o ∈ (idx h.Txns (t : Int)).Ops → o' ∈ (idx h.Txns (u : Int)).Ops → o.Key = key → o'.Key = key → o.Kind ≤ 4 → o'.Kind ≤ 4 → o.Arg ≠ o'.Arg := by
    intro t u ht hu htu o o' ho ho' e1 e2 e3 e4
    have := (List.pairwise_iff_getElem.1 hp) t u (by simpa using ht) (by simpa using hu) htu
    rw [List.getElem_range, List.getElem_range] at this
    refine this (callOf h o, (t : Int)) ?_ (callOf h o', (u : Int)) ?_ ?_ (wr_kind hS hty h23 ht ho e1 e3) (wr_kind hS hty h23 hu ho' e2 e4)
    · unfold entOf callsOf; rw [List.map_map]; exact List.mem_map.2 ⟨o, ho, rfl⟩
    · unfold entOf callsOf; rw [List.map_map]; exact List.mem_map.2 ⟨o', ho', rfl⟩
    · show idx h.Keys _ = idx h.Keys _
      rw [e1, e2]
  rcases Nat.lt_or_gt_of_ne hn with hlt | hlt
  · exact key1 ht hu hlt ho ho' k1 l1 k2 l2 (k3.trans l3.symm)
  · exact key1 hu ht hlt ho' ho l1 k1 l2 k2 (l3.trans k3.symm)
structure AskOk (h : History) (a : Ask) (t p : Nat) : Prop where
  tl : t < h.Txns.length
  pl : p < (idx h.Txns (t : Int)).Ops.length
  e1 : a.Txn = (t : Int)
  e2 : a.Place = (p : Int)
  e3 : a.Key = (opAt h (t : Int) (p : Int)).Key
  rd : 5 ≤ (opAt h (t : Int) (p : Int)).Kind
  b64 : a.Base.length ≤ 64
  b4 : typ (opAt h (t : Int) (p : Int)).Kind = 4 → a.Base.length = 1
  b3 : typ (opAt h (t : Int) (p : Int)).Kind = 3 → a.Base.Nodup
theorem asc_nodup {s : List Int} (h : Asc s) : s.Nodup := by
  exact (asc_iff.1 h).imp (fun h => by omega)
theorem ask_ok {h : History} (hS : Sound h) {a : Ask} (ha : a ∈ allAsks h h.Txns.length) : ∃ t p, AskOk h a t p := by
  unfold allAsks at ha
  obtain ⟨t, ht, ha⟩ := List.mem_flatMap.1 ha
  have ht := List.mem_range.1 ht
  unfold asksOf at ha
  split at ha
  case isFalse => cases ha
  case isTrue hst =>
  unfold asksUp at ha
  obtain ⟨p, hp, ha⟩ := List.mem_flatMap.1 ha
  have hp := List.mem_range.1 hp
  refine ⟨t, p, ?_⟩
  obtain ⟨k1, k8⟩ := op_kind hS ht hp
  obtain ⟨_, _, _, _, _, hcs⟩ := hS.txn t ht
  have hc := hcs p (by simpa [evOf, callsOf] using hp)
  dsimp only [evOf, callsOf] at hc
  rw [idx_map hp] at hc
  unfold CallOk callOf at hc
  dsimp only at hc
  unfold askAt at ha
  dsimp only at ha
  have ho : idx (idx h.Txns (t : Int)).Ops (p : Int) = opAt h (t : Int) (p : Int) := rfl
  rw [ho] at ha hc
  generalize opAt h (t : Int) (p : Int) = o at ha hc k1 k8 ho
  obtain ⟨c1, c8, c3, c4, c5, c6⟩ := hc
  have hoo : opAt h (t : Int) (p : Int) = o := ho
  split at ha
  · cases ha
  · rename_i h4
    obtain ⟨d1, d2, d3, d4⟩ := c6 (by omega)
    have hg : o.Got = true := d2.2 hst
    obtain ⟨f1, f2, f3, f4⟩ := d4 hg
    split at ha
    · rw [List.mem_singleton] at ha
      subst ha
      exact ⟨ht, hp, rfl, rfl, by rw [hoo], by rw [hoo]; omega, f4, fun h => f2 (by rw [hoo] at h; unfold typ at h; omega), fun h => asc_nodup (f3 (by rw [hoo] at h; unfold typ at h; omega))⟩
    · split at ha
      · rename_i hb
        rw [List.mem_singleton] at ha
        subst ha
        obtain ⟨hb, h5⟩ := hb
        refine ⟨ht, hp, rfl, rfl, by rw [hoo], by rw [hoo]; omega, ?_, fun h => ?_, fun h => ?_⟩
        · dsimp only
          unfold before
          have := List.length_filter_le (fun x => decide (x ∉ ownL (idx h.Txns (t : Int)).Ops o.Key p)) o.Vals
          split
          · simp
          · split
            · simp
            · split
              · split
                · simp; omega
                · simp
              · split
                · split
                  · dsimp only; omega
                  · simp
                · simp
        · have h8 : o.Kind = 8 := by rw [hoo] at h; unfold typ at h; omega
          dsimp only
          unfold before at hb ⊢
          rw [h8] at hb ⊢
          split at hb
          · cases hb
          · rename_i hq
            rw [if_neg hq]
            simp
        · have h7 : o.Kind = 7 := by rw [hoo] at h; unfold typ at h; omega
          have hnd := asc_nodup (f3 h7)
          dsimp only
          unfold before
          rw [h7]
          split
          · simp
          · simp only [show ¬ ((7 : Int) - 4 = 1) by omega, show ¬ ((7 : Int) - 4 = 2) by omega, if_false]
            split
            · split
              · exact hnd.filter _
              · simp
            · rename_i h0
              exact absurd (show (7 : Int) - 4 = 3 by omega) h0
      · cases ha
end Go.Proofs.YtnlkggppokcmfaaT
