/- Which histories are sound, said of their entries alone; the check tells just those. -/
import Derived.Test.YtnlkggppokcmfaaTPJ
namespace Go.Proofs.YtnlkggppokcmfaaT
open Go Go.Proofs Go.Proofs.YtnlkggppokcmfaaE
set_option linter.unusedVariables false
set_option linter.unusedSimpArgs false
def whosStep (l : List Int) (c : Call) (w : Int) (s : ByteArray) : List Int := if c.Kind = 4 ∧ c.Key = s ∧ (l.length = 0 ∨ idx l ((l.length - 1 : Nat) : Int) ≠ w) then l ++ [w] else l
def whos (E : List (Call × Int)) (s : ByteArray) : List Int := E.foldl (fun l e => whosStep l e.1 e.2 s) []
theorem whos_snoc {E : List (Call × Int)} {c : Call} {w : Int} {s : ByteArray} : whos (E ++ [(c, w)]) s = whosStep (whos E s) c w s := by
  unfold whos; rw [List.foldl_append]; rfl
theorem whosStep_other {l : List Int} {c : Call} {w : Int} {s : ByteArray} (h : ¬ (c.Kind = 4 ∧ c.Key = s)) : whosStep l c w s = l := by
  unfold whosStep; rw [if_neg (fun hh => h ⟨hh.1, hh.2.1⟩)]
def EntOk2 (E : List (Call × Int)) (c : Call) (w : Int) : Prop :=
  ((c.Kind = 2 ∨ c.Kind = 3) → ∀ e ∈ E, e.1.Key = c.Key → (e.1.Kind = 2 ∨ e.1.Kind = 3) → e.1.Arg ≠ c.Arg) ∧ (c.Kind = 4 → (whosStep (whos E c.Key) c w c.Key).length ≤ 8)
def EntOk (E : List (Call × Int)) (c : Call) (w : Int) : Prop := (∀ e ∈ E, e.1.Key = c.Key → typ e.1.Kind = typ c.Kind) ∧ EntOk2 E c w
structure BookInv0 (E : List (Call × Int)) (b : Assizeref05Book) : Prop where
  tl : b.types.length = b.keys.length
  wl : b.wrote.length = b.keys.length
  il : b.incs.length = b.keys.length
  ll : b.last_.length = b.keys.length
  nd : ∀ i j : Nat, i < b.keys.length → j < b.keys.length → idx b.keys (i : Int) = idx b.keys (j : Int) → i = j
  ks : ∀ e ∈ E, ∃ j : Nat, j < b.keys.length ∧ idx b.keys (j : Int) = e.1.Key
  ty : ∀ e ∈ E, ∀ j : Nat, j < b.keys.length → idx b.keys (j : Int) = e.1.Key → idx b.types (j : Int) = typ e.1.Kind
  wr : ∀ j : Nat, j < b.keys.length → ∀ a, (∃ m : Nat, m < (idx b.wrote (j : Int)).length ∧ idx (idx b.wrote (j : Int)) (m : Int) = a) ↔ ∃ e ∈ E, e.1.Key = idx b.keys (j : Int) ∧ (e.1.Kind = 2 ∨ e.1.Kind = 3) ∧ e.1.Arg = a
  wn : ∀ j : Nat, j < b.keys.length → (idx b.wrote (j : Int)).length ≤ E.length
  ic : ∀ j : Nat, j < b.keys.length → idx b.incs (j : Int) = ((whos E (idx b.keys (j : Int))).length : Int)
  i8 : ∀ j : Nat, j < b.keys.length → (whos E (idx b.keys (j : Int))).length ≤ 8
  io : ∀ s, (∀ j : Nat, j < b.keys.length → idx b.keys (j : Int) ≠ s) → whos E s = []
  la : ∀ j : Nat, j < b.keys.length → ((whos E (idx b.keys (j : Int))).length = 0 → idx b.last_ (j : Int) = -1) ∧
    (0 < (whos E (idx b.keys (j : Int))).length → idx b.last_ (j : Int) = idx (whos E (idx b.keys (j : Int))) (((whos E (idx b.keys (j : Int))).length - 1 : Nat) : Int))
theorem BookInv0.start : BookInv0 [] ⟨[], [], [], [], []⟩ := by
  refine ⟨rfl, rfl, rfl, rfl, ?_, ?_, ?_, ?_, ?_, ?_, ?_, ?_, ?_⟩
  all_goals simp [whos]
theorem BookInv0.new {E : List (Call × Int)} {b : Assizeref05Book} (h : BookInv0 E b) {s : ByteArray} {t : Int} (hn : ∀ j : Nat, j < b.keys.length → idx b.keys (j : Int) ≠ s) :
    BookInv0 E ⟨b.keys ++ [s], b.types ++ [t], b.wrote ++ [[]], b.incs ++ [0], b.last_ ++ [-1]⟩ := by
  have hl : (b.keys ++ [s]).length = b.keys.length + 1 := by simp
  have k1 : ∀ j : Nat, j < b.keys.length → idx (b.keys ++ [s]) (j : Int) = idx b.keys (j : Int) := fun j hj => idx_app hj
  have k2 : idx (b.keys ++ [s]) ((b.keys.length : Nat) : Int) = s := idx_end rfl
  have t1 : ∀ j : Nat, j < b.keys.length → idx (b.types ++ [t]) (j : Int) = idx b.types (j : Int) := fun j hj => idx_app (by rw [h.tl]; exact hj)
  have w1 : ∀ j : Nat, j < b.keys.length → idx (b.wrote ++ [[]]) (j : Int) = idx b.wrote (j : Int) := fun j hj => idx_app (by rw [h.wl]; exact hj)
  have w2 : idx (b.wrote ++ [[]]) ((b.keys.length : Nat) : Int) = [] := idx_end h.wl.symm
  have i1 : ∀ j : Nat, j < b.keys.length → idx (b.incs ++ [0]) (j : Int) = idx b.incs (j : Int) := fun j hj => idx_app (by rw [h.il]; exact hj)
  have i2 : idx (b.incs ++ [0]) ((b.keys.length : Nat) : Int) = 0 := idx_end h.il.symm
  have l1 : ∀ j : Nat, j < b.keys.length → idx (b.last_ ++ [-1]) (j : Int) = idx b.last_ (j : Int) := fun j hj => idx_app (by rw [h.ll]; exact hj)
  have l2 : idx (b.last_ ++ [-1]) ((b.keys.length : Nat) : Int) = -1 := idx_end h.ll.symm
  have ho := h.io s hn
  have hne : ∀ e ∈ E, e.1.Key ≠ s := fun e he hs => by
    obtain ⟨j, hj, hk⟩ := h.ks e he
    exact hn j hj (hk.trans hs)
  have cut : ∀ j : Nat, j < b.keys.length + 1 → j < b.keys.length ∨ j = b.keys.length := by omega
  refine ⟨by simp [h.tl], by simp [h.wl], by simp [h.il], by simp [h.ll], ?_, ?_, ?_, ?_, ?_, ?_, ?_, ?_, ?_⟩
  · intro i j hi hj he
    dsimp only at hi hj he
    rw [hl] at hi hj
    have := h.nd i j
    rcases cut i hi with hi' | hi' <;> rcases cut j hj with hj' | hj' <;> grind
  · intro e he
    obtain ⟨j, hj, hk⟩ := h.ks e he
    exact ⟨j, by simp; omega, (k1 j hj).trans hk⟩
  · intro e he j hj hk
    dsimp only at hj hk ⊢
    rw [hl] at hj
    rcases cut j hj with hj' | hj'
    · rw [k1 j hj'] at hk; rw [t1 j hj']; exact h.ty e he j hj' hk
    · subst hj'; rw [k2] at hk; exact absurd hk.symm (hne e he)
  · intro j hj a
    dsimp only at hj ⊢
    rw [hl] at hj
    rcases cut j hj with hj' | hj'
    · rw [k1 j hj', w1 j hj']; exact h.wr j hj' a
    · subst hj'
      rw [k2, w2]
      constructor
      · rintro ⟨m, hm, _⟩; simp at hm
      · rintro ⟨e, he, hk, _⟩; exact absurd hk (hne e he)
  · intro j hj
    dsimp only at hj ⊢
    rw [hl] at hj
    rcases cut j hj with hj' | hj'
    · rw [w1 j hj']; exact h.wn j hj'
    · subst hj'; rw [w2]; simp
  · intro j hj
    dsimp only at hj ⊢
    rw [hl] at hj
    rcases cut j hj with hj' | hj'
    · rw [k1 j hj', i1 j hj']; exact h.ic j hj'
    · subst hj'; rw [k2, i2, ho]; rfl
  · intro j hj
    dsimp only at hj ⊢
    rw [hl] at hj
    rcases cut j hj with hj' | hj'
    · rw [k1 j hj']; exact h.i8 j hj'
    · subst hj'; rw [k2, ho]; simp
  · intro x hx
    dsimp only at hx ⊢
    rw [hl] at hx
    exact h.io x (fun j hj => by rw [← k1 j hj]; exact hx j (by omega))
  · intro j hj
    dsimp only at hj ⊢
    rw [hl] at hj
    rcases cut j hj with hj' | hj'
    · rw [k1 j hj', l1 j hj']; exact h.la j hj'
    · subst hj'; rw [k2, l2, ho]; simp
theorem snoc_mem {E : List (Call × Int)} {c : Call} {w : Int} {e : Call × Int} : e ∈ E ++ [(c, w)] ↔ e ∈ E ∨ e = (c, w) := by simp
theorem BookInv0.same {E : List (Call × Int)} {b : Assizeref05Book} {c : Call} {w : Int} {k : Nat} (h : BookInv0 E b) (hk : k < b.keys.length) (hs : idx b.keys (k : Int) = c.Key) (ht : idx b.types (k : Int) = typ c.Kind)
    (h2 : c.Kind ≠ 2) (h3 : c.Kind ≠ 3) (hw : whosStep (whos E c.Key) c w c.Key = whos E c.Key) : BookInv0 (E ++ [(c, w)]) b := by
  have hws : ∀ s, whos (E ++ [(c, w)]) s = whos E s := fun s => by
    rw [whos_snoc]
    by_cases e : c.Kind = 4 ∧ c.Key = s
    · rw [← e.2]; exact hw
    · exact whosStep_other e
  refine ⟨h.tl, h.wl, h.il, h.ll, h.nd, ?_, ?_, ?_, ?_, ?_, ?_, ?_, ?_⟩
  · intro e he
    rcases snoc_mem.1 he with he | rfl
    · exact h.ks e he
    · exact ⟨k, hk, hs⟩
  · intro e he j hj hkj
    rcases snoc_mem.1 he with he | rfl
    · exact h.ty e he j hj hkj
    · have := h.nd j k hj hk (hkj.trans hs.symm)
      subst this
      exact ht
  · intro j hj a
    rw [h.wr j hj a]
    constructor
    · rintro ⟨e, he, r⟩; exact ⟨e, snoc_mem.2 (.inl he), r⟩
    · rintro ⟨e, he, r⟩
      rcases snoc_mem.1 he with he | rfl
      · exact ⟨e, he, r⟩
      · rcases r.2.1 with r | r <;> contradiction
  · intro j hj
    have := h.wn j hj
    simp; omega
  · intro j hj; rw [hws]; exact h.ic j hj
  · intro j hj; rw [hws]; exact h.i8 j hj
  · intro s hs'; rw [hws]; exact h.io s hs'
  · intro j hj; rw [hws]; exact h.la j hj
theorem BookInv0.write {E : List (Call × Int)} {b : Assizeref05Book} {c : Call} {w : Int} {k : Nat} (h : BookInv0 E b) (hk : k < b.keys.length) (hs : idx b.keys (k : Int) = c.Key) (ht : idx b.types (k : Int) = typ c.Kind)
    (h23 : c.Kind = 2 ∨ c.Kind = 3) : BookInv0 (E ++ [(c, w)]) ⟨b.keys, b.types, b.wrote.set k (idx b.wrote (k : Int) ++ [c.Arg]), b.incs, b.last_⟩ := by
  have hws : ∀ s, whos (E ++ [(c, w)]) s = whos E s := fun s => by
    rw [whos_snoc]
    exact whosStep_other (fun e => by omega)
  have w1 : ∀ j : Nat, idx (b.wrote.set k (idx b.wrote (k : Int) ++ [c.Arg])) (j : Int) = if j = k then idx b.wrote (k : Int) ++ [c.Arg] else idx b.wrote (j : Int) := fun j => idx_setN (by rw [h.wl]; exact hk)
  refine ⟨h.tl, by simp [h.wl], h.il, h.ll, h.nd, ?_, ?_, ?_, ?_, ?_, ?_, ?_, ?_⟩
  · intro e he
    rcases snoc_mem.1 he with he | rfl
    · exact h.ks e he
    · exact ⟨k, hk, hs⟩
  · intro e he j hj hkj
    rcases snoc_mem.1 he with he | rfl
    · exact h.ty e he j hj hkj
    · have := h.nd j k hj hk (hkj.trans hs.symm)
      subst this
      exact ht
  · intro j hj a
    dsimp only at hj ⊢
    rw [w1 j]
    have hold := h.wr j hj a
    by_cases e : j = k
    · subst e
      rw [if_pos rfl]
      constructor
      · rintro ⟨m, hm, he⟩
        rcases Nat.lt_or_ge m (idx b.wrote (j : Int)).length with h1 | h1
        · rw [idx_app h1] at he
          obtain ⟨e, he', r⟩ := hold.1 ⟨m, h1, he⟩
          exact ⟨e, snoc_mem.2 (.inl he'), r⟩
        · simp at hm
          rw [idx_end (by omega)] at he
          exact ⟨(c, w), snoc_mem.2 (.inr rfl), hs.symm, h23, he⟩
      · rintro ⟨e, he, r⟩
        rcases snoc_mem.1 he with he | rfl
        · obtain ⟨m, hm, hh⟩ := hold.2 ⟨e, he, r⟩
          exact ⟨m, by simp; omega, (idx_app hm).trans hh⟩
        · exact ⟨_, by simp, (idx_end rfl).trans r.2.2⟩
    · rw [if_neg e, hold]
      constructor
      · rintro ⟨e, he, r⟩; exact ⟨e, snoc_mem.2 (.inl he), r⟩
      · rintro ⟨e', he, r⟩
        rcases snoc_mem.1 he with he | rfl
        · exact ⟨e', he, r⟩
        · exact absurd (h.nd j k hj hk (r.1.symm.trans hs.symm)) e
  · intro j hj
    dsimp only at hj ⊢
    rw [w1 j]
    have := h.wn j hj
    split
    · rename_i e; subst e; simp; omega
    · simp; omega
  · intro j hj; rw [hws]; exact h.ic j hj
  · intro j hj; rw [hws]; exact h.i8 j hj
  · intro s hs'; rw [hws]; exact h.io s hs'
  · intro j hj; rw [hws]; exact h.la j hj
theorem BookInv0.inc {E : List (Call × Int)} {b : Assizeref05Book} {c : Call} {w : Int} {k : Nat} (h : BookInv0 E b) (hk : k < b.keys.length) (hs : idx b.keys (k : Int) = c.Key) (ht : idx b.types (k : Int) = typ c.Kind)
    (h4 : c.Kind = 4) (hw : whosStep (whos E c.Key) c w c.Key = whos E c.Key ++ [w]) (h8 : (whos E c.Key).length + 1 ≤ 8) :
    BookInv0 (E ++ [(c, w)]) ⟨b.keys, b.types, b.wrote, b.incs.set k (idx b.incs (k : Int) + 1), b.last_.set k w⟩ := by
  have hws : ∀ s, whos (E ++ [(c, w)]) s = if c.Key = s then whos E s ++ [w] else whos E s := fun s => by
    rw [whos_snoc]
    by_cases e : c.Key = s
    · rw [if_pos e, ← e]; exact hw
    · rw [if_neg e]; exact whosStep_other (fun hh => e hh.2)
  have i1 : ∀ j : Nat, idx (b.incs.set k (idx b.incs (k : Int) + 1)) (j : Int) = if j = k then idx b.incs (k : Int) + 1 else idx b.incs (j : Int) := fun j => idx_setN (by rw [h.il]; exact hk)
  have l1 : ∀ j : Nat, idx (b.last_.set k w) (j : Int) = if j = k then w else idx b.last_ (j : Int) := fun j => idx_setN (by rw [h.ll]; exact hk)
  have hne : ∀ j : Nat, j < b.keys.length → (c.Key = idx b.keys (j : Int) ↔ j = k) := fun j hj => ⟨fun e => h.nd j k hj hk (e.symm.trans hs.symm), fun e => by rw [e, hs]⟩
  refine ⟨h.tl, h.wl, by simp [h.il], by simp [h.ll], h.nd, ?_, ?_, ?_, ?_, ?_, ?_, ?_, ?_⟩
  · intro e he
    rcases snoc_mem.1 he with he | rfl
    · exact h.ks e he
    · exact ⟨k, hk, hs⟩
  · intro e he j hj hkj
    rcases snoc_mem.1 he with he | rfl
    · exact h.ty e he j hj hkj
    · have := h.nd j k hj hk (hkj.trans hs.symm)
      subst this
      exact ht
  · intro j hj a
    dsimp only at hj ⊢
    rw [h.wr j hj a]
    constructor
    · rintro ⟨e, he, r⟩; exact ⟨e, snoc_mem.2 (.inl he), r⟩
    · rintro ⟨e, he, r⟩
      rcases snoc_mem.1 he with he | rfl
      · exact ⟨e, he, r⟩
      · have := r.2.1; dsimp only at this; omega
  · intro j hj
    have := h.wn j hj
    simp; omega
  · intro j hj
    dsimp only at hj ⊢
    have := h.ic j hj
    rw [hws, i1 j]
    by_cases e : j = k
    · rw [if_pos e, if_pos ((hne j hj).2 e)]; subst e; simp; omega
    · rw [if_neg e, if_neg (fun hh => e ((hne j hj).1 hh))]; exact this
  · intro j hj
    dsimp only at hj ⊢
    rw [hws]
    by_cases e : j = k
    · rw [if_pos ((hne j hj).2 e)]; subst e; rw [hs]; simp; omega
    · rw [if_neg (fun hh => e ((hne j hj).1 hh))]; exact h.i8 j hj
  · intro s hs'
    dsimp only at hs'
    rw [hws, if_neg (fun e => hs' k hk (hs.trans e))]
    exact h.io s hs'
  · intro j hj
    dsimp only at hj ⊢
    rw [hws, l1 j]
    by_cases e : j = k
    · rw [if_pos e, if_pos ((hne j hj).2 e)]
      refine ⟨fun h0 => by simp at h0, fun _ => ?_⟩
      rw [idx_end (by simp)]
    · rw [if_neg e, if_neg (fun hh => e ((hne j hj).1 hh))]; exact h.la j hj
theorem at_told {E : List (Call × Int)} {b : Assizeref05Book} {c : Call} {w : Int} {k : Nat} (h : BookInv0 E b) (hk : k < b.keys.length) (hs : idx b.keys (k : Int) = c.Key) (ht : idx b.types (k : Int) = typ c.Kind)
    (h1 : 1 ≤ c.Kind) (h8 : c.Kind ≤ 8) (hw : 0 ≤ w) (hE : E.length ≤ 4096) :
    Tri (assizeref05zbook_enter.j1 c w b.keys b.types b.wrote b.incs b.last_ (k : Int)) (fun r => (r.1 = 0 ↔ EntOk2 E c w) ∧ (r.1 = 0 → BookInv0 (E ++ [(c, w)]) r.2 ∧ r.2.keys = b.keys ∧ r.2.types = b.types)) := by
  have hin := h.ic k hk
  have hi8 := h.i8 k hk
  have hla := h.la k hk
  have hwr := h.wr k hk c.Arg
  have hwn := h.wn k hk
  rw [hs] at hin hi8 hla hwr
  refine tri_mono (book_at (who := w) hk h.tl h.wl h.il h.ll (by omega) (by omega) h1 h8) (fun r hr => ?_)
  have stay : ∀ {l : List Int}, whosStep (whos E c.Key) c w c.Key = l → l = if c.Kind = 4 ∧ ((whos E c.Key).length = 0 ∨ idx (whos E c.Key) (((whos E c.Key).length - 1 : Nat) : Int) ≠ w) then whos E c.Key ++ [w] else whos E c.Key := by
    rintro l rfl
    unfold whosStep
    simp
  have st := stay rfl
  rcases hr with ⟨a, rfl⟩ | ⟨_, b1, b2, rfl⟩ | ⟨_, b1, b2, rfl⟩ | ⟨_, b1, b2, b3, b4⟩ | ⟨_, b1, b2, b3, rfl⟩ | ⟨_, b1, b2, rfl⟩ | ⟨_, b1, b2, b3, rfl⟩
  · exact absurd ht a
  · refine ⟨⟨fun h => by simp at h, fun hh => ?_⟩, fun h => by simp at h⟩
    obtain ⟨e, he, r1, r2, r3⟩ := hwr.1 b2
    exact absurd r3 (hh.1 b1 e he r1 r2)
  · refine ⟨⟨fun _ => ⟨fun _ e he r1 r2 r3 => b2 (hwr.2 ⟨e, he, r1, r2, r3⟩), fun h4 => by omega⟩, fun _ => rfl⟩, fun _ => ⟨h.write hk hs ht b1, rfl, rfl⟩⟩
  · have hne : (whos E c.Key).length = 0 ∨ idx (whos E c.Key) (((whos E c.Key).length - 1 : Nat) : Int) ≠ w := by grind
    rw [if_pos ⟨b1, hne⟩] at st
    refine ⟨⟨fun h0 => by omega, fun hh => ?_⟩, fun h0 => by omega⟩
    have := hh.2 b1
    rw [st] at this
    simp at this
    omega
  · have hne : (whos E c.Key).length = 0 ∨ idx (whos E c.Key) (((whos E c.Key).length - 1 : Nat) : Int) ≠ w := by grind
    rw [if_pos ⟨b1, hne⟩] at st
    refine ⟨⟨fun _ => ⟨fun h => by omega, fun _ => by rw [st]; simp; omega⟩, fun _ => rfl⟩, fun _ => ⟨h.inc hk hs ht b1 st (by omega), rfl, rfl⟩⟩
  · have hne : ¬ ((whos E c.Key).length = 0 ∨ idx (whos E c.Key) (((whos E c.Key).length - 1 : Nat) : Int) ≠ w) := by grind
    rw [if_neg (fun hh => hne hh.2)] at st
    refine ⟨⟨fun _ => ⟨fun h => by omega, fun _ => by rw [st]; exact hi8⟩, fun _ => rfl⟩, fun _ => ⟨h.same hk hs ht (by omega) (by omega) st, rfl, rfl⟩⟩
  · rw [if_neg (fun hh => b3 hh.1)] at st
    refine ⟨⟨fun _ => ⟨fun h => by omega, fun h => by omega⟩, fun _ => rfl⟩, fun _ => ⟨h.same hk hs ht b1 b2 st, rfl, rfl⟩⟩
structure BookInv (E : List (Call × Int)) (b : Assizeref05Book) : Prop extends BookInv0 E b where
  len : b.keys.length ≤ 32
  kex : ∀ j : Nat, j < b.keys.length → ∃ e ∈ E, e.1.Key = idx b.keys (j : Int)
theorem BookInv.start : BookInv [] ⟨[], [], [], [], []⟩ := ⟨BookInv0.start, by simp, fun j hj => by simp at hj⟩
theorem book_told {E : List (Call × Int)} {b : Assizeref05Book} {c : Call} {w : Int} (h : BookInv E b) (hroom : b.keys.length = 32 → ∃ j : Nat, j < b.keys.length ∧ idx b.keys (j : Int) = c.Key)
    (h1 : 1 ≤ c.Kind) (h8 : c.Kind ≤ 8) (hw : 0 ≤ w) (hE : E.length ≤ 4096) :
    Tri (assizeref05zbook_enter b c w) (fun r => (r.1 = 0 ↔ EntOk E c w) ∧ (r.1 = 0 → BookInv (E ++ [(c, w)]) r.2)) := by
  have hl := h.len
  have t1 := h.tl
  have t2 := h.wl
  have t3 := h.il
  have t4 := h.ll
  obtain ⟨r0, hr0, hf⟩ := find_told (l := b.keys) (s := c.Key) (by omega)
  unfold assizeref05zbook_enter
  rw [hr0]
  refine tri_sb ?_
  rcases hf with ⟨rfl, hno⟩ | ⟨k, rfl, hk1, hk2, _⟩
  · refine tri_if (fun _ => ?_) (fun hh => by omega)
    refine tri_if (fun h32 => ?_) (fun h32 => ?_)
    · obtain ⟨j, hj, he⟩ := hroom (by omega)
      exact absurd he (hno j hj)
    · have hn := h.toBookInv0.new (s := c.Key) (t := typ c.Kind) hno
      have hat := at_told (w := w) hn (k := b.keys.length) (by simp) (idx_end rfl) (idx_end t1.symm) h1 h8 hw hE
      have hne : ∀ e ∈ E, e.1.Key ≠ c.Key := fun e he hs => by
        obtain ⟨j, hj, hk⟩ := h.ks e he
        exact hno j hj (hk.trans hs)
      unfold assizeref05zbook_enter.j7 assizeref05zbook_enter.j8
      simp only [Of_told h1 h8]
      refine tri_must (by omega) (tri_sb (tri_must (by omega) (tri_must (by omega) (tri_must (by omega) (tri_must (by omega) ?_)))))
      refine tri_mono hat (fun r hr => ?_)
      refine ⟨hr.1.trans ⟨fun hh => ⟨fun e he hs => absurd hs (hne e he), hh⟩, fun hh => hh.2⟩, fun h0 => ?_⟩
      obtain ⟨q1, q2, q3⟩ := hr.2 h0
      refine ⟨q1, by rw [q2]; simp; omega, fun j hj => ?_⟩
      rw [q2] at hj ⊢
      have hj : j < b.keys.length + 1 := by simpa using hj
      rcases (by omega : j < b.keys.length ∨ j = b.keys.length) with hj' | hj'
      · obtain ⟨e, he, hk⟩ := h.kex j hj'
        exact ⟨e, snoc_mem.2 (.inl he), by rw [hk]; exact (idx_app hj').symm⟩
      · subst hj'
        exact ⟨(c, w), snoc_mem.2 (.inr rfl), (idx_end rfl).symm⟩
  · refine tri_if (fun hh => by omega) (fun _ => ?_)
    obtain ⟨e0, he0, hk0⟩ := h.kex k hk1
    have hty := h.ty e0 he0 k hk1 hk0.symm
    by_cases ht : idx b.types (k : Int) = typ c.Kind
    · have hat := at_told (w := w) h.toBookInv0 hk1 hk2 ht h1 h8 hw hE
      refine tri_mono hat (fun r hr => ?_)
      refine ⟨hr.1.trans ⟨fun hh => ⟨fun e he hs => ?_, hh⟩, fun hh => hh.2⟩, fun h0 => ?_⟩
      · exact (h.ty e he k hk1 (hk2.trans hs.symm)).symm.trans ht
      · obtain ⟨q1, q2, q3⟩ := hr.2 h0
        refine ⟨q1, by rw [q2]; exact hl, fun j hj => ?_⟩
        rw [q2] at hj ⊢
        obtain ⟨e, he, hk⟩ := h.kex j hj
        exact ⟨e, snoc_mem.2 (.inl he), hk⟩
    · have hin := h.ic k hk1
      have hi8 := h.i8 k hk1
      have hwn := h.wn k hk1
      refine tri_mono (book_at (who := w) hk1 t1 t2 t3 t4 (by omega) (by omega) h1 h8) (fun r hr => ?_)
      have hno : ¬ EntOk E c w := fun hh => ht (hty.trans (hh.1 e0 he0 (hk0.trans hk2)))
      rcases hr with ⟨a, rfl⟩ | ⟨a, _⟩ | ⟨a, _⟩ | ⟨a, _⟩ | ⟨a, _⟩ | ⟨a, _⟩ | ⟨a, _⟩
      · exact ⟨⟨fun h => by simp at h, fun hh => absurd hh hno⟩, fun h => by simp at h⟩
      all_goals exact absurd a ht
def entOf (h : History) (i : Nat) : List (Call × Int) := (callsOf h (idx h.Txns (i : Int))).map (fun c => (c, (i : Int)))
def entUp (h : History) (k : Nat) : List (Call × Int) := (List.range k).flatMap (entOf h)
theorem entUp_succ {h : History} {k : Nat} : entUp h (k + 1) = entUp h k ++ entOf h k := by
  unfold entUp; rw [List.range_succ, List.flatMap_append]; simp
def EntsOk (E L : List (Call × Int)) : Prop := ∀ j : Nat, j < L.length → EntOk (E ++ L.take j) (idx L (j : Int)).1 (idx L (j : Int)).2
theorem EntsOk.append {E L M : List (Call × Int)} : EntsOk E (L ++ M) ↔ EntsOk E L ∧ EntsOk (E ++ L) M := by
  constructor
  · intro h
    refine ⟨fun j hj => ?_, fun j hj => ?_⟩
    · have := h j (by simp; omega)
      rwa [idx_app hj, List.take_append_of_le_length (by omega)] at this
    · have := h (L.length + j) (by simp; omega)
      rw [List.take_append, List.take_of_length_le (by omega), show L.length + j - L.length = j by omega, ← List.append_assoc] at this
      rwa [show idx (L ++ M) ((L.length + j : Nat) : Int) = idx M (j : Int) from by
        rw [idx_eq rfl (by simp; omega), idx_eq rfl hj, List.getElem_append_right (by omega)]; congr 1; omega] at this
  · rintro ⟨h1, h2⟩ j hj
    rcases Nat.lt_or_ge j L.length with h3 | h3
    · rw [idx_app h3, List.take_append_of_le_length (by omega)]; exact h1 j h3
    · obtain ⟨i, rfl⟩ : ∃ i, j = L.length + i := ⟨j - L.length, by omega⟩
      have hi : i < M.length := by simp at hj; omega
      have := h2 i hi
      rw [List.take_append, List.take_of_length_le (by omega), show L.length + i - L.length = i by omega, ← List.append_assoc]
      rwa [show idx (L ++ M) ((L.length + i : Nat) : Int) = idx M (i : Int) from by
        rw [idx_eq rfl (by simp; omega), idx_eq rfl hi, List.getElem_append_right (by omega)]; congr 1; omega]
theorem room {K l : List ByteArray} {s : ByteArray} (hK : K.length ≤ 32) (hl : l.length = 32) (nd : ∀ i j : Nat, i < l.length → j < l.length → idx l (i : Int) = idx l (j : Int) → i = j)
    (hs : s ∈ K) (hsub : ∀ x ∈ l, x ∈ K) : ∃ j : Nat, j < l.length ∧ idx l (j : Int) = s := by
  have hnd : l.Nodup := by
    rw [List.nodup_iff_pairwise_ne, List.pairwise_iff_getElem]
    intro i j hi hj hij he
    have := nd i j hi hj (by rw [idx_eq rfl hi, idx_eq rfl hj]; exact he)
    omega
  by_cases h : s ∈ l
  · obtain ⟨j, hj, he⟩ := List.getElem_of_mem h
    exact ⟨j, hj, (idx_eq rfl hj).trans he⟩
  · have h1 : (s :: l).Nodup := List.nodup_cons.2 ⟨h, hnd⟩
    have h2 := h1.length_le_of_subset (l₂ := K) (fun x hx => by
      rcases List.mem_cons.1 hx with rfl | hx
      · exact hs
      · exact hsub x hx)
    simp at h2
    omega
def InK (K : List ByteArray) (E : List (Call × Int)) : Prop := ∀ e ∈ E, e.1.Key ∈ K
theorem BookInv.sub {K : List ByteArray} {E : List (Call × Int)} {b : Assizeref05Book} (h : BookInv E b) (hE : InK K E) : ∀ x ∈ b.keys, x ∈ K := by
  intro x hx
  obtain ⟨j, hj, rfl⟩ := List.getElem_of_mem hx
  obtain ⟨e, he, hk⟩ := h.kex j hj
  have := hE e he
  rw [hk, idx_eq rfl hj] at this
  exact this
theorem ref_enters {K : List ByteArray} {E : List (Call × Int)} {b : Assizeref05Book} {i : Nat} {l : List Call} (h : BookInv E b) (hK : K.length ≤ 32) (hEK : InK K E) (hlK : ∀ c ∈ l, c.Key ∈ K) (hl : l.length ≤ 16) (hi : i < 64) (hn : E.length ≤ 1024)
    (hc : AllI l (fun c => 1 ≤ c.Kind ∧ c.Kind ≤ 8)) :
    Tri (iter (assizeref05zCheck.s7 (i : Int) l) (bsOf b 0)) (fun x => (EntsOk E (l.map (fun c => (c, (i : Int)))) → ∃ b', x = .inr (.inl (bsOf b' ((i + 1 : Nat) : Int))) ∧ BookInv (E ++ l.map (fun c => (c, (i : Int)))) b') ∧
      (¬ EntsOk E (l.map (fun c => (c, (i : Int)))) → x = .inr (.inr 1))) := by
  generalize hm : l.map (fun c => (c, (i : Int))) = m
  have hml : m.length = l.length := by rw [← hm]; simp
  have hmi : ∀ k : Nat, k < l.length → idx m (k : Int) = (idx l (k : Int), (i : Int)) := fun k hk => by rw [← hm, idx_map hk]
  refine tri_upm (k0 := 0) l.length (fun k s => ∃ b', s = bsOf b' (k : Int) ∧ BookInv (E ++ m.take k) b' ∧ ∀ j : Nat, j < k → EntOk (E ++ m.take j) (idx m (j : Int)).1 (idx m (j : Int)).2) (Nat.zero_le _) ⟨b, rfl, by simpa using h, fun j hj => absurd hj (Nat.not_lt_zero _)⟩ ?_
  rintro k s hk ⟨b', rfl, hb, hJ⟩
  unfold assizeref05zCheck.s7 bsOf
  dsimp only
  refine tri_if (fun hk1 => ?_) (fun hk1 => ?_)
  · have hk2 : k < l.length := by omega
    have hin : InK K (E ++ m.take k) := fun e he => by
      rcases List.mem_append.1 he with he | he
      · exact hEK e he
      · have := List.mem_of_mem_take he
        rw [← hm] at this
        obtain ⟨c, hc, rfl⟩ := List.mem_map.1 this
        exact hlK c hc
    have hcK : (idx l (k : Int)).Key ∈ K := hlK _ (by rw [idx_eq rfl hk2]; exact List.getElem_mem hk2)
    have hw : w64 ((k : Int) + 1) = ((k + 1 : Nat) : Int) := w64zsucc (by omega)
    obtain ⟨r, hr, q1, q2⟩ := book_told (c := idx l (k : Int)) (w := (i : Int)) hb (fun h32 => room hK h32 hb.nd hcK (hb.sub hin)) (hc k hk2).1 (hc k hk2).2 (by omega) (by simp; omega)
    refine tri_must (by omega) (tri_bnd hr ?_)
    refine tri_if (fun h0 => ?_) (fun h0 => ?_)
    · refine tri_out (tri_out (tri_out (tri_some ⟨fun hall => ?_, fun _ => rfl⟩)))
      have := hall k (by omega)
      rw [hmi k hk2] at this
      exact absurd (q1.2 this) h0
    · refine tri_some ⟨hk2, r.2, ?_, ?_, ?_⟩
      · rw [hw]
      · rw [take_succ (by omega), hmi k hk2, ← List.append_assoc]
        exact q2 (by omega)
      · intro j hj
        rcases Nat.lt_or_ge j k with h1 | h1
        · exact hJ j h1
        · rw [show j = k by omega, hmi k hk2]; exact q1.1 (by omega)
  · have hw : w64 ((i : Int) + 1) = ((i + 1 : Nat) : Int) := w64zsucc (by omega)
    rw [hw]
    have hfull : m.take k = m := List.take_of_length_le (by omega)
    rw [hfull] at hb
    refine tri_out (tri_out (tri_some ⟨fun _ => ⟨b', rfl, hb⟩, fun hno => absurd (fun j hj => hJ j (by omega)) hno⟩))
structure Sound (h : History) : Prop where
  names : NamesOk h.Keys
  len : h.Txns.length ≤ 32
  txn : ∀ i : Nat, i < h.Txns.length → TxnOk h i
  ents : EntsOk [] (entUp h h.Txns.length)
theorem keys_in {h : History} {i : Nat} (hi : KeysOk h (idx h.Txns (i : Int))) : ∀ c ∈ callsOf h (idx h.Txns (i : Int)), c.Key ∈ h.Keys := by
  intro c hc
  obtain ⟨o, ho, rfl⟩ := List.mem_map.1 hc
  have := (alli_iff.1 hi) o ho
  show idx h.Keys o.Key ∈ h.Keys
  rw [idx_eq (n := o.Key.toNat) (by omega) (by omega)]
  exact List.getElem_mem _
theorem entOf_len {h : History} {i : Nat} (hi : TxnOk h i) : (entOf h i).length ≤ 16 := by
  have := hi.2.2.2.2.1
  simpa [entOf, evOf, callsOf] using this
theorem ref_Check_sound {h : History} (hs : HSmall h) : Tri (assizeref05zCheck h) (fun v => (v = 0 ↔ Sound h) ∧ (v = 0 ∨ v = 1)) := by
  obtain ⟨hs1, hs2, hs3⟩ := hs
  obtain ⟨y, hy, hn⟩ := names_told (l := h.Keys) (by omega)
  unfold assizeref05zCheck assizeref05zCheck.j1
  simp only [cond_true, cond_false]
  repeat' (first | contradiction | with_reducible refine tri_if (fun hq => ?_) (fun hq => ?_) | with_reducible refine tri_must (by first | omega | grind [w64zin]) ?_ | with_reducible refine tri_out ?_ | with_reducible refine tri_sb ?_ | with_reducible refine tri_cb ?_ | with_reducible refine tri_mb ?_ | with_reducible refine tri_bb ?_ | with_reducible refine tri_some ?_ | refine tri_bnd hy ?_)
  · exact ⟨⟨fun h => absurd h (by decide), fun hS => absurd (hn.2 hS.names) ‹¬y = true›⟩, .inr rfl⟩
  · exact ⟨⟨fun h => absurd h (by decide), fun hS => absurd hS.len (by omega)⟩, .inr rfl⟩
  · have hN : NamesOk h.Keys := hn.1 (Decidable.of_not_not ‹¬¬y = true›)
    have h32 : h.Txns.length ≤ 32 := by omega
    refine tri_upm (k0 := 0) h.Txns.length (fun k s => ∃ b, s = bsOf b (k : Int) ∧ BookInv (entUp h k) b ∧ InK h.Keys (entUp h k) ∧ (entUp h k).length ≤ 16 * k ∧ EntsOk [] (entUp h k) ∧ ∀ j : Nat, j < k → TxnOk h j) (Nat.zero_le _)
      ⟨⟨[], [], [], [], []⟩, rfl, BookInv.start, fun e he => by simp [entUp] at he, by simp [entUp], fun j hj => by simp [entUp] at hj, fun j hj => absurd hj (Nat.not_lt_zero _)⟩ ?_
    rintro k s hk ⟨b, rfl, hb, hin, hlen, hents, hJ⟩
    unfold assizeref05zCheck.s2 assizeref05zCheck.j3 bsOf
    simp only [cond_true, cond_false]
    have hbad : (k < h.Txns.length → ¬ TxnOk h k) → k < h.Txns.length → ¬ Sound h := fun h1 h2 hS => h1 h2 (hS.txn k h2)
    refine tri_if (fun hk1 => ?_) (fun hk1 => ?_)
    · have hk2 : k < h.Txns.length := by omega
      obtain ⟨p', hp', hp1'⟩ := ref_placed_told (l := h.Txns) hk2 (by omega)
      have hco : EvOk (evOf h (idx h.Txns (k : Int))) → (idx h.Txns (k : Int)).Ops.length ≤ 16 := fun he => by
        have := he.2.2.1
        simpa [evOf, callsOf] using this
      repeat' (first | contradiction | with_reducible refine tri_if (fun hq => ?_) (fun hq => ?_) | with_reducible refine tri_must (by first | omega | grind [w64zin]) ?_ | with_reducible refine tri_out ?_ | with_reducible refine tri_sb ?_ | with_reducible refine tri_cb ?_ | with_reducible refine tri_mb ?_ | with_reducible refine tri_bb ?_ | with_reducible refine tri_some ?_ | refine tri_bnd hp' ?_)
      · exact ⟨⟨fun h => absurd h (by decide), fun hS => absurd (hp1'.2 (hS.txn k hk2).1) ‹¬p' = true›⟩, .inr rfl⟩
      · exact ⟨⟨fun h => absurd h (by decide), fun hS => absurd (hco (hS.txn k hk2).2.2) (by omega)⟩, .inr rfl⟩
      · refine ref_txn (b := b) hk2 (hs3 k hk2) (by omega) (fun hno => ?_) (fun hKo hEv => ?_)
        · exact ⟨⟨fun h => absurd h (by decide), fun hS => absurd ⟨(hS.txn k hk2).2.1, (hS.txn k hk2).2.2⟩ hno⟩, .inr rfl⟩
        · have hok : TxnOk h k := ⟨hp1'.1 (Decidable.of_not_not ‹¬¬p' = true›), hKo, hEv⟩
          have hc : AllI (callsOf h (idx h.Txns (k : Int))) (fun c => 1 ≤ c.Kind ∧ c.Kind ≤ 8) := fun j hj => ⟨(hEv.2.2.2 j hj).1, (hEv.2.2.2 j hj).2.1⟩
          refine tri_mono (ref_enters (i := k) hb hN.1 hin (keys_in hKo) hEv.2.2.1 (by omega) (by omega) hc) (fun x hx => ?_)
          by_cases hall : EntsOk (entUp h k) (entOf h k)
          · obtain ⟨b', rfl, hb'⟩ := hx.1 hall
            refine ⟨hk2, b', rfl, by rw [entUp_succ]; exact hb', ?_, ?_, ?_, ?_⟩
            · rw [entUp_succ]
              intro e he
              rcases List.mem_append.1 he with he | he
              · exact hin e he
              · obtain ⟨c, hc, rfl⟩ := List.mem_map.1 he
                exact keys_in hKo c hc
            · have := entOf_len hok
              rw [entUp_succ, List.length_append]; omega
            · rw [entUp_succ]
              exact EntsOk.append.2 ⟨hents, hall⟩
            · intro j hj
              rcases Nat.lt_or_ge j k with h1 | h1
              · exact hJ j h1
              · rw [show j = k by omega]; exact hok
          · rw [hx.2 hall]
            refine ⟨⟨fun h => absurd h (by decide), fun hS => absurd ?_ hall⟩, .inr rfl⟩
            have hsp : ∀ n : Nat, k + 1 ≤ n → EntsOk [] (entUp h n) → EntsOk (entUp h k) (entOf h k) := by
              intro n
              induction n with
              | zero => intro h; omega
              | succ n ih =>
                intro hn hE
                rw [entUp_succ, EntsOk.append] at hE
                rcases Nat.lt_or_ge k n with h1 | h1
                · exact ih (by omega) hE.1
                · rw [show n = k by omega] at hE
                  exact hE.2
            exact hsp _ hk2 hS.ents
    · have hk2 : k = h.Txns.length := by omega
      repeat' (first | contradiction | with_reducible refine tri_if (fun hq => ?_) (fun hq => ?_) | with_reducible refine tri_must (by first | omega | grind [w64zin]) ?_ | with_reducible refine tri_out ?_ | with_reducible refine tri_sb ?_ | with_reducible refine tri_cb ?_ | with_reducible refine tri_mb ?_ | with_reducible refine tri_bb ?_ | with_reducible refine tri_some ?_)
      rw [hk2] at hents hJ
      exact ⟨⟨fun _ => ⟨hN, h32, hJ, hents⟩, fun _ => rfl⟩, .inl rfl⟩
theorem Check_told {h : History} (hs : HSmall h) : ∃ v, index_Check h = some v ∧ assizeref05zCheck h = some v ∧ (v = 0 ∨ v = 1) ∧ (v = 0 ↔ Sound h) := by
  obtain ⟨v, hv, v', hv', rfl, h01⟩ := index_Check_told hs
  obtain ⟨w, hw, h1, h2⟩ := ref_Check_sound hs
  have : v = w := Option.some.inj (hv'.symm.trans hw)
  subst this
  exact ⟨v, hv, hv', h01, h1⟩
end Go.Proofs.YtnlkggppokcmfaaT
