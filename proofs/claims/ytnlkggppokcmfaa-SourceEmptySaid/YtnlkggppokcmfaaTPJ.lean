/- The ledger of the index and the book of the document go alike. -/
import Derived.Test.YtnlkggppokcmfaaTPI
namespace Go.Proofs.YtnlkggppokcmfaaT
open Go Go.Proofs Go.Proofs.YtnlkggppokcmfaaE
set_option linter.unusedVariables false
set_option linter.unusedSimpArgs false
def typ (k : Int) : Int := (k - 1) % 4 + 1
theorem typeOf_told {k : Int} (h1 : 1 ≤ k) (h2 : k ≤ 8) : index_typeOf k = some (typ k) := by
  have : k = 1 ∨ k = 2 ∨ k = 3 ∨ k = 4 ∨ k = 5 ∨ k = 6 ∨ k = 7 ∨ k = 8 := by omega
  rcases this with h | h | h | h | h | h | h | h <;> subst h <;> decide
theorem Of_told {k : Int} (h1 : 1 ≤ k) (h2 : k ≤ 8) : assizeref05zOf k = some (typ k) := by
  have : k = 1 ∨ k = 2 ∨ k = 3 ∨ k = 4 ∨ k = 5 ∨ k = 6 ∨ k = 7 ∨ k = 8 := by omega
  rcases this with h | h | h | h | h | h | h | h <;> subst h <;> decide
structure Sim (g : IndexLedger) (b : Assizeref05Book) (n : Nat) : Prop where
  keys : g.keys = b.keys
  types : g.types = b.types
  len : b.keys.length ≤ 32
  tl : b.types.length = b.keys.length
  wl : b.wrote.length = b.keys.length
  il : b.incs.length = b.keys.length
  ll : b.last_.length = b.keys.length
  nd : ∀ i j : Nat, i < b.keys.length → j < b.keys.length → idx b.keys (i : Int) = idx b.keys (j : Int) → i = j
  has : ∀ s, mhas g.at_ s = true ↔ ∃ j : Nat, j < b.keys.length ∧ idx b.keys (j : Int) = s
  at_ : ∀ j : Nat, j < b.keys.length → mat g.at_ (idx b.keys (j : Int)) = (j : Int)
  facts : ∀ j : Nat, j < b.keys.length → ∀ a, mhas g.facts ⟨idx b.keys (j : Int), a⟩ = true ↔ ∃ m : Nat, m < (idx b.wrote (j : Int)).length ∧ idx (idx b.wrote (j : Int)) (m : Int) = a
  fout : ∀ s a, mhas g.facts ⟨s, a⟩ = true → ∃ j : Nat, j < b.keys.length ∧ idx b.keys (j : Int) = s
  wn : ∀ j : Nat, j < b.keys.length → (idx b.wrote (j : Int)).length ≤ n
  incs : ∀ j : Nat, j < b.keys.length → ((mat g.incs (idx b.keys (j : Int))).length : Int) = idx b.incs (j : Int)
  i8 : ∀ j : Nat, j < b.keys.length → (mat g.incs (idx b.keys (j : Int))).length ≤ 8
  iout : ∀ s, (∀ j : Nat, j < b.keys.length → idx b.keys (j : Int) ≠ s) → mat g.incs s = []
  last : ∀ j : Nat, j < b.keys.length → ((mat g.incs (idx b.keys (j : Int))).length = 0 → idx b.last_ (j : Int) = -1) ∧
    (0 < (mat g.incs (idx b.keys (j : Int))).length → idx b.last_ (j : Int) = idx (mat g.incs (idx b.keys (j : Int))) (((mat g.incs (idx b.keys (j : Int))).length - 1 : Nat) : Int))
theorem Sim.start : Sim ⟨[], [], [], [], []⟩ ⟨[], [], [], [], []⟩ 0 := by
  refine ⟨rfl, rfl, by simp, rfl, rfl, rfl, rfl, ?_, ?_, ?_, ?_, ?_, ?_, ?_, ?_, ?_, ?_⟩
  all_goals simp [mhas_nil, mat_nil]
  rfl
theorem Sim.mono {g : IndexLedger} {b : Assizeref05Book} {n m : Nat} (h : Sim g b n) (hm : n ≤ m) : Sim g b m :=
  { h with wn := fun j hj => Nat.le_trans (h.wn j hj) hm }
theorem Sim.new {g : IndexLedger} {b : Assizeref05Book} {n : Nat} (h : Sim g b n) {s : ByteArray} {t : Int} (hn : ∀ j : Nat, j < b.keys.length → idx b.keys (j : Int) ≠ s) (h32 : b.keys.length < 32) :
    Sim ⟨g.keys ++ [s], mput g.at_ s (g.keys.length : Int), g.types ++ [t], g.facts, g.incs⟩ ⟨b.keys ++ [s], b.types ++ [t], b.wrote ++ [[]], b.incs ++ [0], b.last_ ++ [-1]⟩ n := by
  have hk := h.keys
  have hl : (b.keys ++ [s]).length = b.keys.length + 1 := by simp
  have k1 : ∀ j : Nat, j < b.keys.length → idx (b.keys ++ [s]) (j : Int) = idx b.keys (j : Int) := fun j hj => idx_app hj
  have k2 : idx (b.keys ++ [s]) ((b.keys.length : Nat) : Int) = s := idx_end rfl
  have w1 : ∀ j : Nat, j < b.keys.length → idx (b.wrote ++ [[]]) (j : Int) = idx b.wrote (j : Int) := fun j hj => idx_app (by rw [h.wl]; exact hj)
  have w2 : idx (b.wrote ++ [[]]) ((b.keys.length : Nat) : Int) = [] := idx_end h.wl.symm
  have i1 : ∀ j : Nat, j < b.keys.length → idx (b.incs ++ [0]) (j : Int) = idx b.incs (j : Int) := fun j hj => idx_app (by rw [h.il]; exact hj)
  have i2 : idx (b.incs ++ [0]) ((b.keys.length : Nat) : Int) = 0 := idx_end h.il.symm
  have l1 : ∀ j : Nat, j < b.keys.length → idx (b.last_ ++ [-1]) (j : Int) = idx b.last_ (j : Int) := fun j hj => idx_app (by rw [h.ll]; exact hj)
  have l2 : idx (b.last_ ++ [-1]) ((b.keys.length : Nat) : Int) = -1 := idx_end h.ll.symm
  have hi0 := h.iout s hn
  have cut : ∀ j : Nat, j < b.keys.length + 1 → j < b.keys.length ∨ j = b.keys.length := by omega
  refine ⟨by simp [hk], by simp [h.types], by simp; omega, by simp [h.tl], by simp [h.wl], by simp [h.il], by simp [h.ll], ?_, ?_, ?_, ?_, ?_, ?_, ?_, ?_, ?_, ?_⟩
  · intro i j hi hj he
    dsimp only at hi hj he
    rw [hl] at hi hj
    have := h.nd i j
    rcases cut i hi with hi' | hi' <;> rcases cut j hj with hj' | hj' <;> grind
  · intro x
    dsimp only
    rw [mhas_put, hl, h.has]
    constructor
    · rintro (rfl | ⟨j, hj, he⟩)
      · exact ⟨_, Nat.lt_succ_self _, k2⟩
      · exact ⟨j, by omega, (k1 j hj).trans he⟩
    · rintro ⟨j, hj, he⟩
      rcases cut j hj with hj' | hj'
      · exact .inr ⟨j, hj', (k1 j hj') ▸ he⟩
      · subst hj'; exact .inl (k2.symm.trans he).symm
  · intro j hj
    dsimp only at hj ⊢
    rw [hl] at hj
    rw [mat_put, hk]
    rcases cut j hj with hj' | hj'
    · rw [k1 j hj', if_neg (hn j hj')]; exact h.at_ j hj'
    · subst hj'; rw [k2, if_pos rfl]
  · intro j hj a
    dsimp only at hj ⊢
    rw [hl] at hj
    rcases cut j hj with hj' | hj'
    · rw [k1 j hj', w1 j hj']; exact h.facts j hj' a
    · subst hj'
      rw [k2, w2]
      constructor
      · intro hh
        obtain ⟨i, hi, he⟩ := h.fout s a hh
        exact absurd he (hn i hi)
      · rintro ⟨m, hm, _⟩; simp at hm
  · intro x a hh
    obtain ⟨i, hi, he⟩ := h.fout x a hh
    exact ⟨i, by simp; omega, (k1 i hi).trans he⟩
  · intro j hj
    dsimp only at hj ⊢
    rw [hl] at hj
    rcases cut j hj with hj' | hj'
    · rw [w1 j hj']; exact h.wn j hj'
    · subst hj'; rw [w2]; simp
  · intro j hj
    dsimp only at hj ⊢
    rw [hl] at hj
    rcases cut j hj with hj' | hj'
    · rw [k1 j hj', i1 j hj']; exact h.incs j hj'
    · subst hj'; rw [k2, i2, hi0]; rfl
  · intro j hj
    dsimp only at hj ⊢
    rw [hl] at hj
    rcases cut j hj with hj' | hj'
    · rw [k1 j hj']; exact h.i8 j hj'
    · subst hj'; rw [k2, hi0]; simp
  · intro x hx
    dsimp only at hx ⊢
    rw [hl] at hx
    exact h.iout x (fun j hj => by rw [← k1 j hj]; exact hx j (by omega))
  · intro j hj
    dsimp only at hj ⊢
    rw [hl] at hj
    rcases cut j hj with hj' | hj'
    · rw [k1 j hj', l1 j hj']; exact h.last j hj'
    · subst hj'; rw [k2, l2, hi0]; simp
theorem Sim.write {g : IndexLedger} {b : Assizeref05Book} {n k : Nat} (h : Sim g b n) {s : ByteArray} {a : Int} (hk : k < b.keys.length) (hs : idx b.keys (k : Int) = s) :
    Sim ⟨g.keys, g.at_, g.types, mput g.facts ⟨s, a⟩ (), g.incs⟩ ⟨b.keys, b.types, b.wrote.set k (idx b.wrote (k : Int) ++ [a]), b.incs, b.last_⟩ (n + 1) := by
  have w1 : ∀ j : Nat, idx (b.wrote.set k (idx b.wrote (k : Int) ++ [a])) (j : Int) = if j = k then idx b.wrote (k : Int) ++ [a] else idx b.wrote (j : Int) := fun j => idx_setN (by rw [h.wl]; exact hk)
  refine ⟨h.keys, h.types, h.len, h.tl, by simp [h.wl], h.il, h.ll, h.nd, h.has, h.at_, ?_, ?_, ?_, h.incs, h.i8, h.iout, h.last⟩
  · intro j hj x
    dsimp only at hj ⊢
    rw [mhas_put, w1 j, h.facts j hj]
    by_cases e : j = k
    · subst e
      rw [if_pos rfl, hs]
      constructor
      · rintro (he | ⟨m, hm, he⟩)
        · have : x = a := by injection he
          subst this
          exact ⟨_, by simp, idx_end rfl⟩
        · exact ⟨m, by simp; omega, (idx_app hm).trans he⟩
      · rintro ⟨m, hm, he⟩
        rcases Nat.lt_or_ge m (idx b.wrote (j : Int)).length with h1 | h1
        · exact .inr ⟨m, h1, (idx_app h1).symm.trans he⟩
        · simp at hm
          rw [idx_end (by omega)] at he
          rw [he]; exact .inl rfl
    · rw [if_neg e]
      constructor
      · rintro (he | hh)
        · injection he with h1 h2
          exact absurd (h.nd j k hj hk (h1.trans hs.symm)) e
        · exact hh
      · exact .inr
  · intro x y hh
    dsimp only at hh ⊢
    rcases mhas_put.1 hh with he | hh
    · injection he with h1 h2
      exact ⟨k, hk, hs.trans h1.symm⟩
    · exact h.fout x y hh
  · intro j hj
    dsimp only at hj ⊢
    rw [w1 j]
    have := h.wn j hj
    split
    · rename_i e; subst e; simp; omega
    · omega
theorem Sim.inc {g : IndexLedger} {b : Assizeref05Book} {n k : Nat} (h : Sim g b n) {s : ByteArray} {a : Int} (hk : k < b.keys.length) (hs : idx b.keys (k : Int) = s) (h8 : (mat g.incs s).length < 8) :
    Sim ⟨g.keys, g.at_, g.types, g.facts, mput g.incs s (mat g.incs s ++ [a])⟩ ⟨b.keys, b.types, b.wrote, b.incs.set k (idx b.incs (k : Int) + 1), b.last_.set k a⟩ n := by
  have i1 : ∀ j : Nat, idx (b.incs.set k (idx b.incs (k : Int) + 1)) (j : Int) = if j = k then idx b.incs (k : Int) + 1 else idx b.incs (j : Int) := fun j => idx_setN (by rw [h.il]; exact hk)
  have l1 : ∀ j : Nat, idx (b.last_.set k a) (j : Int) = if j = k then a else idx b.last_ (j : Int) := fun j => idx_setN (by rw [h.ll]; exact hk)
  have hne : ∀ j : Nat, j < b.keys.length → j ≠ k → idx b.keys (j : Int) ≠ s := fun j hj e he => e (h.nd j k hj hk (he.trans hs.symm))
  refine ⟨h.keys, h.types, h.len, h.tl, h.wl, by simp [h.il], by simp [h.ll], h.nd, h.has, h.at_, h.facts, h.fout, h.wn, ?_, ?_, ?_, ?_⟩
  · intro j hj
    dsimp only at hj ⊢
    rw [mat_put, i1 j]
    by_cases e : j = k
    · subst e
      rw [if_pos hs, if_pos rfl, ← h.incs j hj, hs]; simp
    · rw [if_neg (hne j hj e), if_neg e]; exact h.incs j hj
  · intro j hj
    dsimp only at hj ⊢
    rw [mat_put]
    by_cases e : j = k
    · subst e
      rw [if_pos hs]; simp; omega
    · rw [if_neg (hne j hj e)]; exact h.i8 j hj
  · intro x hx
    dsimp only at hx ⊢
    rw [mat_put, if_neg (fun e => hx k hk (hs.trans e.symm))]
    exact h.iout x hx
  · intro j hj
    dsimp only at hj ⊢
    rw [mat_put, l1 j]
    by_cases e : j = k
    · subst e
      rw [if_pos hs, if_pos rfl]
      refine ⟨fun h0 => by simp at h0, fun _ => ?_⟩
      rw [idx_end (by simp)]
    · rw [if_neg (hne j hj e), if_neg e]; exact h.last j hj
theorem twice_told {c : Call} {who : Int} {l81 : List ByteArray} {l84 : List Int} {l87 : List (List Int)} {l90 l93 : List Int} {k : Nat} {Q : Int × Assizeref05Book → Prop} (hk : k < l87.length) (hb : (idx l87 (k : Int)).length ≤ 4096)
    (h1 : (∃ m : Nat, m < (idx l87 (k : Int)).length ∧ idx (idx l87 (k : Int)) (m : Int) = c.Arg) → Q (3, ⟨l81, l84, l87, l90, l93⟩))
    (h2 : (¬ ∃ m : Nat, m < (idx l87 (k : Int)).length ∧ idx (idx l87 (k : Int)) (m : Int) = c.Arg) → Tri (assizeref05zbook_enter.j2 c who l81 l84 l90 l93 (k : Int) (l87.set k (idx l87 (k : Int) ++ [c.Arg]))) Q) :
    Tri (iter (assizeref05zbook_enter.s6 c who l81 l84 l87 l90 l93 (k : Int)) 0) Q := by
  refine tri_all (idx l87 (k : Int)).length (fun m => idx (idx l87 (k : Int)) (m : Int) ≠ c.Arg) ?_
  intro m hm hJ
  unfold assizeref05zbook_enter.s6
  dsimp only
  rw [Int.toNat_natCast]
  repeat' (first | contradiction | with_reducible refine tri_if (fun hq => ?_) (fun hq => ?_) | with_reducible refine tri_must (by first | omega | grind [w64zin]) ?_ | with_reducible refine tri_out ?_ | with_reducible refine tri_sb ?_ | with_reducible refine tri_cb ?_ | with_reducible refine tri_mb ?_ | with_reducible refine tri_bb ?_ | with_reducible refine tri_some ?_)
  · exact h1 ⟨m, by omega, by assumption⟩
  · grind [Nxt, w64zin]
  · exact h2 (by grind)
def Both (r : Int × IndexLedger) (n : Nat) (r' : Int × Assizeref05Book) : Prop := r.1 = r'.1 ∧ (r.1 = 0 → Sim r.2 r'.2 n)
def BookAt (b : Assizeref05Book) (c : Call) (who : Int) (k : Nat) (r : Int × Assizeref05Book) : Prop :=
  (idx b.types (k : Int) ≠ typ c.Kind ∧ r = (50, b)) ∨
  (idx b.types (k : Int) = typ c.Kind ∧ (c.Kind = 2 ∨ c.Kind = 3) ∧ (∃ m : Nat, m < (idx b.wrote (k : Int)).length ∧ idx (idx b.wrote (k : Int)) (m : Int) = c.Arg) ∧ r = (3, b)) ∨
  (idx b.types (k : Int) = typ c.Kind ∧ (c.Kind = 2 ∨ c.Kind = 3) ∧ (¬ ∃ m : Nat, m < (idx b.wrote (k : Int)).length ∧ idx (idx b.wrote (k : Int)) (m : Int) = c.Arg) ∧
    r = (0, ⟨b.keys, b.types, b.wrote.set k (idx b.wrote (k : Int) ++ [c.Arg]), b.incs, b.last_⟩)) ∨
  (idx b.types (k : Int) = typ c.Kind ∧ c.Kind = 4 ∧ idx b.last_ (k : Int) ≠ who ∧ idx b.incs (k : Int) + 1 > 8 ∧ r.1 = 51) ∨
  (idx b.types (k : Int) = typ c.Kind ∧ c.Kind = 4 ∧ idx b.last_ (k : Int) ≠ who ∧ idx b.incs (k : Int) + 1 ≤ 8 ∧
    r = (0, ⟨b.keys, b.types, b.wrote, b.incs.set k (idx b.incs (k : Int) + 1), b.last_.set k who⟩)) ∨
  (idx b.types (k : Int) = typ c.Kind ∧ c.Kind = 4 ∧ idx b.last_ (k : Int) = who ∧ r = (0, b)) ∨
  (idx b.types (k : Int) = typ c.Kind ∧ c.Kind ≠ 2 ∧ c.Kind ≠ 3 ∧ c.Kind ≠ 4 ∧ r = (0, b))
theorem book_at {b : Assizeref05Book} {k : Nat} {c : Call} {who : Int} (hk : k < b.keys.length) (t1 : b.types.length = b.keys.length) (t2 : b.wrote.length = b.keys.length) (t3 : b.incs.length = b.keys.length)
    (t4 : b.last_.length = b.keys.length) (hwr : (idx b.wrote (k : Int)).length ≤ 4096) (hin : 0 ≤ idx b.incs (k : Int) ∧ idx b.incs (k : Int) ≤ 8)
    (h1 : 1 ≤ c.Kind) (h8 : c.Kind ≤ 8) : Tri (assizeref05zbook_enter.j1 c who b.keys b.types b.wrote b.incs b.last_ (k : Int)) (BookAt b c who k) := by
  have e1 : w64 (idx b.incs (k : Int) + 1) = idx b.incs (k : Int) + 1 := w64zin (by omega) (by omega)
  have e2 : idx (b.incs.set k (idx b.incs (k : Int) + 1)) (k : Int) = idx b.incs (k : Int) + 1 := by rw [idx_setN (by omega), if_pos rfl]
  unfold assizeref05zbook_enter.j1 assizeref05zbook_enter.j5 assizeref05zbook_enter.j2 assizeref05zbook_enter.j4 assizeref05zbook_enter.j3
  simp only [cond_true, cond_false, Of_told h1 h8, Int.toNat_natCast, e1, e2]
  repeat' (first | contradiction | with_reducible refine tri_if (fun hq => ?_) (fun hq => ?_) | with_reducible refine tri_must (by first | omega | grind [w64zin]) ?_ | with_reducible refine tri_out ?_ | with_reducible refine tri_sb ?_ | with_reducible refine tri_cb ?_ | with_reducible refine tri_mb ?_ | with_reducible refine tri_bb ?_ | with_reducible refine tri_some ?_ | refine twice_told (by omega) hwr (fun h => ?_) (fun h => ?_))
  all_goals try unfold assizeref05zbook_enter.j2 assizeref05zbook_enter.j4 assizeref05zbook_enter.j3
  all_goals try simp only [cond_true, cond_false, Int.toNat_natCast, e1, e2]
  repeat' (first | contradiction | with_reducible refine tri_if (fun hq => ?_) (fun hq => ?_) | with_reducible refine tri_must (by first | omega | grind [w64zin]) ?_ | with_reducible refine tri_out ?_ | with_reducible refine tri_sb ?_ | with_reducible refine tri_cb ?_ | with_reducible refine tri_mb ?_ | with_reducible refine tri_bb ?_ | with_reducible refine tri_some ?_)
  all_goals grind [BookAt]
theorem enter_at {g : IndexLedger} {b : Assizeref05Book} {n k : Nat} {a0 : IndexLedger} {c : Call} {who : Int} (h : Sim g b n) (hf : a0.facts = g.facts) (hi : a0.incs = g.incs) (hk : k < b.keys.length) (hs : idx b.keys (k : Int) = c.Key)
    (h1 : 1 ≤ c.Kind) (h8 : c.Kind ≤ 8) (hw : 0 ≤ who) (hn : n ≤ 2048) :
    Tri (index_ledger_enter.j1 a0 c who g.keys g.at_ g.types (k : Int)) (fun r => Tri (assizeref05zbook_enter.j1 c who b.keys b.types b.wrote b.incs b.last_ (k : Int)) (Both r (n + 1))) := by
  obtain ⟨gk, ga, gt, gf, gi⟩ := g
  dsimp only at hf hi
  have htl := h.types
  have hkk := h.keys
  dsimp only at htl hkk ⊢
  subst htl hkk
  have t1 := h.tl
  have t2 := h.wl
  have t3 := h.il
  have t4 := h.ll
  have hfa := h.facts k hk c.Arg
  have hin := h.incs k hk
  have hi8 := h.i8 k hk
  have hla := h.last k hk
  have hwr := h.wn k hk
  rw [hs] at hfa hin hi8 hla
  dsimp only at hfa hin hi8 hla
  obtain ⟨r', hr', spec⟩ := book_at (who := who) hk t1 t2 t3 t4 (by omega) (by omega) h1 h8
  have s0 := h.mono (Nat.le_succ n)
  have s1 := h.write (a := c.Arg) hk hs
  have s2 : (mat gi c.Key).length < 8 → _ := fun hl => (h.inc (a := who) hk hs hl).mono (Nat.le_succ n)
  dsimp only at s1 s2
  have e3 : 0 < (mat gi c.Key).length → w64 (((mat gi c.Key).length : Int) - 1) = (((mat gi c.Key).length - 1 : Nat) : Int) := fun h => w64zpred (by omega) (by omega)
  have m1 : mat (mput gi c.Key (mat gi c.Key ++ [who])) c.Key = mat gi c.Key ++ [who] := by rw [mat_put, if_pos rfl]
  unfold index_ledger_enter.j1 index_ledger_enter.j3 index_ledger_enter.j4 index_ledger_enter.j6 index_ledger_enter.j5 index_ledger_enter.j2
  simp only [cond_true, cond_false, typeOf_told h1 h8, hf, hi, m1]
  repeat' (first | contradiction | with_reducible refine tri_if (fun hq => ?_) (fun hq => ?_) | with_reducible refine tri_must (by first | omega | grind [w64zin]) ?_ | with_reducible refine tri_out ?_ | with_reducible refine tri_sb ?_ | with_reducible refine tri_cb ?_ | with_reducible refine tri_mb ?_ | with_reducible refine tri_bb ?_ | with_reducible refine tri_some ?_)
  all_goals refine ⟨r', hr', ?_⟩
  all_goals unfold BookAt at spec
  all_goals simp only [Both]
  all_goals grind
theorem enter_told {g : IndexLedger} {b : Assizeref05Book} {n : Nat} {c : Call} {who : Int} (h : Sim g b n) (h1 : 1 ≤ c.Kind) (h8 : c.Kind ≤ 8) (hw : 0 ≤ who) (hn : n ≤ 2048) :
    Tri (index_ledger_enter g c who) (fun r => Tri (assizeref05zbook_enter b c who) (Both r (n + 1))) := by
  have hl := h.len
  have t1 := h.tl
  have t2 := h.wl
  have t3 := h.il
  have t4 := h.ll
  have hk := h.keys
  have ht := h.types
  obtain ⟨r0, hr0, hf⟩ := find_told (l := b.keys) (s := c.Key) (by omega)
  rcases hf with ⟨rfl, hno⟩ | ⟨k, rfl, hk1, hk2, _⟩
  · have hm : ¬ mhas g.at_ c.Key = true := fun hh => by
      obtain ⟨j, hj, he⟩ := (h.has c.Key).1 hh
      exact hno j hj he
    unfold index_ledger_enter assizeref05zbook_enter index_ledger_enter.j7
    simp only [hr0, typeOf_told h1 h8, hk, ht]
    refine tri_if (fun _ => ?_) (fun hh => absurd hm hh)
    refine tri_if (fun h32 => ?_) (fun h32 => ?_)
    · refine tri_some (tri_sb ?_)
      repeat' (first | contradiction | with_reducible refine tri_if (fun hq => ?_) (fun hq => ?_) | with_reducible refine tri_must (by first | omega | grind [w64zin]) ?_ | with_reducible refine tri_out ?_ | with_reducible refine tri_sb ?_ | with_reducible refine tri_cb ?_ | with_reducible refine tri_mb ?_ | with_reducible refine tri_bb ?_ | with_reducible refine tri_some ?_)
      · exact ⟨rfl, fun h => by cases h⟩
      · omega
    · have hS := h.new (s := c.Key) (t := typ c.Kind) hno (by omega)
      rw [hk, ht] at hS
      have he := enter_at (a0 := g) (who := who) hS rfl rfl (k := b.keys.length) (by simp) (idx_end rfl) h1 h8 hw hn
      dsimp only at he
      refine tri_must (by omega) (tri_sb (tri_must (by omega) ?_))
      refine tri_mono he (fun r hr => ?_)
      unfold assizeref05zbook_enter.j7 assizeref05zbook_enter.j8
      simp only [Of_told h1 h8]
      repeat' (first | contradiction | with_reducible refine tri_if (fun hq => ?_) (fun hq => ?_) | with_reducible refine tri_must (by first | omega | grind [w64zin]) ?_ | with_reducible refine tri_out ?_ | with_reducible refine tri_sb ?_ | with_reducible refine tri_cb ?_ | with_reducible refine tri_mb ?_ | with_reducible refine tri_bb ?_ | with_reducible refine tri_some ?_ | exact hr)
      omega
  · have hm : mhas g.at_ c.Key = true := (h.has c.Key).2 ⟨k, hk1, hk2⟩
    have hat : mat g.at_ c.Key = (k : Int) := by rw [← hk2]; exact h.at_ k hk1
    have he := enter_at (a0 := g) (who := who) h rfl rfl hk1 hk2 h1 h8 hw hn
    unfold index_ledger_enter assizeref05zbook_enter
    simp only [hr0, hat]
    refine tri_if (fun hh => absurd hm hh) (fun _ => ?_)
    refine tri_mono he (fun r hr => tri_sb ?_)
    repeat' (first | contradiction | with_reducible refine tri_if (fun hq => ?_) (fun hq => ?_) | with_reducible refine tri_must (by first | omega | grind [w64zin]) ?_ | with_reducible refine tri_out ?_ | with_reducible refine tri_sb ?_ | with_reducible refine tri_cb ?_ | with_reducible refine tri_mb ?_ | with_reducible refine tri_bb ?_ | with_reducible refine tri_some ?_ | exact hr)
abbrev GS := List ByteArray × (List (ByteArray × Int)) × List Int × (List (IndexFact × Unit)) × (List (ByteArray × (List Int))) × Int
abbrev BS := List ByteArray × List Int × (List (List Int)) × List Int × List Int × Int
def gsOf (g : IndexLedger) (x : Int) : GS := (g.keys, g.at_, g.types, g.facts, g.incs, x)
def bsOf (b : Assizeref05Book) (x : Int) : BS := (b.keys, b.types, b.wrote, b.incs, b.last_, x)
def Go1 (i n : Nat) : GS ⊕ (Int ⊕ Int) → (List Call × Int) ⊕ (BS ⊕ Int) → Prop
  | .inl s, .inr (.inl t) => ∃ g b, s = gsOf g ((i + 1 : Nat) : Int) ∧ t = bsOf b ((i + 1 : Nat) : Int) ∧ Sim g b n
  | .inr (.inr a), .inr (.inr b) => a = 1 ∧ b = 1
  | _, _ => False
theorem enters {g : IndexLedger} {b : Assizeref05Book} {n i : Nat} {l : List Call} {y : Event × Bool} (h : Sim g b n) (hy : y.1.Calls = l) (hl : l.length ≤ 16) (hi : i < 64) (hn : n ≤ 1024) (hc : AllI l (fun c => 1 ≤ c.Kind ∧ c.Kind ≤ 8)) :
    Tri (iter (index_Check.s6 (i : Int) y) (gsOf g 0)) (fun x => Tri (iter (assizeref05zCheck.s7 (i : Int) l) (bsOf b 0)) (Go1 i (n + 16) x)) := by
  refine tri_iter2 l.length (fun k s t => ∃ g b, s = gsOf g (k : Int) ∧ t = bsOf b (k : Int) ∧ Sim g b (n + k)) (Nat.zero_le _) ⟨g, b, rfl, rfl, h⟩ ?_
  rintro k s t hk ⟨g, b, rfl, rfl, hS⟩
  unfold index_Check.s6 assizeref05zCheck.s7 gsOf bsOf
  dsimp only
  rw [hy]
  refine tri_if (fun h => ?_) (fun h => ?_)
  · refine tri_must (by omega) ?_
    obtain ⟨r, hr, r', hr', hb⟩ := enter_told (who := (i : Int)) hS (hc k (by omega)).1 (hc k (by omega)).2 (by omega) (by omega)
    refine tri_bnd hr ?_
    have hw : w64 ((k : Int) + 1) = ((k + 1 : Nat) : Int) := w64zsucc (by omega)
    rw [hw]
    repeat' (first | contradiction | with_reducible refine tri_if (fun hq => ?_) (fun hq => ?_) | with_reducible refine tri_must (by first | omega | grind [w64zin]) ?_ | with_reducible refine tri_out ?_ | with_reducible refine tri_sb ?_ | with_reducible refine tri_cb ?_ | with_reducible refine tri_mb ?_ | with_reducible refine tri_bb ?_ | with_reducible refine tri_some ?_ | refine tri_bnd hr' ?_)
    · exact ⟨rfl, rfl⟩
    · exact absurd (by rw [hb.1]; omega) ‹r.1 ≠ 0›
    · exact absurd (by rw [← hb.1]; omega) ‹r'.1 ≠ 0›
    · exact ⟨by omega, r.2, r'.2, rfl, rfl, hb.2 (by omega)⟩
  · have hw : w64 ((i : Int) + 1) = ((i + 1 : Nat) : Int) := w64zsucc (by omega)
    rw [hw]
    repeat' (first | contradiction | with_reducible refine tri_if (fun hq => ?_) (fun hq => ?_) | with_reducible refine tri_must (by first | omega | grind [w64zin]) ?_ | with_reducible refine tri_out ?_ | with_reducible refine tri_sb ?_ | with_reducible refine tri_cb ?_ | with_reducible refine tri_mb ?_ | with_reducible refine tri_bb ?_ | with_reducible refine tri_some ?_)
    exact ⟨g, b, rfl, rfl, hS.mono (by omega)⟩
theorem ref_txn {h : History} {i : Nat} {b : Assizeref05Book} {Q : BS ⊕ Int → Prop} (hi : i < h.Txns.length) (hs : TSmall (idx h.Txns (i : Int))) (h16 : (idx h.Txns (i : Int)).Ops.length ≤ 16)
    (h1 : ¬ (KeysOk h (idx h.Txns (i : Int)) ∧ EvOk (evOf h (idx h.Txns (i : Int)))) → Q (.inr 1))
    (h2 : KeysOk h (idx h.Txns (i : Int)) → EvOk (evOf h (idx h.Txns (i : Int))) → Tri (iter (assizeref05zCheck.s7 (i : Int) (callsOf h (idx h.Txns (i : Int)))) (bsOf b 0)) (fun x => match x with | .inl _ => False | .inr y => Q y)) :
    Tri (iter (assizeref05zCheck.s4 h b.keys b.types b.wrote b.incs b.last_ (i : Int)) ([], 0)) Q := by
  generalize ht : idx h.Txns (i : Int) = t at hs h16 h1 h2
  refine tri_up2 t.Ops.length (fun k l => l = (callsOf h t).take k ∧ ∀ j : Nat, j < k → 0 ≤ (idx t.Ops (j : Int)).Key ∧ (idx t.Ops (j : Int)).Key < (h.Keys.length : Int)) ⟨rfl, by omega⟩ ?_
  rintro k l hk ⟨rfl, hJ⟩
  have hlen : ((callsOf h t).take k).length = k := by simp [callsOf]; omega
  unfold assizeref05zCheck.s4 assizeref05zCheck.j6 assizeref05zCheck.j5
  simp only [cond_true, cond_false, hlen, ht]
  have hsm := ref_Check_told3 (e := ⟨0, t.Status, (callsOf h t).take k⟩) (hs.small k)
  have hfull : k = t.Ops.length → (callsOf h t).take k = callsOf h t := fun e => List.take_of_length_le (by simp [callsOf]; omega)
  have hnext : k < t.Ops.length → (callsOf h t).take (k + 1) = (callsOf h t).take k ++ [callOf h (idx t.Ops (k : Int))] := fun hk => by
    rw [take_succ (by simpa [callsOf] using hk), callsOf, idx_map hk]
  have hw : w64 ((k : Int) + 1) = ((k + 1 : Nat) : Int) := w64zsucc (by omega)
  rw [hw]
  repeat' (first | contradiction | with_reducible refine tri_if (fun hq => ?_) (fun hq => ?_) | with_reducible refine tri_must (by first | omega | grind [w64zin]) ?_ | with_reducible refine tri_out ?_ | with_reducible refine tri_sb ?_ | with_reducible refine tri_cb ?_ | with_reducible refine tri_mb ?_ | with_reducible refine tri_bb ?_ | with_reducible refine tri_some ?_ | refine tri_bind hsm (fun r hr => ?_))
  · grind [Up2, KeysOk, AllI]
  · grind [Up2, KeysOk, AllI]
  · grind [Up2, callOf]
  · have hk2 : k = t.Ops.length := by omega
    rw [hfull hk2] at hr
    refine h1 (fun hh => ?_)
    have := hr.1.2 hh.2
    contradiction
  · have hk2 : k = t.Ops.length := by omega
    rw [hfull hk2] at hr ⊢
    have hK : KeysOk _ t := fun j hj => hJ j (by omega)
    refine tri_mono (h2 hK (hr.1.1 (by omega))) ?_
    rintro (x | y) hxy
    · exact hxy.elim
    · exact hxy
def TxnOk (h : History) (i : Nat) : Prop := PlacedAt h.Txns i ∧ KeysOk h (idx h.Txns (i : Int)) ∧ EvOk (evOf h (idx h.Txns (i : Int)))
def HSmall (h : History) : Prop := h.Keys.length * 16 ≤ 140737488351232 ∧ h.Txns.length * 56 ≤ 140737488351232 ∧ AllI h.Txns TSmall
theorem txns_told {h : History} (hs : HSmall h) (hN : NamesOk h.Keys) (h32 : h.Txns.length ≤ 32) :
    Tri (iter (index_Check.s4 h) (gsOf ⟨[], [], [], [], []⟩ 0)) (fun x => Tri (iter (assizeref05zCheck.s2 h) (bsOf ⟨[], [], [], [], []⟩ 0)) (fun y => (∃ v, x = .inr v ∧ v = y) ∧ (y = 0 ∨ y = 1))) := by
  obtain ⟨hs1, hs2, hs3⟩ := hs
  refine tri_iter2 h.Txns.length (fun k s t => ∃ g b, s = gsOf g (k : Int) ∧ t = bsOf b (k : Int) ∧ Sim g b (k * 16) ∧ ∀ j : Nat, j < k → TxnOk h j) (Nat.zero_le _) ⟨_, _, rfl, rfl, Sim.start, fun j hj => absurd hj (Nat.not_lt_zero _)⟩ ?_
  rintro k s t hk ⟨g, b, rfl, rfl, hS, hJ⟩
  unfold index_Check.s4 index_Check.j5 assizeref05zCheck.s2 assizeref05zCheck.j3 gsOf bsOf
  simp only [cond_true, cond_false]
  refine tri_if (fun hk1 => ?_) (fun hk1 => ?_)
  · have hk2 : k < h.Txns.length := by omega
    obtain ⟨r, hr, hr1, hr2⟩ := index_calls_told (h := h) (hs3 k hk2)
    obtain ⟨p, hp, hp1⟩ := index_placed_told (l := h.Txns) hk2 (by omega)
    obtain ⟨p', hp', hp1'⟩ := ref_placed_told (l := h.Txns) hk2 (by omega)
    have hco : EvOk (evOf h (idx h.Txns (k : Int))) → (idx h.Txns (k : Int)).Ops.length ≤ 16 := fun he => by
      have := he.2.2.1
      simpa [evOf, callsOf] using this
    refine tri_must (by omega) (tri_bnd hr ?_)
    by_cases hok : TxnOk h k
    · have e1 : r.2 = true := hr1.2 ⟨hok.2.1, hok.2.2⟩
      have e2 : p = true := hp1.2 hok.1
      have e3 : p' = true := hp1'.2 hok.1
      have hc : AllI (callsOf h (idx h.Txns (k : Int))) (fun c => 1 ≤ c.Kind ∧ c.Kind ≤ 8) := fun j hj => ⟨(hok.2.2.2.2.2 j hj).1, (hok.2.2.2.2.2 j hj).2.1⟩
      obtain ⟨x, hx, y, hy, hxy⟩ := enters (y := r) (i := k) hS (congrArg Event.Calls (hr2 e1)) hok.2.2.2.2.1 (by omega) (by omega) hc
      refine tri_if (fun h => absurd e1 h) (fun _ => ?_)
      refine tri_must (by omega) (tri_bnd hp ?_)
      refine tri_if (fun h => absurd e2 h) (fun _ => ?_)
      refine ⟨x, hx, ?_⟩
      repeat' (first | contradiction | with_reducible refine tri_if (fun hq => ?_) (fun hq => ?_) | with_reducible refine tri_must (by first | omega | grind [w64zin]) ?_ | with_reducible refine tri_out ?_ | with_reducible refine tri_sb ?_ | with_reducible refine tri_cb ?_ | with_reducible refine tri_mb ?_ | with_reducible refine tri_bb ?_ | with_reducible refine tri_some ?_ | refine tri_bnd hp' ?_)
      · exact absurd (hco hok.2.2) (by omega)
      · refine ref_txn hk2 (hs3 k hk2) (hco hok.2.2) (fun hn => absurd ⟨hok.2.1, hok.2.2⟩ hn) (fun _ _ => ⟨y, hy, ?_⟩)
        rcases x with s | a | a <;> rcases y with t | t | t
        · exact hxy.elim
        · obtain ⟨g', b', rfl, rfl, hS'⟩ := hxy
          refine ⟨by omega, g', b', rfl, rfl, (show k * 16 + 16 = (k + 1) * 16 by omega) ▸ hS', fun j hj => ?_⟩
          rcases Nat.lt_or_ge j k with h1 | h1
          · exact hJ j h1
          · rw [show j = k by omega]; exact hok
        · exact hxy.elim
        · exact hxy.elim
        · exact hxy.elim
        · exact hxy.elim
        · exact hxy.elim
        · exact hxy.elim
        · obtain ⟨rfl, rfl⟩ := hxy
          exact ⟨⟨1, rfl, rfl⟩, .inr rfl⟩
    · have h1 : Tri (iter (assizeref05zCheck.s4 h b.keys b.types b.wrote b.incs b.last_ (k : Int)) ([], 0)) (fun y => p' = true → (idx h.Txns (k : Int)).Ops.length ≤ 16 → y = .inr 1) ∨ ¬ ((idx h.Txns (k : Int)).Ops.length ≤ 16) ∨ ¬ p' = true := by
        by_cases h16 : (idx h.Txns (k : Int)).Ops.length ≤ 16
        · by_cases h3 : p' = true
          · refine .inl (ref_txn hk2 (hs3 k hk2) h16 (fun _ _ _ => rfl) (fun q1 q2 => absurd ⟨hp1'.1 h3, q1, q2⟩ hok))
          · exact .inr (.inr h3)
        · exact .inr (.inl h16)
      have hend : Tri (assizeref05zplaced h.Txns (k : Int)) (fun y => Tri (bif !y then (out (some 1) : Option (BS ⊕ Int)) else bif decide ((((idx h.Txns (k : Int)).Ops).length : Int) > 16) then out (some 1) else iter (assizeref05zCheck.s4 h b.keys b.types b.wrote b.incs b.last_ (k : Int)) ([], 0)) (fun y => y = .inr 1)) := by
        refine ⟨p', hp', ?_⟩
        repeat' (first | contradiction | with_reducible refine tri_if (fun hq => ?_) (fun hq => ?_) | with_reducible refine tri_must (by first | omega | grind [w64zin]) ?_ | with_reducible refine tri_out ?_ | with_reducible refine tri_sb ?_ | with_reducible refine tri_cb ?_ | with_reducible refine tri_mb ?_ | with_reducible refine tri_bb ?_ | with_reducible refine tri_some ?_)
        · rfl
        · rfl
        · rcases h1 with h1 | h1 | h1
          · exact tri_mono h1 (fun y hy => hy (Decidable.of_not_not ‹¬¬p' = true›) (by omega))
          · omega
          · contradiction
      have hend2 : ∀ {Q : BS ⊕ Int → Prop}, Q (.inr 1) → Tri ((assizeref05zplaced h.Txns (k : Int)).bind fun y => bif !y then (out (some 1) : Option (BS ⊕ Int)) else bif decide ((((idx h.Txns (k : Int)).Ops).length : Int) > 16) then out (some 1) else iter (assizeref05zCheck.s4 h b.keys b.types b.wrote b.incs b.last_ (k : Int)) ([], 0)) Q := by
        intro Q hQ
        refine tri_bind hend (fun y hy => tri_mono hy ?_)
        rintro _ rfl
        exact hQ
      repeat' (first | contradiction | with_reducible refine tri_if (fun hq => ?_) (fun hq => ?_) | with_reducible refine tri_must (by first | omega | grind [w64zin]) ?_ | with_reducible refine tri_out ?_ | with_reducible refine tri_sb ?_ | with_reducible refine tri_cb ?_ | with_reducible refine tri_mb ?_ | with_reducible refine tri_bb ?_ | with_reducible refine tri_some ?_ | refine tri_bnd hp ?_)
      · refine hend2 ?_
        exact ⟨⟨1, rfl, rfl⟩, .inr rfl⟩
      · refine hend2 ?_
        exact ⟨⟨1, rfl, rfl⟩, .inr rfl⟩
      · exact absurd ⟨hp1.1 (by grind), hr1.1 (by grind)⟩ hok
  · repeat' (first | contradiction | with_reducible refine tri_if (fun hq => ?_) (fun hq => ?_) | with_reducible refine tri_must (by first | omega | grind [w64zin]) ?_ | with_reducible refine tri_out ?_ | with_reducible refine tri_sb ?_ | with_reducible refine tri_cb ?_ | with_reducible refine tri_mb ?_ | with_reducible refine tri_bb ?_ | with_reducible refine tri_some ?_)
    exact ⟨⟨0, rfl, rfl⟩, .inl rfl⟩
theorem index_Check_told {h : History} (hs : HSmall h) : Tri (index_Check h) (fun v => Tri (assizeref05zCheck h) (fun v' => v = v' ∧ (v = 0 ∨ v = 1))) := by
  obtain ⟨hs1, hs2, hs3⟩ := hs
  obtain ⟨y, hy, hn⟩ := names_told (l := h.Keys) (by omega)
  have hT := fun hN h32 => txns_told (h := h) ⟨hs1, hs2, hs3⟩ hN h32
  have hfail : ¬ (NamesOk h.Keys ∧ h.Txns.length ≤ 32) → assizeref05zCheck h = some 1 := by
    intro hno
    refine tri_eq.1 ?_
    unfold assizeref05zCheck assizeref05zCheck.j1
    simp only [cond_true, cond_false]
    repeat' (first | contradiction | with_reducible refine tri_if (fun hq => ?_) (fun hq => ?_) | with_reducible refine tri_must (by first | omega | grind [w64zin]) ?_ | with_reducible refine tri_out ?_ | with_reducible refine tri_sb ?_ | with_reducible refine tri_cb ?_ | with_reducible refine tri_mb ?_ | with_reducible refine tri_bb ?_ | with_reducible refine tri_some ?_ | refine tri_bnd hy ?_)
    · rfl
    · rfl
    · exact absurd ⟨hn.1 (Decidable.of_not_not ‹¬¬y = true›), by omega⟩ hno
  have hgood : NamesOk h.Keys → h.Txns.length ≤ 32 → Tri (iter (index_Check.s4 h) (gsOf ⟨[], [], [], [], []⟩ 0)) (fun x => Tri (assizeref05zCheck h) (fun v' => x = .inr v' ∧ (v' = 0 ∨ v' = 1))) := by
    intro hN h32
    refine tri_mono (hT hN h32) (fun x hx => ?_)
    unfold assizeref05zCheck assizeref05zCheck.j1
    simp only [cond_true, cond_false]
    have := hn.2 hN
    repeat' (first | contradiction | with_reducible refine tri_if (fun hq => ?_) (fun hq => ?_) | with_reducible refine tri_must (by first | omega | grind [w64zin]) ?_ | with_reducible refine tri_out ?_ | with_reducible refine tri_sb ?_ | with_reducible refine tri_cb ?_ | with_reducible refine tri_mb ?_ | with_reducible refine tri_bb ?_ | with_reducible refine tri_some ?_ | refine tri_bnd hy ?_)
    · omega
    · refine tri_mono hx (fun v hv => ?_)
      obtain ⟨⟨v2, rfl, rfl⟩, h2⟩ := hv
      exact ⟨rfl, h2⟩
  have hbad : ¬ (NamesOk h.Keys ∧ h.Txns.length ≤ 32) → Tri (assizeref05zCheck h) (fun v' => (1 : Int) = v' ∧ ((1 : Int) = 0 ∨ (1 : Int) = 1)) := fun hno => ⟨1, hfail hno, rfl, .inr rfl⟩
  unfold index_Check index_Check.j1
  simp only [cond_true, cond_false]
  repeat' (first | contradiction | with_reducible refine tri_if (fun hq => ?_) (fun hq => ?_) | with_reducible refine tri_must (by first | omega | grind [w64zin]) ?_ | with_reducible refine tri_out ?_ | with_reducible refine tri_sb ?_ | with_reducible refine tri_cb ?_ | with_reducible refine tri_mb ?_ | with_reducible refine tri_bb ?_ | with_reducible refine tri_some ?_)
  · exact hbad (fun hh => by have := hh.1.1; omega)
  · exact hbad (fun hh => by have := hh.2; omega)
  · refine tri_all h.Keys.length (NameAt h.Keys) ?_
    intro k hk hJ
    unfold index_Check.s2 index_Check.j3
    simp only [cond_true, cond_false]
    have hf : k < h.Keys.length → Tri (slices_Contains_string (subl h.Keys 0 (k : Int)) (idx h.Keys (k : Int))) (fun r => r = true ↔ ∃ j : Nat, j < k ∧ idx h.Keys (j : Int) = idx h.Keys (k : Int)) := by
      intro hk'
      rw [subl_front (by omega)]
      refine tri_mono (contains_told (by simp; omega)) (fun r hr => ?_)
      have ht : (h.Keys.take k).length = k := by simp; omega
      have hx : ∀ j : Nat, j < k → idx (h.Keys.take k) (j : Int) = idx h.Keys (j : Int) := fun j h => idx_take h
      rw [ht] at hr
      grind
    have he := empty_iff (k := idx h.Keys (k : Int))
    have hw : w64 ((k : Int) + 1) = ((k + 1 : Nat) : Int) := w64zsucc (by omega)
    rw [hw]
    have hNk : NameAt h.Keys k ↔ (1 ≤ (idx h.Keys (k : Int)).size ∧ (idx h.Keys (k : Int)).size ≤ 32 ∧ ∀ j : Nat, j < k → idx h.Keys (j : Int) ≠ idx h.Keys (k : Int)) := Iff.rfl
    have hno : k < h.Keys.length → ¬ NameAt h.Keys k → ¬ (NamesOk h.Keys ∧ h.Txns.length ≤ 32) := fun h1 h2 h3 => h2 (h3.1.2 k h1)
    refine tri_if (fun hk1 => ?_) (fun hk1 => ?_)
    · refine tri_must (by omega) ?_
      repeat' (first | contradiction | with_reducible refine tri_if (fun hq => ?_) (fun hq => ?_) | with_reducible refine tri_must (by first | omega | grind [w64zin]) ?_ | with_reducible refine tri_out ?_ | with_reducible refine tri_sb ?_ | with_reducible refine tri_cb ?_ | with_reducible refine tri_mb ?_ | with_reducible refine tri_bb ?_ | with_reducible refine tri_some ?_ | refine tri_bind (hf (by omega)) (fun r hr => ?_))
      · exact hbad (hno (by omega) (by grind))
      · exact hbad (hno (by omega) (by grind))
      · exact hbad (hno (by omega) (by grind))
      · exact ⟨rfl, by omega, by grind⟩
    · have hN : NamesOk h.Keys := ⟨by omega, fun i hi => hJ i (by omega)⟩
      unfold index_newLedger
      refine tri_sb ?_
      obtain ⟨x, hx, v, hv, hq⟩ := hgood hN (by omega)
      obtain ⟨rfl, h2⟩ := hq
      exact ⟨_, hx, v, hv, rfl, h2⟩
end Go.Proofs.YtnlkggppokcmfaaT
