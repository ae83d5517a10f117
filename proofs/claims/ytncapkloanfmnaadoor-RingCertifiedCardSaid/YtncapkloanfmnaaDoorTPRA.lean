/- First shortest ways, by levels. -/
import Derived.Test.YtncapkloanfmnaaDoorI
namespace Go.Proofs.YtncapkloanfmnaaDoorT
open Go Go.Proofs Go.Proofs.YtncapkloanfmnaaDoorE
set_option linter.unusedVariables false
set_option linter.unusedSimpArgs false

/-- one list of nodes stands ahead of another of the same length -/
def lx : List Int → List Int → Prop
  | a :: p, b :: q => a < b ∨ (a = b ∧ lx p q)
  | _, _ => False
theorem lx_irr : ∀ {p : List Int}, ¬ lx p p
  | [], h => h
  | a :: p, h => by
    rcases h with h | ⟨_, h⟩
    · exact absurd h (by omega)
    · exact lx_irr h
theorem lx_trans : ∀ {p q r : List Int}, lx p q → lx q r → lx p r
  | a :: p, b :: q, c :: r, h, h' => by
    rcases h with h | ⟨rfl, h⟩
    · rcases h' with h' | ⟨rfl, h'⟩
      · exact .inl (by omega)
      · exact .inl h
    · rcases h' with h' | ⟨rfl, h'⟩
      · exact .inl h'
      · exact .inr ⟨rfl, lx_trans h h'⟩
  | [], _, _, h, _ => h.elim
  | _ :: _, [], _, h, _ => h.elim
  | _ :: _, _ :: _, [], _, h => h.elim
def lxe (p q : List Int) : Prop := p = q ∨ lx p q
theorem lxe_refl (p : List Int) : lxe p p := .inl rfl
theorem lxe_trans {p q r : List Int} (h : lxe p q) (h' : lxe q r) : lxe p r := by
  rcases h with rfl | h
  · exact h'
  · rcases h' with rfl | h'
    · exact .inr h
    · exact .inr (lx_trans h h')
theorem lxe_anti {p q : List Int} (h : lxe p q) (h' : lxe q p) : p = q := by
  rcases h with h | h
  · exact h
  · rcases h' with h' | h'
    · exact h'.symm
    · exact (lx_irr (lx_trans h h')).elim
theorem lx_snoc : ∀ {p q : List Int} {a b : Int}, p.length = q.length → (lx (p ++ [a]) (q ++ [b]) ↔ lx p q ∨ (p = q ∧ a < b))
  | [], [], a, b, _ => by simp [lx]
  | x :: p, y :: q, a, b, h => by
    have ih := lx_snoc (p := p) (q := q) (a := a) (b := b) (by simpa using h)
    simp only [List.cons_append, lx, ih, List.cons.injEq]
    constructor
    · rintro (h | ⟨h1, h | ⟨h2, h3⟩⟩)
      · exact .inl (.inl h)
      · exact .inl (.inr ⟨h1, h⟩)
      · exact .inr ⟨⟨h1, h2⟩, h3⟩
    · rintro ((h | ⟨h1, h⟩) | ⟨⟨h1, h2⟩, h3⟩)
      · exact .inl h
      · exact .inr ⟨h1, .inl h⟩
      · exact .inr ⟨h1, .inr ⟨h2, h3⟩⟩
  | [], _ :: _, _, _, h => by simp at h
  | _ :: _, [], _, _, h => by simp at h
theorem lxe_snoc {p q : List Int} {a : Int} (hl : p.length = q.length) (h : lxe p q) : lxe (p ++ [a]) (q ++ [a]) := by
  rcases h with rfl | h
  · exact .inl rfl
  · exact .inr ((lx_snoc hl).2 (.inl h))
theorem lxe_cons {p q : List Int} {a : Int} (h : lxe p q) : lxe (a :: p) (a :: q) := by
  rcases h with rfl | h
  · exact .inl rfl
  · exact .inr (.inr ⟨rfl, h⟩)

section
variable {S : Type} (ext : S → Int → Option S)
/-- where a list of nodes leads from a spot -/
def run (x : S) : List Int → Option S
  | [] => some x
  | j :: p => (ext x j).bind fun y => run y p
variable {ext}
theorem run_snoc {x : S} : ∀ {p : List Int} {j : Int}, run ext x (p ++ [j]) = (run ext x p).bind fun y => ext y j
  | [], j => by
    show ((ext x j).bind fun y => some y) = ext x j
    cases ext x j <;> rfl
  | a :: p, j => by
    simp only [List.cons_append, run]
    cases ext x a with
    | none => rfl
    | some y => exact run_snoc
theorem run_app {x : S} : ∀ {p q : List Int}, run ext x (p ++ q) = (run ext x p).bind fun y => run ext y q
  | [], q => rfl
  | a :: p, q => by
    simp only [List.cons_append, run]
    cases ext x a with
    | none => rfl
    | some y => exact run_app
variable (ext)
/-- a level: all spots that m steps reach and fewer don't, each with the first way to it, in the order of the ways -/
structure Lv (x0 : S) (m : Nat) (seen : S → Prop) (lv : List (S × List Int)) : Prop where
  ok : ∀ e ∈ lv, run ext x0 e.2 = some e.1 ∧ e.2.length = m
  sorted : lv.Pairwise (fun a b => lx a.2 b.2)
  seen : ∀ y, seen y ↔ ∃ p, p.length ≤ m ∧ run ext x0 p = some y
  full : ∀ p y, p.length = m → run ext x0 p = some y → (∃ q, q.length < m ∧ run ext x0 q = some y) ∨ ∃ e ∈ lv, e.1 = y ∧ lxe e.2 p
variable {ext}
/-- a step onward that is looked at: from which spot, by which way, to which node and spot -/
structure Cand (S : Type) where
  x : S
  p : List Int
  j : Int
  t : S
def Cand.q (c : Cand S) : List Int := c.p ++ [c.j]
/-- what is new behind some steps -/
structure News (seen : S → Prop) (done : List (Cand S)) (nx : List (S × List Int × S)) : Prop where
  from_ : ∀ z ∈ nx, ¬ seen z.1 ∧ ∃ c ∈ done, z = (c.t, c.q, c.x)
  has : ∀ c ∈ done, seen c.t ∨ ∃ z ∈ nx, z.1 = c.t ∧ lxe z.2.1 c.q
  sorted : nx.Pairwise (fun a b => lx a.2.1 b.2.1)
  nd : nx.Pairwise (fun a b => a.1 ≠ b.1)
theorem News.nil (seen : S → Prop) : News seen ([] : List (Cand S)) [] := ⟨by simp, by simp, by simp, by simp⟩
theorem News.old {seen : S → Prop} {done : List (Cand S)} {nx : List (S × List Int × S)} (h : News seen done nx) {c : Cand S} (hlt : ∀ d ∈ done, lx d.q c.q) (hc : seen c.t ∨ ∃ z ∈ nx, z.1 = c.t) : News seen (done ++ [c]) nx := by
  refine ⟨fun z hz => ?_, fun d hd => ?_, h.sorted, h.nd⟩
  · obtain ⟨h1, d, hd, e⟩ := h.from_ z hz
    exact ⟨h1, d, by simp [hd], e⟩
  · rcases List.mem_append.1 hd with hd | hd
    · exact h.has d hd
    · simp only [List.mem_singleton] at hd
      subst hd
      rcases hc with hc | ⟨z, hz, e⟩
      · exact .inl hc
      · obtain ⟨_, c', hc', rfl⟩ := h.from_ z hz
        exact .inr ⟨_, hz, e, .inr (hlt c' hc')⟩
theorem News.new {seen : S → Prop} {done : List (Cand S)} {nx : List (S × List Int × S)} (h : News seen done nx) {c : Cand S} (hlt : ∀ d ∈ done, lx d.q c.q) (hc : ¬ seen c.t) (hz : ∀ z ∈ nx, z.1 ≠ c.t) : News seen (done ++ [c]) (nx ++ [(c.t, c.q, c.x)]) := by
  have hnd : (nx ++ [(c.t, c.q, c.x)]).Pairwise (fun a b => a.1 ≠ b.1) := by
    rw [List.pairwise_append]
    refine ⟨h.nd, by simp, fun a ha b hb => ?_⟩
    simp only [List.mem_singleton] at hb
    subst hb
    exact hz a ha
  refine ⟨fun z hz => ?_, fun d hd => ?_, ?_, hnd⟩
  · rcases List.mem_append.1 hz with hz | hz
    · obtain ⟨h1, d, hd, e⟩ := h.from_ z hz
      exact ⟨h1, d, by simp [hd], e⟩
    · simp only [List.mem_singleton] at hz
      subst hz
      exact ⟨hc, c, by simp, rfl⟩
  · rcases List.mem_append.1 hd with hd | hd
    · rcases h.has d hd with h1 | ⟨z, hz, e⟩
      · exact .inl h1
      · exact .inr ⟨z, by simp [hz], e⟩
    · simp only [List.mem_singleton] at hd
      subst hd
      exact .inr ⟨(d.t, d.q, d.x), by simp, rfl, lxe_refl _⟩
  · rw [List.pairwise_append]
    refine ⟨h.sorted, by simp, fun a ha b hb => ?_⟩
    simp only [List.mem_singleton] at hb
    subst hb
    obtain ⟨_, d, hd, rfl⟩ := h.from_ a ha
    exact hlt d hd
/-- all steps onward from a level's first spots, and from the next one to nodes below a number -/
structure Did (ext : S → Int → Option S) (lv : List (S × List Int)) (a : Nat) (j : Int) (done : List (Cand S)) : Prop where
  is : ∀ c ∈ done, ∃ b : Nat, lv[b]? = some (c.x, c.p) ∧ ext c.x c.j = some c.t ∧ (b < a ∨ (b = a ∧ c.j < j))
  all : ∀ (b : Nat) x p i t, lv[b]? = some (x, p) → ext x i = some t → (b < a ∨ (b = a ∧ i < j)) → ∃ c ∈ done, c.x = x ∧ c.p = p ∧ c.j = i ∧ c.t = t
theorem Did.start (ext : S → Int → Option S) (lv : List (S × List Int)) {lo : Int} (hlo : ∀ x i t, ext x i = some t → lo ≤ i) : Did ext lv 0 lo [] := by
  refine ⟨by simp, fun b x p i t _ ht h => ?_⟩
  have := hlo x i t ht
  rcases h with h | ⟨_, h⟩ <;> omega
theorem Did.skip {lv : List (S × List Int)} {a : Nat} {j : Int} {done : List (Cand S)} (h : Did ext lv a j done) {x : S} {p : List Int} (hx : lv[a]? = some (x, p)) (hj : ext x j = none) : Did ext lv a (j + 1) done := by
  refine ⟨fun c hc => ?_, fun b y q i t hb ht hi => ?_⟩
  · obtain ⟨b, h1, h2, h3⟩ := h.is c hc
    exact ⟨b, h1, h2, h3.imp id fun h => ⟨h.1, by omega⟩⟩
  · rcases hi with hi | ⟨rfl, hi⟩
    · exact h.all b y q i t hb ht (.inl hi)
    · rcases Int.lt_or_le i j with h1 | h1
      · exact h.all b y q i t hb ht (.inr ⟨rfl, h1⟩)
      · obtain rfl : i = j := by omega
        rw [hx] at hb
        cases hb
        rw [hj] at ht
        cases ht
theorem Did.one {lv : List (S × List Int)} {a : Nat} {j : Int} {done : List (Cand S)} (h : Did ext lv a j done) {x t : S} {p : List Int} (hx : lv[a]? = some (x, p)) (hj : ext x j = some t) : Did ext lv a (j + 1) (done ++ [⟨x, p, j, t⟩]) := by
  refine ⟨fun c hc => ?_, fun b y q i u hb hu hi => ?_⟩
  · rcases List.mem_append.1 hc with hc | hc
    · obtain ⟨b, h1, h2, h3⟩ := h.is c hc
      exact ⟨b, h1, h2, h3.imp id fun h => ⟨h.1, by omega⟩⟩
    · simp only [List.mem_singleton] at hc
      subst hc
      exact ⟨a, hx, hj, .inr ⟨rfl, by dsimp only; omega⟩⟩
  · rcases hi with hi | ⟨rfl, hi⟩
    · obtain ⟨c, hc, e⟩ := h.all b y q i u hb hu (.inl hi)
      exact ⟨c, by simp [hc], e⟩
    · rcases Int.lt_or_le i j with h1 | h1
      · obtain ⟨c, hc, e⟩ := h.all b y q i u hb hu (.inr ⟨rfl, h1⟩)
        exact ⟨c, by simp [hc], e⟩
      · obtain rfl : i = j := by omega
        rw [hx] at hb
        cases hb
        rw [hj] at hu
        exact ⟨⟨x, p, i, t⟩, by simp, rfl, rfl, rfl, Option.some.inj hu⟩
theorem Did.next {lv : List (S × List Int)} {a : Nat} {j lo : Int} {done : List (Cand S)} (h : Did ext lv a j done) (hlo : ∀ x i t, ext x i = some t → lo ≤ i) (hhi : ∀ x i t, ext x i = some t → i < j) : Did ext lv (a + 1) lo done := by
  refine ⟨fun c hc => ?_, fun b y q i u hb hu hi => ?_⟩
  · obtain ⟨b, h1, h2, h3⟩ := h.is c hc
    exact ⟨b, h1, h2, .inl (by omega)⟩
  · have h1 := hlo y i u hu
    have h2 := hhi y i u hu
    exact h.all b y q i u hb hu (by omega)
/-- what was looked at stands ahead of what comes -/
theorem Did.lt {x0 : S} {m : Nat} {seen : S → Prop} {lv : List (S × List Int)} {a : Nat} {j : Int} {done : List (Cand S)} (hL : Lv ext x0 m seen lv) (h : Did ext lv a j done) {x t : S} {p : List Int} (hx : lv[a]? = some (x, p)) :
    ∀ d ∈ done, lx d.q ((⟨x, p, j, t⟩ : Cand S).q) := by
  intro d hd
  obtain ⟨b, h1, h2, h3⟩ := h.is d hd
  have hd1 := (hL.ok _ (List.mem_of_getElem? h1)).2
  have hx1 := (hL.ok _ (List.mem_of_getElem? hx)).2
  dsimp only at hd1 hx1
  show lx (d.p ++ [d.j]) (p ++ [j])
  rw [lx_snoc (hd1.trans hx1.symm)]
  rcases h3 with h3 | ⟨rfl, h3⟩
  · left
    obtain ⟨hb, e1⟩ := List.getElem?_eq_some_iff.1 h1
    obtain ⟨ha, e2⟩ := List.getElem?_eq_some_iff.1 hx
    have := List.pairwise_iff_getElem.1 hL.sorted b a hb ha h3
    rw [e1, e2] at this
    exact this
  · right
    rw [hx] at h1
    cases h1
    exact ⟨rfl, h3⟩
/-- the level behind one -/
theorem Lv.next {x0 : S} {m : Nat} {seen : S → Prop} {lv : List (S × List Int)} {done : List (Cand S)} {nx : List (S × List Int × S)} {lo : Int} (h : Lv ext x0 m seen lv) (hd : Did ext lv lv.length lo done) (hn : News seen done nx) :
    Lv ext x0 (m + 1) (fun y => seen y ∨ ∃ z ∈ nx, z.1 = y) (nx.map fun z => (z.1, z.2.1)) := by
  have cand : ∀ c ∈ done, run ext x0 c.q = some c.t ∧ c.q.length = m + 1 := by
    intro c hc
    obtain ⟨b, h1, h2, _⟩ := hd.is c hc
    obtain ⟨h3, h4⟩ := h.ok _ (List.mem_of_getElem? h1)
    refine ⟨?_, by simp only [Cand.q, List.length_append, List.length_singleton]; dsimp only at h4; omega⟩
    dsimp only at h3
    rw [Cand.q, run_snoc, h3]
    exact h2
  have key : ∀ p y, p.length = m + 1 → run ext x0 p = some y → (∃ q, q.length ≤ m ∧ run ext x0 q = some y) ∨ ∃ z ∈ nx, z.1 = y ∧ lxe z.2.1 p := by
    intro p y hp hy
    obtain ⟨p', j, rfl⟩ : ∃ p' j, p = p' ++ [j] := by
      have : p ≠ [] := by intro e; rw [e] at hp; simp at hp
      exact ⟨_, _, (List.dropLast_concat_getLast this).symm⟩
    have hp' : p'.length = m := by simpa using hp
    rw [run_snoc] at hy
    cases hx : run ext x0 p' with
    | none => rw [hx] at hy; cases hy
    | some x =>
      rw [hx] at hy
      have hy : ext x j = some y := hy
      rcases h.full p' x hp' hx with ⟨q, hq, hqx⟩ | ⟨e, he, rfl, hle⟩
      · left
        exact ⟨q ++ [j], by simp only [List.length_append, List.length_singleton]; omega, by rw [run_snoc, hqx]; exact hy⟩
      · obtain ⟨b, hb, eb⟩ := List.mem_iff_getElem.1 he
        obtain ⟨c, hc, e1, e2, e3, e4⟩ := hd.all b e.1 e.2 j y (by rw [List.getElem?_eq_getElem hb, eb]) hy (.inl hb)
        have hcq : c.q = e.2 ++ [j] := by rw [Cand.q, e2, e3]
        rcases hn.has c hc with h1 | ⟨z, hz, e5, h5⟩
        · left
          rw [e4] at h1
          exact (h.seen y).1 h1
        · right
          refine ⟨z, hz, e5.trans e4, lxe_trans h5 ?_⟩
          rw [hcq]
          exact lxe_snoc ((h.ok e he).2.trans hp'.symm) hle
  refine ⟨?_, ?_, fun y => ⟨?_, ?_⟩, fun p y hp hy => ?_⟩
  · intro e he
    obtain ⟨z, hz, rfl⟩ := List.mem_map.1 he
    obtain ⟨_, c, hc, rfl⟩ := hn.from_ z hz
    exact cand c hc
  · rw [List.pairwise_map]
    exact hn.sorted
  · rintro (h1 | ⟨z, hz, rfl⟩)
    · obtain ⟨p, hp, hr⟩ := (h.seen y).1 h1
      exact ⟨p, by omega, hr⟩
    · obtain ⟨_, c, hc, rfl⟩ := hn.from_ z hz
      exact ⟨c.q, by rw [(cand c hc).2]; exact Nat.le_refl _, (cand c hc).1⟩
  · rintro ⟨p, hp, hr⟩
    rcases Nat.lt_or_ge m p.length with h1 | h1
    · rcases key p y (by omega) hr with ⟨q, hq, hqr⟩ | ⟨z, hz, e, _⟩
      · exact .inl ((h.seen y).2 ⟨q, hq, hqr⟩)
      · exact .inr ⟨z, hz, e⟩
    · exact .inl ((h.seen y).2 ⟨p, h1, hr⟩)
  · rcases key p y hp hy with ⟨q, hq, hqr⟩ | ⟨z, hz, e, h5⟩
    · exact .inl ⟨q, by omega, hqr⟩
    · exact .inr ⟨(z.1, z.2.1), List.mem_map.2 ⟨z, hz, rfl⟩, e, h5⟩
/-- an empty level: nothing new is reached any more -/
theorem Lv.done {x0 : S} {m : Nat} {seen : S → Prop} (h : Lv ext x0 m seen []) : ∀ {p : List Int} {y : S}, run ext x0 p = some y → ∃ q, q.length < m ∧ run ext x0 q = some y := by
  have go : ∀ (k : Nat) (p : List Int) (y : S), p.length = k → run ext x0 p = some y → ∃ q, q.length < m ∧ run ext x0 q = some y := by
    intro k
    induction k with
    | zero =>
      intro p y hp hy
      rcases Nat.eq_zero_or_pos m with h0 | h0
      · rcases h.full p y (by omega) hy with ⟨q, hq, _⟩ | ⟨e, he, _⟩
        · omega
        · simp at he
      · exact ⟨p, by omega, hy⟩
    | succ k ih =>
      intro p y hp hy
      obtain ⟨p', j, rfl⟩ : ∃ p' j, p = p' ++ [j] := by
        have : p ≠ [] := by intro e; rw [e] at hp; simp at hp
        exact ⟨_, _, (List.dropLast_concat_getLast this).symm⟩
      rw [run_snoc] at hy
      cases hx : run ext x0 p' with
      | none => rw [hx] at hy; cases hy
      | some x =>
        rw [hx] at hy
        have hy : ext x j = some y := hy
        obtain ⟨q, hq, hqx⟩ := ih p' x (by simpa using hp) hx
        have hr : run ext x0 (q ++ [j]) = some y := by rw [run_snoc, hqx]; exact hy
        rcases Nat.lt_or_ge (q.length + 1) m with h1 | h1
        · exact ⟨q ++ [j], by simpa using h1, hr⟩
        · rcases h.full (q ++ [j]) y (by simp only [List.length_append, List.length_singleton]; omega) hr with h2 | ⟨e, he, _⟩
          · exact h2
          · simp at he
  intro p y hr
  exact go _ _ _ rfl hr

/-! ### ways that come home -/
def Clo (ext : S → Int → Option S) (closes : S → Prop) (x : S) (p : List Int) : Prop := ∃ y, run ext x p = some y ∧ closes y
structure First (ext : S → Int → Option S) (closes : S → Prop) (x : S) (p : List Int) : Prop where
  clo : Clo ext closes x p
  min : ∀ q, Clo ext closes x q → p.length ≤ q.length ∧ (q.length = p.length → lxe p q)
theorem First.eq {closes : S → Prop} {x : S} {p q : List Int} (h : First ext closes x p) (h' : First ext closes x q) : p = q := by
  obtain ⟨a, b⟩ := h.min q h'.clo
  obtain ⟨c, d⟩ := h'.min p h.clo
  exact lxe_anti (b (by omega)) (d (by omega))
theorem clo_nil {closes : S → Prop} {x : S} : Clo ext closes x [] ↔ closes x := ⟨fun ⟨y, h, hc⟩ => by cases h; exact hc, fun h => ⟨x, rfl, h⟩⟩
theorem clo_cons {closes : S → Prop} {x : S} {j : Int} {p : List Int} : Clo ext closes x (j :: p) ↔ ∃ y, ext x j = some y ∧ Clo ext closes y p := by
  constructor
  · rintro ⟨z, h, hc⟩
    simp only [run] at h
    cases hy : ext x j with
    | none => rw [hy] at h; cases h
    | some y => rw [hy] at h; exact ⟨y, rfl, z, h, hc⟩
  · rintro ⟨y, hy, z, h, hc⟩
    exact ⟨z, by simp only [run, hy]; exact h, hc⟩
/-- the first spot of a level that comes home is at the end of the first way -/
theorem Lv.first {closes : S → Prop} {x0 : S} {m : Nat} {seen : S → Prop} {lv : List (S × List Int)} (h : Lv ext x0 m seen lv) (hno : ∀ p, p.length < m → ¬ Clo ext closes x0 p) {a : Nat} {x : S} {p : List Int} (ha : lv[a]? = some (x, p)) (hc : closes x)
    (hb : ∀ (b : Nat) y q, b < a → lv[b]? = some (y, q) → ¬ closes y) : First ext closes x0 p := by
  obtain ⟨h1, h2⟩ := h.ok _ (List.mem_of_getElem? ha)
  dsimp only at h1 h2
  refine ⟨⟨x, h1, hc⟩, fun q hq => ?_⟩
  have hlq : m ≤ q.length := Nat.le_of_not_lt fun h => hno q h hq
  refine ⟨by omega, fun hl => ?_⟩
  obtain ⟨y, hy, hcy⟩ := hq
  rcases h.full q y (by omega) hy with ⟨q', hq', hr⟩ | ⟨e, he, rfl, hle⟩
  · exact (hno q' hq' ⟨y, hr, hcy⟩).elim
  · obtain ⟨b, hbl, eb⟩ := List.mem_iff_getElem.1 he
    refine lxe_trans ?_ hle
    rcases Nat.lt_trichotomy b a with h3 | rfl | h3
    · exact (hb b e.1 e.2 h3 (by rw [List.getElem?_eq_getElem hbl, eb]) hcy).elim
    · rw [List.getElem?_eq_getElem hbl, eb] at ha
      cases ha
      exact lxe_refl _
    · obtain ⟨hal, ea⟩ := List.getElem?_eq_some_iff.1 ha
      have := List.pairwise_iff_getElem.1 h.sorted a b hal hbl h3
      rw [ea, eb] at this
      exact .inr this
theorem Lv.noclo {closes : S → Prop} {x0 : S} {m : Nat} {seen : S → Prop} {lv : List (S × List Int)} (h : Lv ext x0 m seen lv) (hno : ∀ p, p.length < m → ¬ Clo ext closes x0 p) (hb : ∀ (b : Nat) y q, lv[b]? = some (y, q) → ¬ closes y) :
    ∀ p, p.length < m + 1 → ¬ Clo ext closes x0 p := by
  rintro p hp ⟨y, hy, hc⟩
  rcases Nat.lt_or_ge p.length m with h1 | h1
  · exact hno p h1 ⟨y, hy, hc⟩
  · rcases h.full p y (by omega) hy with ⟨q, hq, hr⟩ | ⟨e, he, rfl, _⟩
    · exact hno q hq ⟨y, hr, hc⟩
    · obtain ⟨b, hbl, eb⟩ := List.mem_iff_getElem.1 he
      exact hb b e.1 e.2 (by rw [List.getElem?_eq_getElem hbl, eb]) hc
theorem Lv.never {closes : S → Prop} {x0 : S} {m : Nat} {seen : S → Prop} (h : Lv ext x0 m seen []) (hno : ∀ p, p.length < m → ¬ Clo ext closes x0 p) (p : List Int) : ¬ Clo ext closes x0 p := by
  rintro ⟨y, hy, hc⟩
  obtain ⟨q, hq, hr⟩ := h.done hy
  exact hno q hq ⟨y, hr, hc⟩
end
end Go.Proofs.YtncapkloanfmnaaDoorT
