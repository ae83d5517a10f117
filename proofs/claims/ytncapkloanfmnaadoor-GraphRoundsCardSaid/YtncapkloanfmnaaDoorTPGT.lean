/- Parts of a graph by the way down and up again: what holds of the marks at each step, in plain words on numbers. -/
import Derived.Test.YtncapkloanfmnaaDoorTPG
namespace Go.Proofs.YtncapkloanfmnaaDoorT
open Go Go.Proofs Go.Proofs.YtncapkloanfmnaaDoorE
set_option linter.unusedVariables false
set_option linter.unusedSimpArgs false

/-- reached, by no edge or more -/
def Rch (S : Nat → Nat → Prop) (u v : Nat) : Prop := u = v ∨ Way S u v
theorem Rch.refl {S : Nat → Nat → Prop} (u : Nat) : Rch S u u := Or.inl rfl
theorem Rch.step {S : Nat → Nat → Prop} {u v w : Nat} (h : Rch S u v) (e : S v w) : Rch S u w := by
  rcases h with rfl | h
  · exact Or.inr (.single e)
  · exact Or.inr (.tail h e)
theorem Rch.trans {S : Nat → Nat → Prop} {u v w : Nat} (h : Rch S u v) (h' : Rch S v w) : Rch S u w := by
  rcases h with rfl | h
  · exact h'
  · rcases h' with rfl | h'
    · exact Or.inr h
    · exact Or.inr (h.trans h')
/-- of one part -/
def Eqv (S : Nat → Nat → Prop) (u v : Nat) : Prop := Rch S u v ∧ Rch S v u

structure TJ (n : Nat) (S : Nat → Nat → Prop) (nu lo pa : Nat → Int) (O W : List Nat) (LF : Nat → Nat → Prop) (ct pt : Int) : Prop where
  inO : ∀ v, v ∈ O ↔ v < n ∧ nu v ≠ 0 ∧ pa v = 0
  srt : O.Pairwise (fun a b => nu a < nu b)
  wsrt : W.Pairwise (fun a b => nu a < nu b)
  wO : ∀ v ∈ W, v ∈ O
  down : ∀ p ∈ W, ∀ v ∈ O, nu p ≤ nu v → Rch S p v
  base : ∀ v ∈ O, ∃ p ∈ W, nu p ≤ nu v
  nu0 : ∀ v, v < n → 0 ≤ nu v ∧ nu v ≤ ct
  inj : ∀ u v, u < n → v < n → nu u ≠ 0 → nu u = nu v → u = v
  pa0 : ∀ v, v < n → 0 ≤ pa v ∧ pa v ≤ pt
  seen : ∀ v, v < n → pa v ≠ 0 → nu v ≠ 0
  shut : ∀ v w, v < n → pa v ≠ 0 → S v w → pa w ≠ 0
  cls : ∀ u v, u < n → v < n → pa u ≠ 0 → pa v ≠ 0 → (pa u = pa v ↔ Eqv S u v)
  fin : ∀ v ∈ O, ∀ w, S v w → (v ∈ W → ¬ LF v w) → nu w ≠ 0
  lole : ∀ v ∈ O, lo v ≤ nu v
  lowit : ∀ v ∈ O, ∃ w ∈ O, nu w = lo v ∧ Rch S v w
  loe : ∀ v ∈ O, ∀ w ∈ O, S v w → (v ∈ W → ¬ LF v w) → lo v ≤ nu w
  lolt : ∀ v ∈ O, v ∉ W → lo v < nu v
  lotop : ∀ v ∈ O, v ∉ W → ∀ p ∈ W, nu p ≤ nu v → (∀ q ∈ W, nu q ≤ nu v → nu q ≤ nu p) → lo p ≤ lo v
  ct0 : 0 ≤ ct
  pt0 : 0 ≤ pt

def setf (f : Nat → Int) (x : Nat) (y : Int) : Nat → Int := fun v => if v = x then y else f v
theorem setf_self (f : Nat → Int) (x : Nat) (y : Int) : setf f x y x = y := if_pos rfl
theorem setf_other {f : Nat → Int} {x v : Nat} {y : Int} (h : v ≠ x) : setf f x y v = f v := if_neg h

section
variable {n : Nat} {S : Nat → Nat → Prop} {nu lo pa : Nat → Int} {O W : List Nat} {LF : Nat → Nat → Prop} {ct pt : Int}
/-- a node is entered: the first, or by an edge from the last of the way -/
theorem TJ.enter (h : TJ n S nu lo pa O W LF ct pt) (hS : ∀ i j, S i j → i < n ∧ j < n) {x : Nat} (hx : x < n) (h0 : nu x = 0) (hW : (W = [] ∧ O = []) ∨ ∃ W0 p, W = W0 ++ [p] ∧ S p x)
    {LF' : Nat → Nat → Prop} (hLx : ∀ j, LF' x j ↔ S x j) (hLF : ∀ v ∈ W, ∀ j, LF v j → LF' v j ∨ (j = x ∧ S v x)) :
    TJ n S (setf nu x (ct + 1)) (setf lo x (ct + 1)) pa (O ++ [x]) (W ++ [x]) LF' (ct + 1) pt := by
  have hpx : pa x = 0 := Classical.byContradiction fun hp => h.seen x hx hp h0
  have hxO : x ∉ O := fun hm => ((h.inO x).1 hm).2.1 h0
  have hxW : x ∉ W := fun hm => hxO (h.wO x hm)
  have ne : ∀ v ∈ O, v ≠ x := fun v hv e => hxO (e ▸ hv)
  have neW : ∀ v ∈ W, v ≠ x := fun v hv e => hxW (e ▸ hv)
  have on : ∀ v ∈ O, setf nu x (ct + 1) v = nu v := fun v hv => setf_other (ne v hv)
  have ol : ∀ v ∈ O, setf lo x (ct + 1) v = lo v := fun v hv => setf_other (ne v hv)
  have lt : ∀ v ∈ O, nu v < ct + 1 := fun v hv => by
    have := (h.nu0 v ((h.inO v).1 hv).1).2
    omega
  have reach : ∀ p ∈ W, Rch S p x := by
    rcases hW with ⟨e, _⟩ | ⟨W0, p0, e, hs⟩
    · intro p hp; rw [e] at hp; cases hp
    · intro p hp
      have hp0 : p0 ∈ W := by rw [e]; simp
      have hle : nu p ≤ nu p0 := by
        rw [e] at hp
        rcases List.mem_append.1 hp with hp | hp
        · have := (List.pairwise_append.1 (e ▸ h.wsrt)).2.2 p hp p0 (by simp)
          omega
        · rw [List.mem_singleton.1 hp]; exact Int.le_refl _
      exact (h.down p hp p0 (h.wO p0 hp0) hle).step hs
  have mem : ∀ {v : Nat} {l : List Nat}, v ∈ l ++ [x] → v ∈ l ∨ v = x := fun hv => by
    rcases List.mem_append.1 hv with hv | hv
    · exact Or.inl hv
    · exact Or.inr (List.mem_singleton.1 hv)
  have inW : ∀ v ∈ O, v ∉ W ++ [x] → v ∉ W := fun v _ hv hm => hv (List.mem_append_left _ hm)
  have cond : ∀ v ∈ O, ∀ w, w ≠ x → (v ∈ W ++ [x] → ¬ LF' v w) → (v ∈ W → ¬ LF v w) := fun v hv w hw hc hm hl => by
    rcases hLF v hm w hl with h1 | h1
    · exact hc (List.mem_append_left _ hm) h1
    · exact hw h1.1
  refine ⟨fun v => ?_, ?_, ?_, ?_, ?_, ?_, ?_, ?_, h.pa0, ?_, h.shut, h.cls, ?_, ?_, ?_, ?_, ?_, ?_, by have := h.ct0; omega, h.pt0⟩
  · constructor
    · intro hv
      rcases mem hv with hv | rfl
      · rw [on v hv]; exact (h.inO v).1 hv
      · rw [setf_self]; exact ⟨hx, by have := h.ct0; omega, hpx⟩
    · rintro ⟨h1, h2, h3⟩
      by_cases e : v = x
      · subst e; simp
      · rw [setf_other e] at h2
        exact List.mem_append_left _ ((h.inO v).2 ⟨h1, h2, h3⟩)
  · refine List.pairwise_append.2 ⟨h.srt.imp_of_mem fun {a b} ha hb hab => by rw [on a ha, on b hb]; exact hab, List.pairwise_singleton _ _, fun a ha b hb => ?_⟩
    rw [List.mem_singleton.1 hb, on a ha, setf_self]
    exact lt a ha
  · refine List.pairwise_append.2 ⟨h.wsrt.imp_of_mem fun {a b} ha hb hab => by rw [on a (h.wO a ha), on b (h.wO b hb)]; exact hab, List.pairwise_singleton _ _, fun a ha b hb => ?_⟩
    rw [List.mem_singleton.1 hb, on a (h.wO a ha), setf_self]
    exact lt a (h.wO a ha)
  · intro v hv
    rcases mem hv with hv | rfl
    · exact List.mem_append_left _ (h.wO v hv)
    · simp
  · intro p hp v hv hle
    rcases mem hp with hp1 | ep
    · rcases mem hv with hv1 | ev
      · rw [on p (h.wO p hp1), on v hv1] at hle
        exact h.down p hp1 v hv1 hle
      · rw [ev]; exact reach p hp1
    · rcases mem hv with hv1 | ev
      · rw [ep, setf_self, on v hv1] at hle
        have := lt v hv1
        omega
      · rw [ep, ev]; exact Rch.refl _
  · intro v hv
    rcases mem hv with hv | rfl
    · obtain ⟨p, hp, hle⟩ := h.base v hv
      exact ⟨p, List.mem_append_left _ hp, by rw [on p (h.wO p hp), on v hv]; exact hle⟩
    · exact ⟨v, by simp, Int.le_refl _⟩
  · intro v hv
    by_cases e : v = x
    · subst e; rw [setf_self]; have := h.ct0; omega
    · rw [setf_other e]; have := h.nu0 v hv; omega
  · intro u v hu hv hn he
    have hct := h.ct0
    by_cases e1 : u = x <;> by_cases e2 : v = x
    · rw [e1, e2]
    · rw [e1, setf_self, setf_other e2] at he
      have := (h.nu0 v hv).2
      omega
    · rw [e2, setf_self, setf_other e1] at he
      have := (h.nu0 u hu).2
      omega
    · rw [setf_other e1] at hn he
      rw [setf_other e2] at he
      exact h.inj u v hu hv hn he
  · intro v hv hp
    by_cases e : v = x
    · subst e; exact absurd hpx hp
    · rw [setf_other e]; exact h.seen v hv hp
  · intro v hv w hs hc
    by_cases e : w = x
    · subst e; rw [setf_self]; have := h.ct0; omega
    · rw [setf_other e]
      rcases mem hv with hv | rfl
      · exact h.fin v hv w hs (cond v hv w e hc)
      · exact absurd ((hLx w).2 hs) (hc (by simp))
  · intro v hv
    rcases mem hv with hv | rfl
    · rw [on v hv, ol v hv]; exact h.lole v hv
    · rw [setf_self, setf_self]; exact Int.le_refl _
  · intro v hv
    rcases mem hv with hv | rfl
    · obtain ⟨w, hw, h1, h2⟩ := h.lowit v hv
      exact ⟨w, List.mem_append_left _ hw, by rw [on w hw, ol v hv]; exact h1, h2⟩
    · exact ⟨v, by simp, by rw [setf_self, setf_self], Rch.refl _⟩
  · intro v hv w hw hs hc
    rcases mem hv with hv1 | ev
    · rcases mem hw with hw1 | ew
      · rw [ol v hv1, on w hw1]
        exact h.loe v hv1 w hw1 hs (cond v hv1 w (ne w hw1) hc)
      · rw [ol v hv1, ew, setf_self]
        have := h.lole v hv1
        have := lt v hv1
        omega
    · subst ev
      exact absurd ((hLx w).2 hs) (hc (by simp))
  · intro v hv hm
    rcases mem hv with hv | rfl
    · rw [on v hv, ol v hv]; exact h.lolt v hv (inW v hv hm)
    · exact absurd (by simp) hm
  · intro v hv hm p hp hle hmax
    rcases mem hv with hv1 | ev
    · rcases mem hp with hp1 | ep
      · rw [ol p (h.wO p hp1), ol v hv1]
        rw [on p (h.wO p hp1), on v hv1] at hle
        refine h.lotop v hv1 (inW v hv1 hm) p hp1 hle fun q hq hq' => ?_
        have := hmax q (List.mem_append_left _ hq)
        rw [on q (h.wO q hq), on v hv1, on p (h.wO p hp1)] at this
        exact this hq'
      · rw [ep, setf_self, on v hv1] at hle
        have := lt v hv1
        omega
    · exact absurd (by rw [ev]; simp) hm
/-- an edge to a node that stands open, or is shut: less is left, and the low mark is lowered -/
theorem TJ.edge (h : TJ n S nu lo pa O W LF ct pt) {W0 : List Nat} {p x : Nat} (hW : W = W0 ++ [p]) (hs : S p x) (hn : x < n) (h0 : nu x ≠ 0) {l : Int} (hl : (pa x ≠ 0 ∧ l = lo p) ∨ (pa x = 0 ∧ l = if nu x < lo p then nu x else lo p))
    {LF' : Nat → Nat → Prop} (hLF : ∀ v ∈ W, ∀ j, LF v j → LF' v j ∨ (v = p ∧ j = x)) : TJ n S nu (setf lo p l) pa O W LF' ct pt := by
  have hpW : p ∈ W := by rw [hW]; simp
  have hpO := h.wO p hpW
  have hle : l ≤ lo p := by
    rcases hl with ⟨_, rfl⟩ | ⟨_, rfl⟩
    · exact Int.le_refl _
    · split <;> omega
  have hlx : pa x = 0 → l ≤ nu x := by
    intro hp
    rcases hl with ⟨h1, _⟩ | ⟨_, rfl⟩
    · exact absurd hp h1
    · split <;> omega
  have less : ∀ v, setf lo p l v ≤ lo v := fun v => by
    by_cases e : v = p
    · subst e; rw [setf_self]; exact hle
    · rw [setf_other e]; exact Int.le_refl _
  refine { h with fin := ?_, lole := ?_, lowit := ?_, loe := ?_, lolt := ?_, lotop := ?_ }
  · intro v hv w hs' hc
    by_cases e : v = p ∧ w = x
    · obtain ⟨rfl, rfl⟩ := e; exact h0
    · exact h.fin v hv w hs' fun hm hl' => (hLF v hm w hl').elim (hc hm) e
  · intro v hv
    have := less v
    have := h.lole v hv
    omega
  · intro v hv
    by_cases e : v = p
    · subst e
      rw [setf_self]
      rcases hl with ⟨_, rfl⟩ | ⟨hp, rfl⟩
      · exact h.lowit v hv
      · by_cases hlt : nu x < lo v
        · rw [if_pos hlt]
          exact ⟨x, (h.inO x).2 ⟨hn, h0, hp⟩, rfl, Or.inr (.single hs)⟩
        · rw [if_neg hlt]; exact h.lowit v hv
    · rw [setf_other e]; exact h.lowit v hv
  · intro v hv w hw hs' hc
    by_cases e : v = p ∧ w = x
    · obtain ⟨rfl, rfl⟩ := e
      rw [setf_self]
      exact hlx ((h.inO w).1 hw).2.2
    · have := h.loe v hv w hw hs' fun hm hl' => (hLF v hm w hl').elim (hc hm) e
      have := less v
      omega
  · intro v hv hm
    have := less v
    have := h.lolt v hv hm
    omega
  · intro v hv hm q hq hle' hmax
    have := h.lotop v hv hm q hq hle' hmax
    have e : v ≠ p := fun e => hm (e ▸ hpW)
    rw [setf_other e]
    have := less q
    omega
/-- the last of the way is done, and no root: it stays open, its low mark is handed up -/
theorem TJ.up (h : TJ n S nu lo pa O W LF ct pt) {W0 : List Nat} {u p : Nat} (hW : W = W0 ++ [u] ++ [p]) (hL : ∀ j, ¬ LF p j) (hne : lo p ≠ nu p) :
    TJ n S nu (setf lo u (if lo p < lo u then lo p else lo u)) pa O (W0 ++ [u]) LF ct pt := by
  have hpW : p ∈ W := by rw [hW]; simp
  have huW : u ∈ W := by rw [hW]; simp
  have hpO := h.wO p hpW
  have huO := h.wO u huW
  have hlt : lo p < nu p := by have := h.lole p hpO; omega
  have hsrt := hW ▸ h.wsrt
  have below : ∀ q ∈ W0 ++ [u], nu q < nu p := fun q hq => (List.pairwise_append.1 hsrt).2.2 q hq p (by simp)
  have upto : ∀ q ∈ W0 ++ [u], nu q ≤ nu u := fun q hq => by
    rcases List.mem_append.1 hq with hq | hq
    · have := (List.pairwise_append.1 (List.pairwise_append.1 hsrt).1).2.2 q hq u (by simp)
      omega
    · rw [List.mem_singleton.1 hq]; exact Int.le_refl _
  have sub : ∀ q ∈ W0 ++ [u], q ∈ W := fun q hq => by rw [hW]; exact List.mem_append_left _ hq
  have mem : ∀ v ∈ W, v ∈ W0 ++ [u] ∨ v = p := fun v hv => by
    rw [hW] at hv
    rcases List.mem_append.1 hv with hv | hv
    · exact Or.inl hv
    · exact Or.inr (List.mem_singleton.1 hv)
  have hup : u ≠ p := fun e => by have := below u (by simp); rw [e] at this; omega
  generalize hl : (if lo p < lo u then lo p else lo u) = l
  have hle : l ≤ lo u := by subst hl; split <;> omega
  have hlp : l ≤ lo p := by subst hl; split <;> omega
  have less : ∀ v, setf lo u l v ≤ lo v := fun v => by
    by_cases e : v = u
    · subst e; rw [setf_self]; exact hle
    · rw [setf_other e]; exact Int.le_refl _
  have cond : ∀ v w, (v ∈ W0 ++ [u] → ¬ LF v w) → (v ∈ W → ¬ LF v w) := fun v w hc hm => by
    rcases mem v hm with hm | rfl
    · exact hc hm
    · exact hL w
  refine { h with wsrt := (List.pairwise_append.1 hsrt).1, wO := fun v hv => h.wO v (sub v hv), down := fun q hq => h.down q (sub q hq), base := ?_, fin := fun v hv w hs hc => h.fin v hv w hs (cond v w hc), lole := ?_, lowit := ?_, loe := ?_, lolt := ?_, lotop := ?_ }
  · intro v hv
    obtain ⟨q, hq, hle'⟩ := h.base v hv
    rcases mem q hq with hq | rfl
    · exact ⟨q, hq, hle'⟩
    · exact ⟨u, by simp, by have := below u (by simp); omega⟩
  · intro v hv
    have := less v
    have := h.lole v hv
    omega
  · intro v hv
    by_cases e : v = u
    · subst e
      rw [setf_self]
      by_cases hc : lo p < lo v
      · rw [if_pos hc] at hl
        subst hl
        obtain ⟨w, hw, h1, h2⟩ := h.lowit p hpO
        exact ⟨w, hw, h1, (h.down v huW p hpO (by have := below v (by simp); omega)).trans h2⟩
      · rw [if_neg hc] at hl
        subst hl
        exact h.lowit v hv
    · rw [setf_other e]; exact h.lowit v hv
  · intro v hv w hw hs hc
    have := h.loe v hv w hw hs (cond v w hc)
    have := less v
    omega
  · intro v hv hm
    have hvu : v ≠ u := fun e => hm (e ▸ by simp)
    rw [setf_other hvu]
    by_cases e : v = p
    · subst e; exact hlt
    · exact h.lolt v hv fun hm' => (mem v hm').elim hm e
  · intro v hv hm q hq hle' hmax
    have hvu : v ≠ u := fun e => hm (e ▸ by simp)
    rw [setf_other hvu]
    by_cases hpv : nu p ≤ nu v
    · -- above the old end: the last of the way is 'u' now
      have hq' : q = u := by
        have h1 := hmax u (by simp) (by have := below u (by simp); omega)
        have h2 := upto q hq
        exact h.inj q u ((h.inO q).1 (h.wO q (sub q hq))).1 ((h.inO u).1 huO).1 ((h.inO q).1 (h.wO q (sub q hq))).2.1 (by omega)
      subst hq'
      rw [setf_self]
      by_cases e : v = p
      · subst e; exact hlp
      · have := h.lotop v hv (fun hm' => (mem v hm').elim hm e) p hpW hpv (fun r hr _ => by
          rcases mem r hr with hr | rfl
          · have := below r hr; omega
          · exact Int.le_refl _)
        omega
    · have e : v ≠ p := fun e => hpv (e ▸ Int.le_refl _)
      have := h.lotop v hv (fun hm' => (mem v hm').elim hm e) q (sub q hq) hle' (fun r hr hr' => by
        rcases mem r hr with hr | rfl
        · exact hmax r hr hr'
        · exact absurd hr' hpv)
      have := less q
      omega
/-- the last of the way is done, and a root: what is open from it on is one part -/
theorem TJ.root (h : TJ n S nu lo pa O W LF ct pt) (hS : ∀ i j, S i j → i < n ∧ j < n) {W0 : List Nat} {p : Nat} (hW : W = W0 ++ [p]) (hL : ∀ j, ¬ LF p j) (he : lo p = nu p)
    {O' : List Nat} (hO' : ∀ v, v ∈ O' ↔ v ∈ O ∧ nu v < nu p) (hO's : O'.Pairwise (fun a b => nu a < nu b)) {pa' : Nat → Int} (hpa : ∀ v, v < n → pa' v = if v ∈ O ∧ nu p ≤ nu v then pt + 1 else pa v) :
    TJ n S nu lo pa' O' W0 LF ct (pt + 1) := by
  have hpW : p ∈ W := by rw [hW]; simp
  have hpO := h.wO p hpW
  have hpn := ((h.inO p).1 hpO).1
  have hsrt := hW ▸ h.wsrt
  have below : ∀ q ∈ W0, nu q < nu p := fun q hq => (List.pairwise_append.1 hsrt).2.2 q hq p (by simp)
  have sub : ∀ q ∈ W0, q ∈ W := fun q hq => by rw [hW]; exact List.mem_append_left _ hq
  have mem : ∀ v ∈ W, v ∈ W0 ∨ v = p := fun v hv => by
    rw [hW] at hv
    rcases List.mem_append.1 hv with hv | hv
    · exact Or.inl hv
    · exact Or.inr (List.mem_singleton.1 hv)
  have pmax : ∀ r ∈ W, nu r ≤ nu p := fun r hr => by
    rcases mem r hr with hr | rfl
    · have := below r hr; omega
    · exact Int.le_refl _
  have notW : ∀ v ∈ O, nu p ≤ nu v → v ≠ p → v ∉ W := fun v hv hle hne hm => by
    have := pmax v hm
    exact hne (h.inj v p ((h.inO v).1 hv).1 hpn ((h.inO v).1 hv).2.1 (by omega))
  have top : ∀ v ∈ O, nu p ≤ nu v → nu p ≤ lo v := fun v hv hle => by
    by_cases e : v = p
    · subst e; omega
    · have := h.lotop v hv (notW v hv hle e) p hpW hle (fun q hq _ => pmax q hq)
      omega
  -- an edge from there leads to it, or to what is shut
  have out : ∀ v ∈ O, nu p ≤ nu v → ∀ w, S v w → pa w ≠ 0 ∨ (w ∈ O ∧ nu p ≤ nu w) := fun v hv hle w hs => by
    have hc : v ∈ W → ¬ LF v w := fun hm => by
      by_cases e : v = p
      · subst e; exact hL w
      · exact absurd hm (notW v hv hle e)
    have h1 := h.fin v hv w hs hc
    have hwn := (hS v w hs).2
    by_cases hp : pa w = 0
    · have hw := (h.inO w).2 ⟨hwn, h1, hp⟩
      have := h.loe v hv w hw hs hc
      have := top v hv hle
      exact Or.inr ⟨hw, by omega⟩
    · exact Or.inl hp
  -- each of them leads back to the root
  have back : ∀ k : Nat, ∀ v ∈ O, nu p ≤ nu v → nu v ≤ nu p + k → Rch S v p := by
    intro k
    induction k with
    | zero =>
      intro v hv h1 h2
      have : v = p := h.inj v p ((h.inO v).1 hv).1 hpn ((h.inO v).1 hv).2.1 (by omega)
      rw [this]; exact Rch.refl _
    | succ k ih =>
      intro v hv h1 h2
      by_cases e : v = p
      · rw [e]; exact Rch.refl _
      · obtain ⟨w, hw, h3, h4⟩ := h.lowit v hv
        have h5 := h.lolt v hv (notW v hv h1 e)
        have h6 := top v hv h1
        exact h4.trans (ih w hw (by omega) (by omega))
  have eqv : ∀ v ∈ O, nu p ≤ nu v → Eqv S p v := fun v hv hle => ⟨h.down p hpW v hv hle, back (nu v - nu p).toNat v hv hle (by omega)⟩
  have new : ∀ v, v < n → (v ∈ O ∧ nu p ≤ nu v) → pa' v = pt + 1 := fun v hv hc => by rw [hpa v hv, if_pos hc]
  have old : ∀ v, v < n → ¬ (v ∈ O ∧ nu p ≤ nu v) → pa' v = pa v := fun v hv hc => by rw [hpa v hv, if_neg hc]
  have was : ∀ v, v < n → pa' v ≠ 0 → (v ∈ O ∧ nu p ≤ nu v) ∨ (pa v ≠ 0 ∧ ¬ (v ∈ O ∧ nu p ≤ nu v)) := fun v hv hp => by
    by_cases hc : v ∈ O ∧ nu p ≤ nu v
    · exact Or.inl hc
    · rw [old v hv hc] at hp; exact Or.inr ⟨hp, hc⟩
  have hpt := h.pt0
  have stay : ∀ v w, v < n → pa v ≠ 0 → Way S v w → pa w ≠ 0 := fun v w hv hp hw => by
    induction hw with
    | single hs => exact h.shut v _ hv hp hs
    | tail _ hs ih => exact h.shut _ _ (hS _ _ hs).1 ih hs
  refine { h with inO := ?_, srt := hO's, wsrt := (List.pairwise_append.1 hsrt).1, wO := fun v hv => (hO' v).2 ⟨h.wO v (sub v hv), below v hv⟩, down := fun q hq v hv => h.down q (sub q hq) v ((hO' v).1 hv).1, base := ?_, pa0 := ?_, seen := ?_, shut := ?_, cls := ?_, fin := ?_, lole := fun v hv => h.lole v ((hO' v).1 hv).1, lowit := ?_, loe := ?_, lolt := ?_, lotop := ?_, pt0 := by omega }
  · intro v
    constructor
    · intro hv
      obtain ⟨h1, h2⟩ := (hO' v).1 hv
      obtain ⟨g1, g2, g3⟩ := (h.inO v).1 h1
      exact ⟨g1, g2, by rw [old v g1 (fun hc => by have := hc.2; omega)]; exact g3⟩
    · rintro ⟨h1, h2, h3⟩
      by_cases hc : v ∈ O ∧ nu p ≤ nu v
      · rw [new v h1 hc] at h3; omega
      · rw [old v h1 hc] at h3
        have hv := (h.inO v).2 ⟨h1, h2, h3⟩
        exact (hO' v).2 ⟨hv, Int.lt_of_not_ge fun hle => hc ⟨hv, hle⟩⟩
  · intro v hv
    obtain ⟨h1, h2⟩ := (hO' v).1 hv
    obtain ⟨q, hq, hle⟩ := h.base v h1
    rcases mem q hq with hq | rfl
    · exact ⟨q, hq, hle⟩
    · omega
  · intro v hv
    have := h.pa0 v hv
    rw [hpa v hv]
    split <;> omega
  · intro v hv hp
    rcases was v hv hp with hc | hc
    · exact ((h.inO v).1 hc.1).2.1
    · exact h.seen v hv hc.1
  · intro v w hv hp hs
    have hwn := (hS v w hs).2
    rcases was v hv hp with hc | hc
    · rcases out v hc.1 hc.2 w hs with h1 | h1
      · by_cases hc' : w ∈ O ∧ nu p ≤ nu w
        · rw [new w hwn hc']; omega
        · rw [old w hwn hc']; exact h1
      · rw [new w hwn h1]; omega
    · have h1 := h.shut v w hv hc.1 hs
      by_cases hc' : w ∈ O ∧ nu p ≤ nu w
      · exact absurd ((h.inO w).1 hc'.1).2.2 h1
      · rw [old w hwn hc']; exact h1
  · intro u v hu hv hpu hpv
    rcases was u hu hpu with hc | hc <;> rcases was v hv hpv with hd | hd
    · rw [new u hu hc, new v hv hd]
      have e1 := eqv u hc.1 hc.2
      have e2 := eqv v hd.1 hd.2
      exact ⟨fun _ => ⟨e1.2.trans e2.1, e2.2.trans e1.1⟩, fun _ => rfl⟩
    · rw [new u hu hc, old v hv hd.2]
      have := h.pa0 v hv
      refine ⟨fun e => by omega, fun e => ?_⟩
      exfalso
      rcases e.2 with rfl | hw
      · exact hd.1 ((h.inO v).1 hc.1).2.2
      · exact stay v u hv hd.1 hw ((h.inO u).1 hc.1).2.2
    · rw [old u hu hc.2, new v hv hd]
      have := h.pa0 u hu
      refine ⟨fun e => by omega, fun e => ?_⟩
      exfalso
      rcases e.1 with rfl | hw
      · exact hc.1 ((h.inO u).1 hd.1).2.2
      · exact stay u v hu hc.1 hw ((h.inO v).1 hd.1).2.2
    · rw [old u hu hc.2, old v hv hd.2]
      exact h.cls u v hu hv hc.1 hd.1
  · intro v hv w hs hc
    refine h.fin v ((hO' v).1 hv).1 w hs fun hm => ?_
    rcases mem v hm with hm | rfl
    · exact hc hm
    · exact hL w
  · intro v hv
    obtain ⟨h1, h2⟩ := (hO' v).1 hv
    obtain ⟨w, hw, h3, h4⟩ := h.lowit v h1
    have := h.lole v h1
    exact ⟨w, (hO' w).2 ⟨hw, by omega⟩, h3, h4⟩
  · intro v hv w hw hs hc
    refine h.loe v ((hO' v).1 hv).1 w ((hO' w).1 hw).1 hs fun hm => ?_
    rcases mem v hm with hm | rfl
    · exact hc hm
    · exact hL w
  · intro v hv hm
    obtain ⟨h1, h2⟩ := (hO' v).1 hv
    refine h.lolt v h1 fun hm' => ?_
    rcases mem v hm' with hm' | rfl
    · exact hm hm'
    · omega
  · intro v hv hm q hq hle hmax
    obtain ⟨h1, h2⟩ := (hO' v).1 hv
    refine h.lotop v h1 (fun hm' => ?_) q (sub q hq) hle fun r hr hr' => ?_
    · rcases mem v hm' with hm' | rfl
      · exact hm hm'
      · omega
    · rcases mem r hr with hr | rfl
      · exact hmax r hr hr'
      · omega
end
end Go.Proofs.YtncapkloanfmnaaDoorT
