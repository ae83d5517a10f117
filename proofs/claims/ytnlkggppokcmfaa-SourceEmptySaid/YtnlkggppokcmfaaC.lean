/- The engine, part C: memory. What a value holds; what the call owns, piece by piece; what stays as it is. -/
import Derived.Test.YtnlkggppokcmfaaB
namespace Go.Proofs.YtnlkggppokcmfaaE
open Go
set_option linter.unusedVariables false
set_option linter.unusedSimpArgs false
abbrev BM := Nat → Option Obj
def hp (w : World) : BM := fun b => w.heap[b]?
def cellOf (H : BM) (b o : Nat) : Option Value := match H b with | some (.cells c _ _) => c[o]? | _ => none
theorem cell_hp (w : World) (b o : Nat) : w.cell? ⟨b, o, none⟩ = cellOf (hp w) b o := by
  unfold World.cell? cellOf hp
  split <;> simp_all
def Sub (H H' : BM) : Prop := ∀ b o, H b = some o → H' b = some o
theorem Sub.refl (H : BM) : Sub H H := fun _ _ h => h
theorem Sub.trans {A B C : BM} (h : Sub A B) (k : Sub B C) : Sub A C := fun b o x => k b o (h b o x)
theorem Sub.cell {H H' : BM} (h : Sub H H') {b o : Nat} {v : Value} (hc : cellOf H b o = some v) : cellOf H' b o = some v := by
  unfold cellOf at hc ⊢
  cases e : H b with
  | none => rw [e] at hc; cases hc
  | some ob => rw [h b ob e]; rw [e] at hc; exact hc
structure Ty (α : Type) where
  sz : Nat
  own : BM → (Nat → Prop) → α → List Value → Prop
  rd : BM → α → List Value → Prop
  own_mono : ∀ {H F F' x cs}, own H F x cs → (∀ b, F b → F' b) → own H F' x cs
  own_congr : ∀ {H H' : BM} {F : Nat → Prop} {x cs}, own H F x cs → (∀ b, F b → H' b = H b) → own H' F x cs
  own_rd : ∀ {H F x cs}, own H F x cs → rd H x cs
  rd_mono : ∀ {H H' x cs}, rd H x cs → Sub H H' → rd H' x cs
  rd_len : ∀ {H x cs}, rd H x cs → cs.length = sz
  rd_one : ∀ {H x cs}, rd H x cs → ∀ v ∈ cs, v.oneCell' = true
def Ty.flat {α : Type} (sz : Nat) (enc : α → List Value) (h1 : ∀ x, (enc x).length = sz) (h2 : ∀ x, ∀ v ∈ enc x, v.oneCell' = true) : Ty α where
  sz := sz
  own := fun _ _ x cs => cs = enc x
  rd := fun _ x cs => cs = enc x
  own_mono := fun h _ => h
  own_congr := fun h _ => h
  own_rd := fun h => h
  rd_mono := fun h _ => h
  rd_len := fun h => h ▸ h1 _
  rd_one := fun h => h ▸ h2 _
class Flat {α : Type} (k : Ty α) (enc : outParam (α → List Value)) : Prop where
  own_iff : ∀ {H F x cs}, k.own H F x cs ↔ cs = enc x
  rd_iff : ∀ {H x cs}, k.rd H x cs ↔ cs = enc x
instance {α : Type} (sz : Nat) (enc : α → List Value) (h1 : ∀ x, (enc x).length = sz) (h2 : ∀ x, ∀ v ∈ enc x, v.oneCell' = true) : Flat (Ty.flat sz enc h1 h2) enc :=
  ⟨Iff.rfl, Iff.rfl⟩
theorem oneOf {v : Value} (h : v.oneCell' = true) : ∀ u ∈ [v], u.oneCell' = true := by
  intro u hu
  rw [List.mem_singleton.1 hu]
  exact h
abbrev tInt (k : IntKind) : Ty Int := Ty.flat 1 (fun x => [.int k x]) (fun _ => rfl) (fun _ => oneOf rfl)
abbrev tBool : Ty Bool := Ty.flat 1 (fun x => [.bool x]) (fun _ => rfl) (fun _ => oneOf rfl)
abbrev tStr : Ty ByteArray := Ty.flat 1 (fun x => [.string x]) (fun _ => rfl) (fun _ => oneOf rfl)
def rdS {α : Type} (k : Ty α) (H : BM) (A : Option Addr) (xs : List α) : Prop :=
  xs = [] ∨ ∃ b o, A = some ⟨b, o, none⟩ ∧ ∀ j x, xs[j]? = some x → ∃ cs, k.rd H x cs ∧ ∀ i u, cs[i]? = some u → cellOf H b (o + j * k.sz + i) = some u
theorem rdS.mono {α : Type} {k : Ty α} {H H' : BM} {A : Option Addr} {xs : List α} (h : rdS k H A xs) (hs : Sub H H') : rdS k H' A xs := by
  rcases h with h | ⟨b, o, rfl, h⟩
  · exact .inl h
  · refine .inr ⟨b, o, rfl, fun j x hj => ?_⟩
    obtain ⟨cs, h1, h2⟩ := h j x hj
    exact ⟨cs, k.rd_mono h1 hs, fun i u hu => hs.cell (h2 i u hu)⟩
def idx {α : Type} [Inhabited α] (xs : List α) (j : Int) : α := xs.getD j.toNat default
def Lies (M : BM) (g : Grp) : Prop := ∀ j u, g.2.2[j]? = some u → cellOf M g.1 (g.2.1 + j) = some u
theorem Grp.lies {w : World} {g : Grp} (hg : Grp.ok w g) : Lies (hp w) g := fun j u hu => by rw [← cell_hp]; exact hg j u hu
theorem Lies.ok {w : World} {g : Grp} (hg : Lies (hp w) g) : Grp.ok w g := fun j u hu => by rw [cell_hp]; exact hg j u hu
theorem Lies.mono {H H' : BM} {g : Grp} (hg : Lies H g) (hs : Sub H H') : Lies H' g := fun j u hu => hs.cell (hg j u hu)
theorem rdS.open {α : Type} [Inhabited α] {k : Ty α} {H : BM} {A : Option Addr} {xs : List α} (h : rdS k H A xs) {n : Nat} (hn : xs.length = n) {j : Int} (hj : 0 ≤ j ∧ j < n) :
    ∃ b o, A = some ⟨b, o, none⟩ ∧ ∃ cs, k.rd H (idx xs j) cs ∧ Lies H (b, o + j.toNat * k.sz, cs) := by
  subst hn
  rcases h with rfl | ⟨b, o, rfl, h⟩
  · simp at hj; omega
  · have hl : j.toNat < xs.length := by omega
    obtain ⟨cs, hr, hc⟩ := h j.toNat xs[j.toNat] (List.getElem?_eq_getElem hl)
    refine ⟨b, o, rfl, cs, ?_, hc⟩
    rw [idx, List.getD_eq_getElem?_getD, List.getElem?_eq_getElem hl]; exact hr
theorem rdS.fopen {α : Type} [Inhabited α] {k : Ty α} {enc : α → List Value} [Flat k enc] {H : BM} {A : Option Addr} {xs : List α} (h : rdS k H A xs) {n : Nat} (hn : xs.length = n) {j : Int} (hj : 0 ≤ j ∧ j < n) :
    ∃ b o, A = some ⟨b, o, none⟩ ∧ Lies H (b, o + j.toNat * k.sz, enc (idx xs j)) := by
  obtain ⟨b, o, rfl, cs, hr, hg⟩ := h.open hn hj
  rw [Flat.rd_iff.1 hr] at hg
  exact ⟨b, o, rfl, hg⟩
theorem rdS.look {α : Type} [Inhabited α] {k : Ty α} {H : BM} {b o : Nat} {xs : List α} (h : rdS k H (some ⟨b, o, none⟩) xs) {n : Nat} (hn : xs.length = n) {j : Int} (hj : 0 ≤ j ∧ j < n) :
    ∃ cs, k.rd H (idx xs j) cs ∧ Lies H (b, o + j.toNat * k.sz, cs) := by
  obtain ⟨b', o', e, cs, hr, hg⟩ := h.open hn hj
  cases e
  exact ⟨cs, hr, hg⟩
theorem rdS.flook {α : Type} [Inhabited α] {k : Ty α} {enc : α → List Value} [Flat k enc] {H : BM} {b o : Nat} {xs : List α} (h : rdS k H (some ⟨b, o, none⟩) xs) {n : Nat} (hn : xs.length = n) {j : Int} (hj : 0 ≤ j ∧ j < n) :
    Lies H (b, o + j.toNat * k.sz, enc (idx xs j)) := by
  obtain ⟨cs, hr, hg⟩ := h.look hn hj
  rw [Flat.rd_iff.1 hr] at hg
  exact hg
def seqOwn {α : Type} (k : Ty α) (H : BM) : (Nat → Prop) → List α → List Value → Prop
  | _, [], cs => cs = []
  | F, x :: xs, cs => ∃ c1 c2 F1 F2, cs = c1 ++ c2 ∧ (∀ b, F1 b → F b) ∧ (∀ b, F2 b → F b) ∧ (∀ b, F1 b → ¬ F2 b) ∧ k.own H F1 x c1 ∧ seqOwn k H F2 xs c2
theorem seqOwn.mono {α : Type} {k : Ty α} {H : BM} : ∀ {xs : List α} {F F' : Nat → Prop} {cs : List Value}, seqOwn k H F xs cs → (∀ b, F b → F' b) → seqOwn k H F' xs cs
  | [], _, _, _, h, _ => h
  | _ :: _, _, _, _, ⟨c1, c2, F1, F2, e, h1, h2, h3, h4, h5⟩, hF => ⟨c1, c2, F1, F2, e, fun b h => hF b (h1 b h), fun b h => hF b (h2 b h), h3, h4, h5⟩
theorem seqOwn.congr {α : Type} {k : Ty α} {H H' : BM} : ∀ {xs : List α} {F : Nat → Prop} {cs : List Value}, seqOwn k H F xs cs → (∀ b, F b → H' b = H b) → seqOwn k H' F xs cs
  | [], _, _, h, _ => h
  | _ :: _, _, _, ⟨c1, c2, F1, F2, e, h1, h2, h3, h4, h5⟩, hF => ⟨c1, c2, F1, F2, e, h1, h2, h3, k.own_congr h4 (fun b h => hF b (h1 b h)), h5.congr (fun b h => hF b (h2 b h))⟩
theorem seqOwn.len {α : Type} {k : Ty α} {H : BM} : ∀ {xs : List α} {F : Nat → Prop} {cs : List Value}, seqOwn k H F xs cs → cs.length = xs.length * k.sz
  | [], _, _, h => by rw [show _ = [] from h]; simp
  | _ :: xs, _, _, ⟨c1, c2, F1, F2, e, h1, h2, h3, h4, h5⟩ => by rw [e, List.length_append, k.rd_len (k.own_rd h4), h5.len, List.length_cons, Nat.add_mul]; omega
theorem seqOwn.one {α : Type} {k : Ty α} {H : BM} : ∀ {xs : List α} {F : Nat → Prop} {cs : List Value}, seqOwn k H F xs cs → ∀ v ∈ cs, v.oneCell' = true
  | [], _, _, h, v, hv => by rw [show _ = [] from h] at hv; cases hv
  | _ :: xs, _, _, ⟨c1, c2, F1, F2, e, h1, h2, h3, h4, h5⟩, v, hv => by
    rw [e] at hv
    rcases List.mem_append.1 hv with hv | hv
    · exact k.rd_one (k.own_rd h4) v hv
    · exact h5.one v hv
theorem seqOwn.get {α : Type} {k : Ty α} {H : BM} : ∀ {xs : List α} {F : Nat → Prop} {cs : List Value}, seqOwn k H F xs cs → ∀ j x, xs[j]? = some x → ∃ c, k.rd H x c ∧ ∀ i u, c[i]? = some u → cs[j * k.sz + i]? = some u
  | [], _, _, _, j, x, hj => by simp at hj
  | x0 :: xs, _, _, ⟨c1, c2, F1, F2, e, h1, h2, h3, h4, h5⟩, j, x, hj => by
    have hl := k.rd_len (k.own_rd h4)
    cases j with
    | zero =>
      simp only [List.getElem?_cons_zero, Option.some.injEq] at hj
      subst hj
      refine ⟨c1, k.own_rd h4, fun i u hu => ?_⟩
      rw [e, Nat.zero_mul, Nat.zero_add, List.getElem?_append_left (List.getElem?_eq_some_iff.1 hu).1]
      exact hu
    | succ j =>
      obtain ⟨c, hc, hget⟩ := h5.get j x (by simpa using hj)
      refine ⟨c, hc, fun i u hu => ?_⟩
      rw [e, show (j + 1) * k.sz + i = c1.length + (j * k.sz + i) by rw [hl, Nat.add_mul]; omega, List.getElem?_append_right (by omega), Nat.add_sub_cancel_left]
      exact hget i u hu
theorem seqOwn.snoc {α : Type} {k : Ty α} {H : BM} {x : α} {c : List Value} {G : Nat → Prop} (hx : k.own H G x c) : ∀ {xs : List α} {F : Nat → Prop} {cs : List Value}, seqOwn k H F xs cs → (∀ b, F b → ¬ G b) →
    seqOwn k H (fun b => F b ∨ G b) (xs ++ [x]) (cs ++ c)
  | [], F, cs, h, _ => by
    rw [show cs = [] from h]
    exact ⟨c, [], G, fun _ => False, by simp, fun _ h => .inr h, fun _ h => h.elim, fun _ _ h => h, hx, rfl⟩
  | x0 :: xs, F, cs, ⟨c1, c2, F1, F2, e, h1, h2, h3, h4, h5⟩, hd => by
    refine ⟨c1, c2 ++ c, F1, fun b => F2 b ∨ G b, by rw [e, List.append_assoc], fun b h => .inl (h1 b h), fun b h => h.imp (h2 b) id, ?_, h4, seqOwn.snoc hx h5 (fun b h => hd b (h2 b h))⟩
    rintro b hb (h | h)
    · exact h3 b hb h
    · exact hd b (h1 b hb) h
theorem seqOwn.flat {α : Type} {k : Ty α} {enc : α → List Value} [Flat k enc] {H : BM} : ∀ {xs : List α} {F : Nat → Prop} {cs : List Value}, seqOwn k H F xs cs ↔ cs = xs.flatMap enc
  | [], _, _ => by simp [seqOwn]
  | x :: xs, F, cs => by
    constructor
    · rintro ⟨c1, c2, F1, F2, rfl, h1, h2, h3, h4, h5⟩
      rw [Flat.own_iff.1 h4, seqOwn.flat.1 h5, List.flatMap_cons]
    · rintro rfl
      exact ⟨enc x, xs.flatMap enc, fun _ => False, fun _ => False, by rw [List.flatMap_cons], fun _ h => h.elim, fun _ h => h.elim, fun _ h => h.elim, Flat.own_iff.2 rfl, seqOwn.flat.2 rfl⟩
def rowOwn {α : Type} (k : Ty α) (e : TypeId) (H : BM) (F : Nat → Prop) (A : Option Addr) (c : Nat) (xs : List α) : Prop :=
  (A = none ∧ c = 0 ∧ xs = []) ∨
  ∃ b arr, A = some ⟨b, 0, none⟩ ∧ F b ∧ H b = some (.cells arr e (0, 0)) ∧ xs.length ≤ c ∧ c ≤ maxLen ∧ arr.size = c * k.sz ∧
    seqOwn k H (fun b' => F b' ∧ b' ≠ b) xs (arr.toList.take (xs.length * k.sz))
section
variable {α : Type} {k : Ty α} {e : TypeId} {H H' : BM} {F F' : Nat → Prop} {A : Option Addr} {c : Nat} {xs : List α}
theorem rowOwn.mono (h : rowOwn k e H F A c xs) (hF : ∀ b, F b → F' b) : rowOwn k e H F' A c xs := by
  rcases h with h | ⟨b, arr, rfl, h1, h2, h3, h4, h5, h6⟩
  · exact .inl h
  · exact .inr ⟨b, arr, rfl, hF b h1, h2, h3, h4, h5, h6.mono (fun b' h => ⟨hF b' h.1, h.2⟩)⟩
theorem rowOwn.congr (h : rowOwn k e H F A c xs) (hF : ∀ b, F b → H' b = H b) : rowOwn k e H' F A c xs := by
  rcases h with h | ⟨b, arr, rfl, h1, h2, h3, h4, h5, h6⟩
  · exact .inl h
  · exact .inr ⟨b, arr, rfl, h1, (hF b h1).trans h2, h3, h4, h5, h6.congr (fun b' h => hF b' h.1)⟩
theorem rowOwn.nil : rowOwn k e H F none 0 ([] : List α) := .inl ⟨rfl, rfl, rfl⟩
theorem rowOwn.rd (h : rowOwn k e H F A c xs) : rdS k H A xs := by
  rcases h with ⟨_, _, h⟩ | ⟨b, arr, rfl, h1, h2, h3, h4, h5, h6⟩
  · exact .inl h
  · refine .inr ⟨b, 0, rfl, fun j x hj => ?_⟩
    obtain ⟨cs, hr, hg⟩ := h6.get j x hj
    refine ⟨cs, hr, fun i u hu => ?_⟩
    have := hg i u hu
    rw [List.getElem?_take] at this
    split at this
    · unfold cellOf
      rw [h2, Nat.zero_add]
      simpa using this
    · cases this
theorem rowOwn.le (h : rowOwn k e H F A c xs) : xs.length ≤ c := by
  rcases h with ⟨_, _, rfl⟩ | ⟨b, arr, rfl, h1, h2, h3, h4, h5, h6⟩
  · simp
  · exact h3
end
def tSlice {α : Type} (e : TypeId) (k : Ty α) : Ty (List α) where
  sz := 1
  own := fun H F xs cs => ∃ A c, cs = [.slice A xs.length c] ∧ rowOwn k e H F A c xs
  rd := fun H xs cs => ∃ A c, cs = [.slice A xs.length c] ∧ xs.length ≤ c ∧ rdS k H A xs
  own_mono := fun ⟨A, c, e, h⟩ hF => ⟨A, c, e, h.mono hF⟩
  own_congr := fun ⟨A, c, e, h⟩ hF => ⟨A, c, e, h.congr hF⟩
  own_rd := fun ⟨A, c, e, h⟩ => ⟨A, c, e, h.le, h.rd⟩
  rd_mono := fun ⟨A, c, e, hl, h⟩ hs => ⟨A, c, e, hl, h.mono hs⟩
  rd_len := fun ⟨_, _, e, _⟩ => by rw [e]; rfl
  rd_one := fun ⟨_, _, e, _⟩ => by rw [e]; exact oneOf rfl
def tLent {α : Type} (M : BM) (k : Ty α) : Ty (List α) where
  sz := 1
  own := fun _ _ xs cs => ∃ A c, cs = [.slice A xs.length c] ∧ xs.length ≤ c ∧ rdS k M A xs
  rd := fun H xs cs => ∃ A c, cs = [.slice A xs.length c] ∧ xs.length ≤ c ∧ rdS k M A xs
  own_mono := fun h _ => h
  own_congr := fun h _ => h
  own_rd := fun h => h
  rd_mono := fun h _ => h
  rd_len := fun ⟨_, _, e, _⟩ => by rw [e]; rfl
  rd_one := fun ⟨_, _, e, _⟩ => by rw [e]; exact oneOf rfl
def tPair {α β : Type} (a : Ty α) (b : Ty β) : Ty (α × β) where
  sz := a.sz + b.sz
  own := fun H F x cs => ∃ c1 c2 F1 F2, cs = c1 ++ c2 ∧ (∀ b, F1 b → F b) ∧ (∀ b, F2 b → F b) ∧ (∀ b, F1 b → ¬ F2 b) ∧ a.own H F1 x.1 c1 ∧ b.own H F2 x.2 c2
  rd := fun H x cs => ∃ c1 c2, cs = c1 ++ c2 ∧ a.rd H x.1 c1 ∧ b.rd H x.2 c2
  own_mono := by
    rintro H F F' x cs ⟨c1, c2, F1, F2, e, h1, h2, h3, h4, h5⟩ hF
    exact ⟨c1, c2, F1, F2, e, fun b h => hF b (h1 b h), fun b h => hF b (h2 b h), h3, h4, h5⟩
  own_congr := by
    rintro H H' F x cs ⟨c1, c2, F1, F2, e, h1, h2, h3, h4, h5⟩ hF
    exact ⟨c1, c2, F1, F2, e, h1, h2, h3, a.own_congr h4 (fun b h => hF b (h1 b h)), b.own_congr h5 (fun b h => hF b (h2 b h))⟩
  own_rd := by
    rintro H F x cs ⟨c1, c2, F1, F2, e, h1, h2, h3, h4, h5⟩
    exact ⟨c1, c2, e, a.own_rd h4, b.own_rd h5⟩
  rd_mono := by
    rintro H H' x cs ⟨c1, c2, e, h4, h5⟩ hs
    exact ⟨c1, c2, e, a.rd_mono h4 hs, b.rd_mono h5 hs⟩
  rd_len := by
    rintro H x cs ⟨c1, c2, e, h4, h5⟩
    rw [e, List.length_append, a.rd_len h4, b.rd_len h5]
  rd_one := by
    rintro H x cs ⟨c1, c2, e, h4, h5⟩ v hv
    rw [e] at hv
    rcases List.mem_append.1 hv with hv | hv
    · exact a.rd_one h4 v hv
    · exact b.rd_one h5 v hv
def Ty.iso {α β : Type} (k : Ty α) (g : β → α) : Ty β where
  sz := k.sz
  own := fun H F x cs => k.own H F (g x) cs
  rd := fun H x cs => k.rd H (g x) cs
  own_mono := k.own_mono
  own_congr := k.own_congr
  own_rd := k.own_rd
  rd_mono := k.rd_mono
  rd_len := k.rd_len
  rd_one := k.rd_one
structure KeyTy (κ : Type) where
  enc : κ → Value
inductive Asrt : Type 1 where
  | blk (b : Nat) (t : TypeId) (cs : List Value)
  | row {α : Type} (k : Ty α) (e : TypeId) (A : Option Addr) (n c : Nat) (xs : List α)
  | map {κ ν : Type} (key : κ → Value) (k : Ty ν) (b : Nat) (m : List (κ × ν))
  | any (p : BM → (Nat → Prop) → Prop) (mono : ∀ {H F F'}, p H F → (∀ b, F b → F' b) → p H F') (congr : ∀ {H H' : BM} {F : Nat → Prop}, p H F → (∀ b, F b → H' b = H b) → p H' F)
def Asrt.Own : Asrt → BM → (Nat → Prop) → Prop
  | .blk b t cs, H, F => F b ∧ H b = some (.cells cs.toArray t (0, 0))
  | .row k e A n c xs, H, F => rowOwn k e H F A c xs ∧ xs.length = n
  | .map key k b m, H, F => F b ∧ ∃ es clock vs, H b = some (.map es clock) ∧ es.toList.map (·.key) = m.map (fun p => key p.1) ∧ es.toList.map (·.val) = vs ∧ k.sz = 1 ∧ seqOwn k H (fun b' => F b' ∧ b' ≠ b) (m.map (·.2)) vs
  | .any p _ _, H, F => p H F
theorem Asrt.Own.mono {a : Asrt} {H : BM} {F F' : Nat → Prop} (h : a.Own H F) (hF : ∀ b, F b → F' b) : a.Own H F' := by
  cases a with
  | blk b t cs => exact ⟨hF b h.1, h.2⟩
  | row k e A n c xs => exact ⟨rowOwn.mono h.1 hF, h.2⟩
  | map key k b m => obtain ⟨h1, es, clock, vs, h2, h3, h4, h5, h6⟩ := h; exact ⟨hF b h1, es, clock, vs, h2, h3, h4, h5, h6.mono (fun b' h => ⟨hF b' h.1, h.2⟩)⟩
  | any p mono congr => exact mono h hF
theorem Asrt.Own.congr {a : Asrt} {H H' : BM} {F : Nat → Prop} (h : a.Own H F) (hF : ∀ b, F b → H' b = H b) : a.Own H' F := by
  cases a with
  | blk b t cs => exact ⟨h.1, (hF b h.1).trans h.2⟩
  | row k e A n c xs => exact ⟨rowOwn.congr h.1 hF, h.2⟩
  | map key k b m => obtain ⟨h1, es, clock, vs, h2, h3, h4, h5, h6⟩ := h; exact ⟨h1, es, clock, vs, (hF b h1).trans h2, h3, h4, h5, h6.congr (fun b' h => hF b' h.1)⟩
  | any p mono congr => exact congr h hF
def sep : List Asrt → BM → (Nat → Prop) → Prop
  | [], _, _ => True
  | a :: l, H, F => ∃ F1 F2, (∀ b, F1 b → F b) ∧ (∀ b, F2 b → F b) ∧ (∀ b, F1 b → ¬ F2 b) ∧ a.Own H F1 ∧ sep l H F2
theorem sep.mono : ∀ {l : List Asrt} {H : BM} {F F' : Nat → Prop}, sep l H F → (∀ b, F b → F' b) → sep l H F'
  | [], _, _, _, _, _ => trivial
  | _ :: _, _, _, _, ⟨F1, F2, h1, h2, h3, h4, h5⟩, hF => ⟨F1, F2, fun b h => hF b (h1 b h), fun b h => hF b (h2 b h), h3, h4, h5⟩
theorem sep.congr : ∀ {l : List Asrt} {H H' : BM} {F : Nat → Prop}, sep l H F → (∀ b, F b → H' b = H b) → sep l H' F
  | [], _, _, _, _, _ => trivial
  | _ :: _, _, _, _, ⟨F1, F2, h1, h2, h3, h4, h5⟩, hF => ⟨F1, F2, h1, h2, h3, h4.congr (fun b h => hF b (h1 b h)), h5.congr (fun b h => hF b (h2 b h))⟩
theorem sep.append : ∀ {l m : List Asrt} {H : BM} {F G : Nat → Prop}, sep l H F → sep m H G → (∀ b, F b → ¬ G b) → sep (l ++ m) H (fun b => F b ∨ G b)
  | [], m, H, F, G, _, hm, _ => hm.mono (fun _ h => .inr h)
  | a :: l, m, H, F, G, ⟨F1, F2, h1, h2, h3, h4, h5⟩, hm, hd => by
    refine ⟨F1, fun b => F2 b ∨ G b, fun b h => .inl (h1 b h), fun b h => h.imp (h2 b) id, ?_, h4, h5.append hm (fun b h => hd b (h2 b h))⟩
    rintro b hb (h | h)
    · exact h3 b hb h
    · exact hd b (h1 b hb) h
theorem sep.focus : ∀ {l : List Asrt} {H : BM} {F : Nat → Prop} {i : Nat} {a : Asrt}, sep l H F → l[i]? = some a →
    ∃ F1, (∀ b, F1 b → F b) ∧ a.Own H F1 ∧ ∀ (H' : BM) (F1' : Nat → Prop) (a' : Asrt), a'.Own H' F1' → (∀ b, F b → ¬ F1 b → H' b = H b) → (∀ b, F1' b → F1 b ∨ ¬ F b) → sep (l.set i a') H' (fun b => F b ∨ F1' b)
  | [], _, _, _, _, _, hi => by simp at hi
  | a :: l, H, F, 0, a0, ⟨F1, F2, h1, h2, h3, h4, h5⟩, hi => by
    simp only [List.getElem?_cons_zero, Option.some.injEq] at hi
    subst hi
    refine ⟨F1, h1, h4, fun H' F1' a' ha hH hF => ⟨F1', F2, fun b h => .inr h, fun b h => .inl (h2 b h), ?_, ha, h5.congr (fun b h => hH b (h2 b h) (fun h' => h3 b h' h))⟩⟩
    intro b hb h
    rcases hF b hb with h' | h'
    · exact h3 b h' h
    · exact h' (h2 b h)
  | a :: l, H, F, i + 1, a0, ⟨F1, F2, h1, h2, h3, h4, h5⟩, hi => by
    obtain ⟨G, hG, hown, hturn⟩ := h5.focus (i := i) (by simpa using hi)
    refine ⟨G, fun b h => h2 b (hG b h), hown, fun H' F1' a' ha hH hF => ?_⟩
    have hs := hturn H' F1' a' ha (fun b hb hn => hH b (h2 b hb) hn) (fun b hb => (hF b hb).imp id (fun h h' => h (h2 b h')))
    refine ⟨F1, fun b => F2 b ∨ F1' b, fun b h => .inl (h1 b h), fun b h => h.imp (h2 b) id, ?_, h4.congr (fun b h => hH b (h1 b h) (fun h' => h3 b h (hG b h'))), hs⟩
    rintro b hb (h | h)
    · exact h3 b hb h
    · rcases hF b h with h' | h'
      · exact h3 b hb (hG b h')
      · exact h' (h1 b hb)
structure Mem where
  blk : BM
  n : Nat
  os : Os
  tape : Nat → Question → Nat
  output : Array (Nat × ByteArray)
def memOf (w : World) : Mem := ⟨hp w, w.heap.size, w.os, w.tape, w.output⟩
structure Inv (M : Mem) (w : World) (L : List Asrt) : Prop where
  fix : Sub M.blk (hp w)
  size : M.n ≤ w.heap.size
  os : w.os = M.os
  tape : w.tape = M.tape
  output : w.output = M.output
  sep : sep L (hp w) (fun b => M.blk b = none ∧ b < w.heap.size)
end Go.Proofs.YtnlkggppokcmfaaE
