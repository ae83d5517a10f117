/- The engine, part Y: structures and arguments as they are handed in. -/
import Derived.Test.YtnlkggppokcmfaaZ
import Derived.WideShapes
import Derived.Lib.LaidTab
namespace Go.Proofs.YtnlkggppokcmfaaE
open Go
set_option linter.unusedVariables false
set_option linter.unusedSimpArgs false
structure OpensFs (P : Program) (fs : List Field) (off : Nat) {α : Type} (k : Ty α) (G : α → Prop) : Prop where
  out : ∀ {H : Type} {enc : TypeId × Value → H} {w : World} {base : Nat} {spare : Nat → Bool} {held : Bool} {n : Nat} {cs : List Value} {xs : List (DataW H × List MemPlace)},
    xs.length = fs.length → (∀ (i : Nat) (f : Field), fs[i]? = some f → DataW.trod enc P w base spare held n f.type ((cs.drop f.offset).take (P.cellsOf f.type)) = xs[i]?) →
    (∀ m ∈ DataW.weightsEach P (fs.map (·.type)) (xs.map (·.1)), m ≤ reachBytes) → cs.length = off + k.sz → ∃ a, k.rd (hp w) a (cs.drop off) ∧ G a
section
variable {P : Program} {t : TypeId}
theorem fs_last {α : Type} {k : Ty α} {G : α → Prop} {f : Field} {off : Nat} (h : Opens P t k G) (ht : f.type = t) (ho : f.offset = off) (hc : P.cellsOf f.type = k.sz) : OpensFs P [f] off k G := ⟨fun {H enc w base spare held n cs xs} hl hf hw hcs => by
  subst ht
  match xs, hl with
  | [x], _ =>
    have h0 := hf 0 f rfl
    rw [ho, hc, List.take_of_length_le (by rw [List.length_drop]; omega)] at h0
    exact h.out h0 (fun m hm => hw m (by simpa [DataW.weightsEach] using hm))⟩
theorem fs_cons {α β : Type} {k : Ty α} {k' : Ty β} {G : α → Prop} {G' : β → Prop} {f g : Field} {fs : List Field} {off : Nat} (h : Opens P t k G) (ht : f.type = t) (ho : f.offset = off) (hc : P.cellsOf f.type = k.sz)
    (hr : OpensFs P (g :: fs) (off + k.sz) k' G') : OpensFs P (f :: g :: fs) off (tPair k k') (fun x => G x.1 ∧ G' x.2) := ⟨fun {H enc w base spare held n cs xs} hl hf hw hcs => by
  subst ht
  match xs, hl with
  | x :: xs, hl =>
    have hcs' : cs.length = off + (k.sz + k'.sz) := hcs
    have h0 := hf 0 f rfl
    rw [ho, hc] at h0
    obtain ⟨a, ha, ga⟩ := h.out h0 (fun m hm => hw m (by simp only [List.map_cons, DataW.weightsEach]; exact List.mem_append_left _ hm))
    obtain ⟨b, hb, gb⟩ := hr.out (cs := cs) (xs := xs) (by simpa using hl) (fun i q hq => hf (i + 1) q hq) (fun m hm => hw m (by simp only [List.map_cons, DataW.weightsEach] at hm ⊢; exact List.mem_append_right _ hm)) (by omega)
    refine ⟨(a, b), ⟨_, _, ?_, ha, hb⟩, ga, gb⟩
    rw [← List.drop_drop, List.take_append_drop]⟩
theorem opens_struct {α : Type} {k : Ty α} {G : α → Prop} {fs : Array Field} (ht : P.underlying t = some (.struct fs)) (h : OpensFs P fs.toList 0 k G) (hc : P.cellsOf t = k.sz) : Opens P t k G := ⟨fun {H enc w base spare held fuel cs x} hx hn => by
  obtain ⟨xs, n, _, rfl, hl, hlen, hf⟩ := DataW.trod_struct ht hx
  obtain ⟨a, ha, ga⟩ := h.out (cs := cs) (xs := xs) (by simpa using hlen) (fun i f hi => hf i f (by simpa using hi)) (fun m hm => hn m (by simp only [DataW.weights, ht]; exact hm)) (by omega)
  exact ⟨a, by simpa using ha, ga⟩⟩
theorem opens_iso {α β : Type} {k : Ty α} {G : α → Prop} (h : Opens P t k G) (g : β → α) (f : α → β) (hgf : ∀ a, g (f a) = a) : Opens P t (k.iso g) (fun b => G (g b)) := ⟨fun hx hn => by
  obtain ⟨a, ha, ga⟩ := h.out hx hn
  exact ⟨f a, by show k.rd _ (g (f a)) _; rw [hgf]; exact ha, by rw [hgf]; exact ga⟩⟩
theorem opens_rows {α : Type} {k : Ty α} {G : α → Prop} {e : TypeId} {B : Nat} (ht : P.underlying t = some (.slice e)) (ho : Opens P e k G) (hc : P.cellsOf e = k.sz) (hpos : 0 < k.sz) (hb : P.bytesOf e = B) :
    Opens P t (tSlice e k) (fun l => (∀ x ∈ l, G x) ∧ l.length * B ≤ 140737488351232) := by
  subst hb
  exact opens_slice ht ho hc hpos
theorem arg_struct {α : Type} {k : Ty α} {G : α → Prop} (ho : Opens P t k G) {fs : Array Field} (hs : P.underlying t = some (.struct fs)) {H : Type} {enc : TypeId × Value → H} {w w' : World} {r : Reach} {b0 base : Nat} {spare : Nat → Bool} {held : Bool} {v : Value} {d : DataW H} {p : List MemPlace}
    (hv : Value.okWide P w' r b0 t v) (hd : DataW.Trod enc P w base spare held t v d p) (hw : ∀ n ∈ DataW.weights P t d, n ≤ reachBytes) : ∃ a cs, v = .agg cs ∧ k.rd (hp w) a cs.toList ∧ G a := by
  obtain ⟨cs, rfl, _⟩ := Go.WideShapes.okWide_struct hs hv
  obtain ⟨fuel, hf⟩ := hd
  obtain ⟨a, h1, h2⟩ := ho.out hf hw
  exact ⟨a, cs, rfl, h1, h2⟩
end
end Go.Proofs.YtnlkggppokcmfaaE
