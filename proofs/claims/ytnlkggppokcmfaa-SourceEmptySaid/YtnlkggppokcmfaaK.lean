/- The engine, part K: regions that draw their order. -/
import Derived.Test.YtnlkggppokcmfaaH
import Derived.StillTail
namespace Go.Proofs.YtnlkggppokcmfaaE
open Go
set_option linter.unusedVariables false
set_option linter.unusedSimpArgs false
section
variable {E : Env} {k : List Item} {f : Nat → Value} {w : World} {M : Mem} {L : List Asrt}
def Falls (E : Env) (k : List Item) : Exit → Act → World → Prop
  | .normal, a, w => ∃ f, a = fr E.N f ∧ Go E k f w
  | _, _, _ => False
theorem go_falls {c : Code} (h0 : E.plain) (h : c.wp E.P (Falls E k) (fr E.N f) w) : Go E (.code c :: k) f w := by
  obtain ⟨e, a', w', hq, harr⟩ := h E.b k E.cs
  cases e with
  | normal =>
    obtain ⟨f', rfl, hg⟩ := hq
    refine .steps ?_ hg
    rw [h0.at, h0.at]
    exact harr
  | _ => exact hq.elim
theorem rd_still {P : Program} {N : Nat} {l : List Oper} {w : World} {Q : Act → Prop} : ∀ {n i : Nat} {f : Nat → Value} {K : (Nat → Value) → Prop}, (∀ f, K f → Q (fr N f)) → Rd P N l.toArray w n i f K →
    wpStill P l.toArray w Q ((l.drop i).take n) (fr N f)
  | 0, i, f, K, hK, h => by simpa [wpStill] using hK f h
  | n + 1, i, f, K, hK, ⟨o, ho, h⟩ => by
    have ho' : l[i]? = some o := by simpa using ho
    have hlt : i < l.length := (List.getElem?_eq_some_iff.1 ho').1
    have hl : (l.drop i).take (n + 1) = o :: (l.drop (i + 1)).take n := by
      rw [List.drop_eq_getElem_cons hlt, List.take_succ_cons]
      congr 1
      exact (List.getElem?_eq_some_iff.1 ho').2
    rw [hl]
    simp only [wpStill]
    rw [show Region.wanted o (yielded l.toArray (fr N f).tmps) = wants N l.toArray f o from wants_eq N _ f o]
    rcases h with ⟨hw, h⟩ | ⟨v, hw, hr, h⟩
    · rw [hw, if_neg (by simp), fr_put]
      exact rd_still hK h
    · rw [hw, if_pos rfl]
      unfold Oper.still
      rw [fr_eval, hr, Oper.stillUpon_value, fr_put]
      exact rd_still hK h
theorem r_still {id : Nat} {l : List Oper} (hm : E.P.follows .mixedOrders = true) (hB : Region.lexB .any l.toArray = true)
    (h : Rd E.P E.N l.toArray w.drew l.length 0 f (fun f' => Go E k f' w.drew)) (h0 : E.plain := by exact ⟨rfl, rfl⟩) : Go E (.code (.region id l.toArray true) :: k) f w := by
  refine go_falls h0 (wp_region_still_lit hm hB ?_)
  have := rd_still (Q := fun a' => Falls E k .normal a' w.drew) (fun f' h => ⟨f', rfl, h⟩) h
  simpa using this
theorem grps_drew {G : List Grp} (h : Grps w G) : Grps w.drew G := by
  induction G with
  | nil => trivial
  | cons g G ih => exact ⟨fun j u hu => h.1 j u hu, ih h.2⟩
theorem Inv.drew' (h : Inv M w L) : Inv M w.drew L := h.drew rfl rfl rfl rfl
theorem tail_one {o : Oper} {ops : Array Oper} (hw : wants E.N ops f o = true) (h : Eff E.P o (ev E.N f) w (fun v w' => Go E k (updO f o.dst v) w')) : wpList E.P ops (Falls E k) [o] (fr E.N f) w := by
  simp only [wpList]
  rw [show Region.wanted o (yielded ops (fr E.N f).tmps) = wants E.N ops f o from wants_eq E.N _ f o, hw, if_pos rfl]
  refine .inl ?_
  unfold Oper.wp Oper.upon
  rw [fr_eval]
  replace h := h.out
  cases hr : (execOp (ev E.N f) o).run E.P w with
  | halt x w' => rw [hr] at h; exact h.elim
  | ok n w' =>
    rw [hr] at h
    cases n <;> first
      | (dsimp only [EffOf] at h ⊢; rw [fr_put]; exact ⟨_, rfl, h⟩)
      | (dsimp only [EffOf] at h ⊢; refine Calls.mono h ?_; rintro e w'' ⟨v, rfl, h'⟩; dsimp only; rw [fr_put]; exact ⟨_, rfl, h'⟩)
      | exact h.elim
end
end Go.Proofs.YtnlkggppokcmfaaE
