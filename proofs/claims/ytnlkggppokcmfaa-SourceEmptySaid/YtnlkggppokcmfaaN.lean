/- The engine, part N: regions that draw their order and make memory on their way. -/
import Derived.Test.YtnlkggppokcmfaaK
import Derived.OrdersHeld
namespace Go.Proofs.YtnlkggppokcmfaaE
open Go
set_option linter.unusedVariables false
set_option linter.unusedSimpArgs false
def runH (P : Program) (N : Nat) (ops : Array Oper) (G : List Grp) : List (Nat × Hint) → Array Bool → (Nat → Value) → Option ((Nat → Value) × Array Bool × Owed)
  | [], l, f => some (f, l, [], [])
  | (i, h) :: hs, l, f => bif (Region.ready .any ops l).contains i && Region.free .any ops l i then
      match nth ops.toList i with
      | none => none
      | some o => bif wants N ops f o then
          match stepB P G o (ev N f) h with
          | some (v, oa, ob) => match runH P N ops G hs (l.setIfInBounds i true) (updO f o.dst v) with
            | some (f', l', ra, rb) => some (f', l', oa ++ ra, ob ++ rb)
            | none => none
          | none => none
        else runH P N ops G hs (l.setIfInBounds i true) (updO f o.dst undef)
    else none
section
variable {E : Env} {k : List Item} {ops : Array Oper} {S : World → Prop} {f : Nat → Value} {w : World} {l : Array Bool} {n : Nat}
structure Held (E : Env) (k : List Item) (ops : Array Oper) (S : World → Prop) (n : Nat) (l : Array Bool) (f : Nat → Value) (w : World) : Prop where
  out : wpAnyH E.P .any ops (Falls E k) S n l (fr E.N f) w
theorem go_held {id : Nat} (S : World → Prop) (hm : E.P.follows .mixedOrders = true) (h : Held E k ops S ops.size (Array.replicate ops.size false) f w.drew) (h0 : E.plain := by exact ⟨rfl, rfl⟩) : Go E (.code (.region id ops true) :: k) f w :=
  go_falls h0 (wp_region_held hm h.out)
theorem held_done (hr : Region.ready .any ops l = []) (h : Go E k f w) : Held E k ops S n l f w := ⟨wpAnyH_done hr ⟨f, rfl, h⟩ n⟩
theorem runH_held {G : List Grp} (hs0 : Region.noSelect ops = true) (hG : ∀ w, S w → Grps w G) (hS : S w) : ∀ {hs : List (Nat × Hint)} {l l' : Array Bool} {f f' : Nat → Value} {oa : List (Value × Value)} {ob : List (Int × Nat)},
    runH E.P E.N ops G hs l f = some (f', l', oa, ob) → oa.map (·.1) = oa.map (·.2) → Bnds ob → Held E k ops S n l' f' w → Held E k ops S (n + hs.length) l f w
  | [], l, l', f, f', oa, ob, h, _, _, hK => by
    simp only [runH, Option.some.injEq, Prod.mk.injEq] at h
    obtain ⟨rfl, rfl, _⟩ := h
    exact hK
  | (i, h) :: hs, l, l', f, f', oa, ob, hr, ha, hb, hK => by
    simp only [runH] at hr
    cases hc : ((Region.ready .any ops l).contains i && Region.free .any ops l i) with
    | false => rw [hc, cond_false] at hr; cases hr
    | true =>
      rw [hc, cond_true] at hr
      rw [Bool.and_eq_true] at hc
      rw [List.length_cons, ← Nat.add_assoc]
      split at hr
      · cases hr
      · rename_i o hn
        have ho : ops[i]? = some o := by rw [nth_eq] at hn; simpa using hn
        cases hw : wants E.N ops f o with
        | false =>
          rw [hw, cond_false] at hr
          have := (runH_held hs0 hG hS hr ha hb hK).out
          refine ⟨wpAnyH_take (v := undef) ho hs0 hc.2 hc.1 (fun _ _ _ h => h.elim) (.inr ⟨?_, rfl⟩) hS ?_⟩
          · rw [show (fr E.N f).tmps = tm E.N f from rfl, wants_eq]; exact hw
          · rw [fr_put]; exact this
        | true =>
          rw [hw, cond_true] at hr
          split at hr
          · rename_i v oa1 ob1 hst
            split at hr
            · rename_i f1 l1 ra rb hrest
              cases hr
              rw [List.map_append, List.map_append] at ha
              have hl := List.append_inj ha (by simp)
              have hb2 := Bnds.app hb
              have := (runH_held hs0 hG hS hrest hl.2 hb2.2 hK).out
              refine ⟨wpAnyH_take (v := v) ho hs0 hc.2 hc.1 (fun _ _ _ h => h.elim) (.inl ⟨?_, fun w' hS' => ?_⟩) hS ?_⟩
              · rw [show (fr E.N f).tmps = tm E.N f from rfl, wants_eq]; exact hw
              · rw [fr_eval]; exact stepB_run hst hl.1 hb2.1 (hG w' hS')
              · rw [fr_put]; exact this
            · cases hr
          · cases hr
def frameOfH (r : Option ((Nat → Value) × Array Bool × Owed)) : Option ((Nat → Value) × List Bool) := match r with | some (f, l, _) => some (f, l.toList) | none => none
def addrsOfH (r : Option ((Nat → Value) × Array Bool × Owed)) (s : Bool) : List Value := match r with | some (_, _, l, _) => l.map (fun p => bif s then p.1 else p.2) | none => []
def bndsOfH (r : Option ((Nat → Value) × Array Bool × Owed)) : List (Int × Nat) := match r with | some (_, _, _, l) => l | none => []
theorem held_batch (G : List Grp) (hs : List (Nat × Hint)) (us : List (Nat × Value)) (bs : List (Int × Nat)) (l' : List Bool)
    (hs0 : Region.noSelect ops = true) (hG : ∀ w, S w → Grps w G) (hS : S w) (hB : Bnds bs) (hr : frameOfH (runH E.P E.N ops G hs l f) = some (updL f us, l')) (ha : addrsOfH (runH E.P E.N ops G hs l f) true = addrsOfH (runH E.P E.N ops G hs l f) false)
    (hb : bndsOfH (runH E.P E.N ops G hs l f) = bs) (h : Held E k ops S n l'.toArray (updL f us) w) : Held E k ops S (n + hs.length) l f w := by
  cases e : runH E.P E.N ops G hs l f with
  | none => rw [e] at hr; cases hr
  | some r =>
    obtain ⟨f', l2, oa, ob⟩ := r
    rw [e] at hr ha hb
    simp only [frameOfH, Option.some.injEq, Prod.mk.injEq] at hr
    simp only [addrsOfH] at ha
    simp only [bndsOfH] at hb
    subst hb
    refine runH_held hs0 hG hS e ?_ hB ?_
    · simpa using ha
    · rw [hr.1]
      have : l2 = l'.toArray := by rw [← hr.2]
      rw [this]
      exact h
def Each (E : Env) (k : List Item) (ops : Array Oper) (S : World → Prop) (n : Nat) (l : Array Bool) (f : Nat → Value) (w : World) : List Nat → Prop
  | [] => True
  | i :: r => (∃ o, nth ops.toList i = some o ∧ wants E.N ops f o = true ∧ Eff E.P o (ev E.N f) w (fun v w' => S w' ∧ Held E k ops S n (l.setIfInBounds i true) (updO f o.dst v) w')) ∧ Each E k ops S n l f w r
theorem Each.get {rs : List Nat} (h : Each E k ops S n l f w rs) : ∀ i ∈ rs, ∃ o, nth ops.toList i = some o ∧ wants E.N ops f o = true ∧ Eff E.P o (ev E.N f) w (fun v w' => S w' ∧ Held E k ops S n (l.setIfInBounds i true) (updO f o.dst v) w') := by
  induction rs with
  | nil => intro i hi; cases hi
  | cons j r ih =>
    intro i hi
    rcases List.mem_cons.1 hi with rfl | hi
    · exact h.1
    · exact ih h.2 i hi
theorem held_each (rs : List Nat) (hne : rs ≠ []) (hr : Region.ready .any ops l = rs) (h : Each E k ops S n l f w rs) : Held E k ops S (n + 1) l f w := by
  refine ⟨wpAnyH_all hr hne fun i hi => ?_⟩
  obtain ⟨o, hn, hw, heff⟩ := h.get i hi
  have ho : ops[i]? = some o := by rw [nth_eq] at hn; simpa using hn
  unfold wpOp
  simp only [ho]
  rw [show Region.wanted o (yielded ops (fr E.N f).tmps) = wants E.N ops f o from wants_eq E.N _ f o, hw, if_pos rfl]
  refine .inl ?_
  unfold Oper.wp Oper.upon
  rw [fr_eval]
  replace h := heff.out
  cases hr : (execOp (ev E.N f) o).run E.P w with
  | halt x w' => rw [hr] at h; exact h.elim
  | ok n w' =>
    rw [hr] at h
    cases n <;> first
      | (dsimp only [EffOf] at h ⊢; rw [fr_put]; exact ⟨h.1, h.2.out⟩)
      | (dsimp only [EffOf] at h ⊢; refine Calls.mono h ?_; rintro e w'' ⟨v, rfl, h'⟩; dsimp only; rw [fr_put]; exact ⟨h'.1, h'.2.out⟩)
      | exact h.elim
theorem held_one (i : Nat) (o : Oper) (hn : nth ops.toList i = some o) (hr : Region.ready .any ops l = [i]) (hw : wants E.N ops f o = true)
    (h : Eff E.P o (ev E.N f) w (fun v w' => S w' ∧ Held E k ops S n (l.setIfInBounds i true) (updO f o.dst v) w')) : Held E k ops S (n + 1) l f w :=
  held_each [i] (by simp) hr ⟨⟨o, hn, hw, h⟩, trivial⟩
end
theorem e_read {P : Program} {N : Nat} {ops : Array Oper} {o : Oper} {f : Nat → Value} {K : Value → World → Prop} {w : World} (G : List Grp) (h : Hint) (v : Value) (bs : List (Int × Nat))
    (hG : Grps w G) (hB : Bnds bs) (hr : (stepB P G o (ev N f) h).map (·.1) = some v) (ha : (stepB P G o (ev N f) h).map (fun r => r.2.1.map (·.1)) = (stepB P G o (ev N f) h).map (fun r => r.2.1.map (·.2)))
    (hb : (stepB P G o (ev N f) h).map (·.2.2) = some bs) (hK : K v w) : Eff P o (ev N f) w K := by
  cases e : stepB P G o (ev N f) h with
  | none => rw [e] at hr; cases hr
  | some r =>
    obtain ⟨v', oa, ob⟩ := r
    rw [e] at hr ha hb
    simp only [Option.map_some, Option.some.injEq] at hr ha hb
    subst hr hb
    exact eff_val v' (stepB_run e ha hB hG) hK
end Go.Proofs.YtnlkggppokcmfaaE
