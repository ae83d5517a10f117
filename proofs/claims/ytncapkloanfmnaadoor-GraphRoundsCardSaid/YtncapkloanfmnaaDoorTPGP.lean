/- Parts of a graph: the program's numbers, and the document's. -/
import Derived.Test.YtncapkloanfmnaaDoorTPGT
namespace Go.Proofs.YtncapkloanfmnaaDoorT
open Go Go.Proofs Go.Proofs.YtncapkloanfmnaaDoorE
set_option linter.unusedVariables false
set_option linter.unusedSimpArgs false
set_option maxRecDepth 4096

/-! ### lists -/
theorem idx_app_last {α : Type} [Inhabited α] (xs : List α) (y : α) : idx (xs ++ [y]) (xs.length : Int) = y := by
  rw [idx_nat, List.getD_eq_getElem?_getD]; simp
theorem set_app_last {α : Type} (xs : List α) (y z : α) : (xs ++ [y]).set xs.length z = xs ++ [z] := by
  rw [List.set_append_right _ _ (Nat.le_refl _)]; simp
theorem take_app_last {α : Type} (xs : List α) (y : α) : (xs ++ [y]).take xs.length = xs := by simp
theorem idx_setn {α : Type} [Inhabited α] {xs : List α} {i j : Nat} {v : α} (h : i < xs.length) : idx (xs.set i v) (j : Int) = if j = i then v else idx xs (j : Int) := by
  have := idx_set (xs := xs) (i := (i : Int)) (j := j) (v := v) (by omega) (by omega)
  rw [Int.toNat_natCast] at this
  rw [this]
  by_cases e : j = i
  · subst e; simp
  · have : ¬ (j : Int) = (i : Int) := by omega
    simp [e, this]
def zeros : List Int → Nat
  | [] => 0
  | x :: l => (if x = 0 then 1 else 0) + zeros l
theorem zeros_set : ∀ {l : List Int} {i : Nat} {y : Int}, i < l.length → idx l (i : Int) = 0 → y ≠ 0 → zeros (l.set i y) + 1 = zeros l
  | [], _, _, h, _, _ => by simp at h
  | x :: l, 0, y, _, h0, hy => by
    have h0 : x = 0 := h0
    subst h0
    simp [zeros, hy]
    omega
  | x :: l, i + 1, y, h, h0, hy => by
    have := zeros_set (l := l) (i := i) (y := y) (by simpa using h) (by rw [idx_nat] at h0 ⊢; simpa using h0) hy
    simp only [List.set_cons_succ, zeros]
    omega
theorem zeros_rep (n : Nat) : zeros (List.replicate n (default : Int)) = n := by
  induction n with
  | zero => rfl
  | succ n ih =>
    rw [List.replicate_succ, zeros, ih]
    have : (default : Int) = 0 := rfl
    rw [if_pos this]
    omega
theorem zeros_pos {l : List Int} {i : Nat} (h : i < l.length) (h0 : idx l (i : Int) = 0) : 1 ≤ zeros l := by
  have := zeros_set (y := 1) h h0 (by decide)
  omega
def wsum : List GraphFrame → Nat
  | [] => 0
  | f :: l => f.left_.toNat + 1 + wsum l
theorem wsum_app (l : List GraphFrame) (f : GraphFrame) : wsum (l ++ [f]) = wsum l + (f.left_.toNat + 1) := by
  induction l with
  | nil => simp [wsum]
  | cons g l ih => simp only [List.cons_append, wsum, ih]; omega

/-! ### the marks as they stand in the lists -/
structure DJ (n : Nat) (S : Nat → Nat → Prop) (num low part : List Int) (O W : List Nat) (LF : Nat → Nat → Prop) (ct pt : Int) (way : List GraphFrame) : Prop where
  tj : TJ n S (fun v => idx num (v : Int)) (fun v => idx low (v : Int)) (fun v => idx part (v : Int)) O W LF ct pt
  ln : num.length = n
  ll : low.length = n
  lp : part.length = n
  wy : way.map (·.node) = W.map (fun v : Nat => (v : Int))
  left : ∀ f ∈ way, Wd f.left_ (LF f.node.toNat)
  sub : ∀ v ∈ W, ∀ j, LF v j → S v j
  z1 : ct + (zeros num : Int) ≤ n
  z2 : O.length + zeros num ≤ n
  z3 : (W.length : Int) + pt + (zeros num : Int) ≤ n
theorem fun_set {l : List Int} {i : Nat} {y : Int} (h : i < l.length) : (fun v : Nat => idx (l.set i y) (v : Int)) = setf (fun v : Nat => idx l (v : Int)) i y := by
  funext v
  rw [idx_setn h]
  rfl
theorem enter_eq {s : GraphWalk} {x : Nat} (h1 : x < s.num.length) (h2 : x < s.low.length) (h3 : s.open_.length ≤ 64) (h4 : 0 ≤ s.count) (h5 : s.count ≤ 64) :
    graph_walk_enter s (x : Int) = some ⟨s.steps, s.num.set x (s.count + 1), s.low.set x (s.count + 1), s.part, s.open_ ++ [(x : Int)], s.count + 1, s.parts⟩ := by
  unfold graph_walk_enter
  rw [must_pos _ ⟨by omega, by omega⟩, must_pos _ ⟨by omega, by omega⟩, must_pos _ ⟨by omega, by omega⟩, w64zid (by omega) (by omega), Int.toNat_natCast]
theorem shut_told {s : GraphWalk} {O' D : List Nat} {p n : Nat} (ho : s.open_ = (O' ++ p :: D).map (fun v : Nat => (v : Int))) (hn : (O' ++ p :: D).length ≤ 64) (hp : p < n) (hD : ∀ v ∈ D, v < n ∧ v ≠ p) (hl : s.part.length = n) (h1 : 0 ≤ s.parts) (h2 : s.parts ≤ 64) :
    Tri (graph_walk_shut s (p : Int)) (fun r => r.steps = s.steps ∧ r.num = s.num ∧ r.low = s.low ∧ r.count = s.count ∧ r.parts = s.parts + 1 ∧ r.open_ = O'.map (fun v : Nat => (v : Int)) ∧ r.part.length = n ∧
      ∀ v : Nat, idx r.part (v : Int) = if v = p ∨ v ∈ D then s.parts + 1 else idx s.part (v : Int)) := by
  unfold graph_walk_shut
  refine tri_iter (fun t : List Int × List Int => ∃ D1 D2, D = D1 ++ D2 ∧ t.2 = (O' ++ p :: D1).map (fun v : Nat => (v : Int)) ∧ t.1.length = n ∧ ∀ v : Nat, idx t.1 (v : Int) = if v ∈ D2 then s.parts + 1 else idx s.part (v : Int)) (fun t => t.2.length)
    ⟨D, [], by simp, ho, hl, fun v => by simp⟩ ?_
  rintro ⟨part, op⟩ ⟨D1, D2, e1, i2, i3, i4⟩
  have e2 : op = (O' ++ p :: D1).map (fun v : Nat => (v : Int)) := i2
  have e3 : part.length = n := i3
  have e4 : ∀ v : Nat, idx part (v : Int) = if v ∈ D2 then s.parts + 1 else idx s.part (v : Int) := i4
  clear i2 i3 i4
  have hw : w64 (s.parts + 1) = s.parts + 1 := w64zid (by omega) (by omega)
  obtain ⟨X, y, hX⟩ : ∃ X y, O' ++ p :: D1 = X ++ [y] := ⟨(O' ++ p :: D1).dropLast, (O' ++ p :: D1).getLast (by simp), (List.dropLast_concat_getLast _).symm⟩
  have hop : op = X.map (fun v : Nat => (v : Int)) ++ [(y : Int)] := by rw [e2, hX, List.map_append]; rfl
  have hlen : X.length ≤ 63 := by
    have h1 := congrArg List.length hX
    have h2 := congrArg List.length e1
    simp at h1 h2 hn
    omega
  generalize hXm : X.map (fun v : Nat => (v : Int)) = Xm at hop
  have hXl : Xm.length = X.length := by rw [← hXm]; simp
  have hlast : w64 ((op.length : Int) - 1) = (Xm.length : Int) := by
    rw [hop, List.length_append, w64zid (by simp <;> omega) (by simp <;> omega)]
    simp
  have hy : y < n := by
    have hm : y ∈ O' ++ p :: D1 := by rw [hX]; simp
    rcases D1 with _ | ⟨d, D1⟩
    · have : y = p := by
        have := congrArg List.getLast? hX
        simp at this
        exact this.symm
      rw [this]; exact hp
    · have hyD : y ∈ d :: D1 := by
        have h1 := congrArg List.getLast? hX
        rw [List.getLast?_append, List.getLast?_append] at h1
        simp [List.getLast?_cons_cons] at h1
        exact List.mem_of_getLast? (by rw [h1])
      exact (hD y (by rw [e1]; exact List.mem_append_left _ hyD)).1
  show Tri (must (0 ≤ w64 ((op.length : Int) - 1) ∧ w64 ((op.length : Int) - 1) < (op.length : Int)) (must (0 ≤ (w64 ((op.length : Int) - 1)) ∧ (w64 ((op.length : Int) - 1)) < ((op.length + 1 : Nat) : Int)) (must (0 ≤ idx op (w64 ((op.length : Int) - 1)) ∧ idx op (w64 ((op.length : Int) - 1)) < (part.length : Int)) (bif (idx op (w64 ((op.length : Int) - 1)) == (p : Int)) then out (some (⟨s.steps, s.num, s.low, part.set (idx op (w64 ((op.length : Int) - 1))).toNat (w64 (s.parts + 1)), op.take (w64 ((op.length : Int) - 1)).toNat, s.count, w64 (s.parts + 1)⟩ : GraphWalk)) else (some (.inl (part.set (idx op (w64 ((op.length : Int) - 1))).toNat (w64 (s.parts + 1)), op.take (w64 ((op.length : Int) - 1)).toNat)))))) ) _
  rw [hlast, hw]
  have hidx : idx op (Xm.length : Int) = (y : Int) := by rw [hop]; exact idx_app_last _ _
  have htake : op.take (Xm.length : Int).toNat = Xm := by rw [hop, Int.toNat_natCast]; exact take_app_last _ _
  have hol : op.length = Xm.length + 1 := by rw [hop]; simp
  rw [hidx, htake, Int.toNat_natCast]
  refine tri_must ⟨by omega, by omega⟩ (tri_must ⟨by omega, by omega⟩ (tri_must ⟨by omega, by omega⟩ ?_))
  have hset : ∀ v : Nat, idx (part.set y (s.parts + 1)) (v : Int) = if v = y ∨ v ∈ D2 then s.parts + 1 else idx s.part (v : Int) := fun v => by
    rw [idx_setn (by omega), e4]
    by_cases h1 : v = y <;> by_cases h2 : v ∈ D2 <;> simp [h1, h2]
  rcases List.eq_nil_or_concat D1 with hd | ⟨D0, d, hd⟩
  · subst hd
    have hyp : y = p ∧ X = O' := by
      have := List.append_inj' (s₁ := X) (s₂ := O') (t₁ := [y]) (t₂ := [p]) hX.symm rfl
      exact ⟨by simpa using this.2, this.1⟩
    obtain ⟨rfl, rfl⟩ := hyp
    rw [show ((y : Int) == (y : Int)) = true by simp]
    refine tri_out ⟨_, rfl, rfl, rfl, rfl, rfl, rfl, hXm.symm, by simp [e3], fun v => ?_⟩
    rw [hset v, e1]
    rfl
  · rw [List.concat_eq_append] at hd
    subst hd
    have hyd : y = d ∧ X = O' ++ p :: D0 := by
      have h0 : O' ++ p :: (D0 ++ [d]) = (O' ++ p :: D0) ++ [d] := by simp
      rw [h0] at hX
      have := List.append_inj' hX rfl
      exact ⟨by have := this.2; simp at this; exact this.symm, this.1.symm⟩
    obtain ⟨rfl, rfl⟩ := hyd
    have hne : y ≠ p := (hD y (by rw [e1]; simp)).2
    rw [show ((y : Int) == (p : Int)) = false by simp; omega]
    refine ⟨_, rfl, ⟨D0, y :: D2, by rw [e1]; simp, hXm.symm, by simp [e3], fun v => ?_⟩, ?_⟩
    · rw [hset v]
      simp [List.mem_cons]
    · show Xm.length < op.length
      omega

theorem gMin_eq (x y : Int) : gMin x y = if y < x then y else x := rfl
theorem down_told {n : Nat} {S : Nat → Nat → Prop} {ws : List Int} (hr : Rows ws n S) (hn : n ≤ 64) (hS : ∀ i j, S i j → i < n ∧ j < n) {num low part : List Int} {ct pt : Int} {LF : Nat → Nat → Prop} (h : DJ n S num low part [] [] LF ct pt []) {x : Nat} (hx : x < n) (h0 : idx num (x : Int) = 0) :
    Tri (graph_walk_down ⟨ws, num, low, part, [], ct, pt⟩ (x : Int)) (fun r => r.steps = ws ∧ r.open_ = [] ∧ (∃ LF, DJ n S r.num r.low r.part [] [] LF r.count r.parts []) ∧ idx r.num (x : Int) ≠ 0 ∧ ∀ v : Nat, v < n → idx num (v : Int) ≠ 0 → idx r.num (v : Int) ≠ 0) := by
  have hwl := hr.1
  have hct := h.tj.ct0
  have hpt := h.tj.pt0
  have hz1 := h.z1
  have hz2 := h.z2
  have hz3 := h.z3
  unfold graph_walk_down
  rw [enter_eq (by have := h.ln; show x < num.length; omega) (by have := h.ll; show x < low.length; omega) (by simp) hct (by show ct ≤ 64; omega)]
  show Tri (must (0 ≤ (x : Int) ∧ (x : Int) < (ws.length : Int)) (iter (graph_walk_down.s1) (ws, num.set x (ct + 1), low.set x (ct + 1), part, [(x : Int)], ct + 1, pt, ([(⟨(x : Int), idx ws (x : Int)⟩ : GraphFrame)] : List GraphFrame)))) _
  refine tri_must ⟨by omega, by omega⟩ ?_
  have hzs := zeros_set (l := num) (i := x) (y := ct + 1) (by have := h.ln; omega) h0 (by omega)
  refine tri_iter (fun s : List Int × List Int × List Int × List Int × List Int × Int × Int × List GraphFrame => s.1 = ws ∧ (∃ O W LF, s.2.2.2.2.1 = O.map (fun v : Nat => (v : Int)) ∧ DJ n S s.2.1 s.2.2.1 s.2.2.2.1 O W LF s.2.2.2.2.2.1 s.2.2.2.2.2.2.1 s.2.2.2.2.2.2.2) ∧
      idx s.2.1 (x : Int) ≠ 0 ∧ ∀ v : Nat, v < n → idx num (v : Int) ≠ 0 → idx s.2.1 (v : Int) ≠ 0)
    (fun s => zeros s.2.1 * (2 ^ 64 + 1) + wsum s.2.2.2.2.2.2.2) ?_ ?_
  · refine ⟨rfl, ⟨[x], [x], fun v j => v = x ∧ S x j, rfl, ?_⟩, ?_, ?_⟩
    · refine ⟨?_, by simp [h.ln], by simp [h.ll], h.lp, rfl, ?_, ?_, by show ct + 1 + ((zeros (num.set x (ct + 1)) : Nat) : Int) ≤ (n : Int); omega, by show 1 + zeros (num.set x (ct + 1)) ≤ n; have : 0 + zeros num ≤ n := hz2; omega, by show ((1 : Nat) : Int) + pt + ((zeros (num.set x (ct + 1)) : Nat) : Int) ≤ (n : Int); have : ((0 : Nat) : Int) + pt + (zeros num : Int) ≤ n := hz3; omega⟩
      · have := h.tj.enter hS hx h0 (Or.inl ⟨rfl, rfl⟩) (LF' := fun v j => v = x ∧ S x j) (fun j => ⟨fun h => h.2, fun h => ⟨rfl, h⟩⟩) (fun v hv => by cases hv)
        rw [fun_set (by have := h.ln; omega), fun_set (by have := h.ll; omega)]
        exact this
      · intro f hf
        rw [List.mem_singleton.1 hf]
        exact (hr.2 x hx).congr fun j => ⟨fun h => ⟨by simp, h⟩, fun h => h.2⟩
      · intro v hv j hj
        rw [List.mem_singleton.1 hv]
        exact hj.2
    · show idx (num.set x (ct + 1)) (x : Int) ≠ 0
      rw [idx_setn (by have := h.ln; omega), if_pos rfl]
      omega
    · intro v hv hv0
      show idx (num.set x (ct + 1)) (v : Int) ≠ 0
      rw [idx_setn (by have := h.ln; omega)]
      split <;> omega
  rintro ⟨st, nu, lo, pa, op, c, q, way⟩ ⟨i1, ⟨O, W, L, i2, i5⟩, i3, i4⟩
  have e1 : st = ws := i1
  have e2 : op = O.map (fun v : Nat => (v : Int)) := i2
  have d : DJ n S nu lo pa O W L c q way := i5
  have e3 : idx nu (x : Int) ≠ 0 := i3
  have e4 : ∀ v : Nat, v < n → idx num (v : Int) ≠ 0 → idx nu (v : Int) ≠ 0 := i4
  clear i1 i2 i3 i4 i5
  subst e1
  have c0 := d.tj.ct0
  have q0 := d.tj.pt0
  have y1 := d.z1
  have y2 := d.z2
  have y3 := d.z3
  have ln := d.ln
  have ll := d.ll
  have lp := d.lp
  have hol : op.length = O.length := by rw [e2]; simp
  rcases List.eq_nil_or_concat way with hw | ⟨W0, f, hw⟩
  · subst hw
    have hW : W = [] := by have := d.wy; simp at this; exact this
    subst hW
    have hO : O = [] := by
      rcases O with _ | ⟨v, O⟩
      · rfl
      · obtain ⟨p, hp, _⟩ := d.tj.base v (by simp)
        cases hp
    subst hO
    unfold graph_walk_down.s1
    exact tri_out ⟨_, rfl, rfl, e2, ⟨L, d⟩, e3, e4⟩
  · rw [List.concat_eq_append] at hw
    subst hw
    -- the last of the way
    obtain ⟨V0, p, hV, hp, hV0⟩ : ∃ V0 p, W = V0 ++ [p] ∧ f.node = (p : Nat) ∧ W0.map (·.node) = V0.map (fun v : Nat => (v : Int)) := by
      have := d.wy
      rw [List.map_append] at this
      obtain ⟨V0, V1, h1, h2, h3⟩ := List.map_eq_append_iff.1 this.symm
      obtain ⟨p, rfl, h4⟩ : ∃ p, V1 = [p] ∧ ((p : Nat) : Int) = f.node := by
        rcases V1 with _ | ⟨p, _ | ⟨p', V1⟩⟩
        · simp at h3
        · exact ⟨p, rfl, by simpa using h3⟩
        · simp at h3
      exact ⟨V0, p, h1, h4.symm, h2.symm⟩
    obtain ⟨nd, lf⟩ := f
    have hp : nd = (p : Nat) := hp
    subst hp
    have hpW : p ∈ W := by rw [hV]; simp
    have hpO := d.tj.wO p hpW
    have hpn := ((d.tj.inO p).1 hpO).1
    have hlf : Wd lf (L p) := by have := d.left ⟨(p : Int), lf⟩ (by simp); simpa using this
    have hwl0 : W0.length = V0.length := by have := congrArg List.length hV0; simpa using this
    have hWl : W.length = V0.length + 1 := by rw [hV]; simp
    have hlast : w64 (((W0 ++ [(⟨(p : Int), lf⟩ : GraphFrame)]).length : Int) - 1) = (W0.length : Int) := by
      rw [List.length_append, w64zid (by simp <;> omega) (by simp <;> omega)]
      simp
    have hlw : (W0 ++ [(⟨(p : Int), lf⟩ : GraphFrame)]).length = W0.length + 1 := by simp
    simp only [graph_walk_down.s1, hlast, idx_app_last, Int.toNat_natCast, set_app_last, take_app_last]
    refine tri_bif (fun _ => ?_) (fun hc => by have := of_decide_eq_false hc; omega)
    refine tri_must ⟨by omega, by omega⟩ ?_
    refine tri_bif (fun hl => ?_) (fun hl => ?_)
    · have hl0 : lf ≠ 0 := by simpa using hl
      obtain ⟨k, hk, k64, f0, f1, pk, wk, dec⟩ := hlf.low hl0
      have hsk := d.sub p hpW k pk
      have hkn := (hS p k hsk).2
      refine tri_bind (R := fun y => y = (k : Int)) ?_ ?_
      · unfold bits_TrailingZeros64
        exact tri_must ⟨f0, f1⟩ ⟨_, rfl, by rw [hk]⟩
      rintro y rfl
      generalize hlf' : bAnd .u64 lf (IntKind.wrap .u64 (lf - 1)) = lf' at wk dec ⊢
      have hleft' : ∀ (LF' : Nat → Nat → Prop), (∀ j, LF' p j ↔ L p j ∧ j ≠ k) → (∀ v ∈ V0, ∀ j, LF' v j ↔ L v j) → ∀ g ∈ W0 ++ [(⟨(p : Int), lf'⟩ : GraphFrame)], Wd g.left_ (LF' g.node.toNat) := by
        intro LF' h1 h2 g hg
        rcases List.mem_append.1 hg with hg | hg
        · have hm : g.node ∈ V0.map (fun v : Nat => (v : Int)) := by rw [← hV0]; exact List.mem_map.2 ⟨g, hg, rfl⟩
          obtain ⟨v, hv, hve⟩ := List.mem_map.1 hm
          have hgn : g.node.toNat = v := by rw [← hve]; rfl
          rw [hgn]
          have := d.left g (List.mem_append_left _ hg)
          rw [hgn] at this
          exact this.congr fun j => (h2 v hv j).symm
        · rw [List.mem_singleton.1 hg]
          exact wk.congr fun j => (h1 j).symm
      have hpV0 : p ∉ V0 := fun hm => by
        have := (List.pairwise_append.1 (hV ▸ d.tj.wsrt)).2.2 p hm p (by simp)
        omega
      refine tri_must ⟨by omega, by omega⟩ ?_
      refine tri_bif (fun hnew => ?_) (fun hold => ?_)
      · -- a node that was not seen
        have hk0 : idx nu (k : Int) = 0 := by simpa using hnew
        have hzk := zeros_set (l := nu) (i := k) (y := c + 1) (by omega) hk0 (by omega)
        rw [enter_eq (by show k < nu.length; omega) (by show k < lo.length; omega) (by show op.length ≤ 64; omega) c0 (by show c ≤ 64; omega)]
        show Tri (must (0 ≤ (k : Int) ∧ (k : Int) < (st.length : Int)) (must ((((W0 ++ [(⟨(p : Int), lf'⟩ : GraphFrame)]).length) + 1) * 16 ≤ 140737488355328 ∧ ((W0 ++ [(⟨(p : Int), lf'⟩ : GraphFrame)]).length) + 1 ≤ 9223372036854775807) (graph_walk_down.j2 st (nu.set k (c + 1)) (lo.set k (c + 1)) pa (op ++ [(k : Int)]) (c + 1) q ((W0 ++ [(⟨(p : Int), lf'⟩ : GraphFrame)]) ++ ([(⟨(k : Int), idx st (k : Int)⟩ : GraphFrame)] : List GraphFrame))))) _
        refine tri_must ⟨by omega, by omega⟩ (tri_must ⟨by simp; omega, by simp; omega⟩ ?_)
        have hkO : k ∉ O := fun hm => ((d.tj.inO k).1 hm).2.1 hk0
        have hkW : k ∉ W := fun hm => hkO (d.tj.wO k hm)
        have hpk : p ≠ k := fun e => hkW (e ▸ hpW)
        refine ⟨_, rfl, ⟨rfl, ⟨O ++ [k], W ++ [k], fun v j => if v = k then S k j else if v = p then L p j ∧ j ≠ k else L v j, by rw [e2]; simp, ?_⟩, ?_, ?_⟩, ?_⟩
        · refine ⟨?_, by simp [ln], by simp [ll], lp, ?_, ?_, ?_, by show c + 1 + ((zeros (nu.set k (c + 1)) : Nat) : Int) ≤ (n : Int); omega, by show (O ++ [k]).length + zeros (nu.set k (c + 1)) ≤ n; rw [List.length_append, List.length_singleton]; omega, by show (((W ++ [k]).length : Nat) : Int) + q + ((zeros (nu.set k (c + 1)) : Nat) : Int) ≤ (n : Int); rw [List.length_append, List.length_singleton]; omega⟩
          · have := d.tj.enter hS hkn hk0 (Or.inr ⟨V0, p, hV, hsk⟩) (LF' := fun v j => if v = k then S k j else if v = p then L p j ∧ j ≠ k else L v j) (fun j => by simp) (fun v hv j hj => by
              by_cases e : v = p
              · subst e
                by_cases e' : j = k
                · exact Or.inr ⟨e', hsk⟩
                · left; simp [hpk, hj, e']
              · have : v ≠ k := fun e => hkW (e ▸ hv)
                left; simp [e, this, hj])
            show TJ n S (fun v => idx (nu.set k (c + 1)) (v : Int)) (fun v => idx (lo.set k (c + 1)) (v : Int)) _ _ _ _ _ _
            rw [fun_set (by omega), fun_set (by omega)]
            exact this
          · show ((W0 ++ [(⟨(p : Int), lf'⟩ : GraphFrame)]) ++ [(⟨(k : Int), idx st (k : Int)⟩ : GraphFrame)]).map (·.node) = _
            rw [hV]
            simp [hV0]
          · intro g hg
            rcases List.mem_append.1 hg with hg | hg
            · have := hleft' (fun v j => if v = p then L p j ∧ j ≠ k else L v j) (fun j => by simp) (fun v hv j => by
                have : v ≠ p := fun e => hpV0 (e ▸ hv)
                simp [this]) g hg
              refine this.congr fun j => ?_
              have hgk : g.node.toNat ≠ k := by
                have hm : g.node ∈ W.map (fun v : Nat => (v : Int)) := by
                  rw [hV, List.map_append, ← hV0]
                  rcases List.mem_append.1 hg with hg | hg
                  · exact List.mem_append_left _ (List.mem_map.2 ⟨g, hg, rfl⟩)
                  · rw [List.mem_singleton.1 hg]; simp
                obtain ⟨v, hv, hve⟩ := List.mem_map.1 hm
                rw [← hve, Int.toNat_natCast]
                exact fun e => hkW (e ▸ hv)
              simp [hgk]
            · rw [List.mem_singleton.1 hg]
              exact (hr.2 k hkn).congr fun j => by simp
          · intro v hv j hj
            by_cases e : v = k
            · subst e; simpa using hj
            · have hv : v ∈ W := by
                rcases List.mem_append.1 hv with hv | hv
                · exact hv
                · exact absurd (List.mem_singleton.1 hv) e
              by_cases e' : v = p
              · subst e'
                simp [e] at hj
                exact d.sub v hv j hj.1
              · simp [e, e'] at hj
                exact d.sub v hv j hj
        · show idx (nu.set k (c + 1)) (x : Int) ≠ 0
          rw [idx_setn (by omega)]
          split <;> omega
        · intro v hv hv0
          show idx (nu.set k (c + 1)) (v : Int) ≠ 0
          have := e4 v hv hv0
          rw [idx_setn (by omega)]
          split <;> omega
        · show zeros (nu.set k (c + 1)) * (2 ^ 64 + 1) + wsum ((W0 ++ [(⟨(p : Int), lf'⟩ : GraphFrame)]) ++ [(⟨(k : Int), idx st (k : Int)⟩ : GraphFrame)]) < zeros nu * (2 ^ 64 + 1) + wsum (W0 ++ [(⟨(p : Int), lf⟩ : GraphFrame)])
          rw [wsum_app, wsum_app, wsum_app]
          have hb := (hr.2 k hkn).big
          show zeros (nu.set k (c + 1)) * (2 ^ 64 + 1) + (wsum W0 + (lf'.toNat + 1) + ((idx st (k : Int)).toNat + 1)) < zeros nu * (2 ^ 64 + 1) + (wsum W0 + (lf.toNat + 1))
          rw [← hzk]
          omega
      · have hk0 : idx nu (k : Int) ≠ 0 := by simpa using hold
        have hpk : ∀ v ∈ W, ∀ j, L v j → (if v = p then L p j ∧ j ≠ k else L v j) ∨ (v = p ∧ j = k) := fun v hv j hj => by
          by_cases e : v = p
          · subst e
            by_cases e' : j = k
            · exact Or.inr ⟨rfl, e'⟩
            · left; simp [hj, e']
          · left; simp [e, hj]
        have hsub : ∀ v ∈ W, ∀ j, (if v = p then L p j ∧ j ≠ k else L v j) → S v j := fun v hv j hj => by
          by_cases e : v = p
          · subst e; simp at hj; exact d.sub v hv j hj.1
          · simp [e] at hj; exact d.sub v hv j hj
        have hway : (W0 ++ [(⟨(p : Int), lf'⟩ : GraphFrame)]).map (·.node) = W.map (fun v : Nat => (v : Int)) := by rw [hV]; simp [hV0]
        have hmeas : ∀ z : List Int, zeros z = zeros nu → zeros z * (2 ^ 64 + 1) + wsum (W0 ++ [(⟨(p : Int), lf'⟩ : GraphFrame)]) < zeros nu * (2 ^ 64 + 1) + wsum (W0 ++ [(⟨(p : Int), lf⟩ : GraphFrame)]) := fun z hz => by
          rw [wsum_app, wsum_app, hz]
          show _ + (wsum W0 + (lf'.toNat + 1)) < _ + (wsum W0 + (lf.toNat + 1))
          omega
        refine tri_must ⟨by omega, by omega⟩ ?_
        refine tri_bif (fun hop => ?_) (fun hsh => ?_)
        · have hpa : idx pa (k : Int) = 0 := by simpa using hop
          refine tri_must ⟨by omega, by omega⟩ ?_
          refine ⟨_, rfl, ⟨rfl, ⟨O, W, fun v j => if v = p then L p j ∧ j ≠ k else L v j, e2, ?_⟩, e3, e4⟩, hmeas nu rfl⟩
          refine ⟨?_, ln, by simp [ll], lp, hway, hleft' (fun v j => if v = p then L p j ∧ j ≠ k else L v j) (fun j => by simp) (fun v hv j => ?_), hsub, y1, y2, y3⟩
          · have := d.tj.edge hV hsk hkn hk0 (l := gMin (idx lo (p : Int)) (idx nu (k : Int))) (Or.inr ⟨hpa, rfl⟩) hpk
            show TJ n S _ (fun v => idx (lo.set p (gMin (idx lo (p : Int)) (idx nu (k : Int)))) (v : Int)) _ _ _ _ _ _
            rw [fun_set (by omega)]
            exact this
          · have : v ≠ p := fun e => hpV0 (e ▸ hv)
            simp [this]
        · have hpa : idx pa (k : Int) ≠ 0 := by simpa using hsh
          refine ⟨_, rfl, ⟨rfl, ⟨O, W, fun v j => if v = p then L p j ∧ j ≠ k else L v j, e2, ?_⟩, e3, e4⟩, hmeas nu rfl⟩
          refine ⟨?_, ln, ll, lp, hway, hleft' (fun v j => if v = p then L p j ∧ j ≠ k else L v j) (fun j => by simp) (fun v hv j => ?_), hsub, y1, y2, y3⟩
          · have := d.tj.edge hV hsk hkn hk0 (l := idx lo (p : Int)) (Or.inl ⟨hpa, rfl⟩) hpk
            have e : setf (fun v : Nat => idx lo (v : Int)) p (idx lo (p : Int)) = (fun v : Nat => idx lo (v : Int)) := by
              funext v
              unfold setf
              split
              · rename_i e; rw [e]
              · rfl
            rw [e] at this
            exact this
          · have : v ≠ p := fun e => hpV0 (e ▸ hv)
            simp [this]
    · -- nothing is left of it
      have hl0 : lf = 0 := by simpa using hl
      have hnone : ∀ j, ¬ L p j := hlf.none.1 hl0
      have hmeas : ∀ z : List Int, zeros z = zeros nu → zeros z * (2 ^ 64 + 1) + wsum W0 < zeros nu * (2 ^ 64 + 1) + wsum (W0 ++ [(⟨(p : Int), lf⟩ : GraphFrame)]) := fun z hz => by
        rw [wsum_app, hz]
        omega
      have hleft0 : ∀ g ∈ W0, Wd g.left_ (L g.node.toNat) := fun g hg => d.left g (List.mem_append_left _ hg)
      have hsub0 : ∀ v ∈ V0, ∀ j, L v j → S v j := fun v hv => d.sub v (by rw [hV]; exact List.mem_append_left _ hv)
      refine tri_must ⟨by omega, by omega⟩ ?_
      -- what comes behind: shut, or not
      have tail : ∀ lo1 : List Int, lo1.length = n → (idx lo1 (p : Int) = idx lo (p : Int)) →
          (idx lo (p : Int) = idx nu (p : Int) → ∀ v : Nat, idx lo1 (v : Int) = idx lo (v : Int)) →
          (idx lo (p : Int) ≠ idx nu (p : Int) → TJ n S (fun v => idx nu (v : Int)) (fun v => idx lo1 (v : Int)) (fun v => idx pa (v : Int)) O V0 L c q) →
          Tri (graph_walk_down.j3 st nu pa op c q (W0 ++ [(⟨(p : Int), lf⟩ : GraphFrame)]) lo1)
            (Rnd (fun s : List Int × List Int × List Int × List Int × List Int × Int × Int × List GraphFrame => s.1 = st ∧ (∃ O W LF, s.2.2.2.2.1 = O.map (fun v : Nat => (v : Int)) ∧ DJ n S s.2.1 s.2.2.1 s.2.2.2.1 O W LF s.2.2.2.2.2.1 s.2.2.2.2.2.2.1 s.2.2.2.2.2.2.2) ∧
                idx s.2.1 (x : Int) ≠ 0 ∧ ∀ v : Nat, v < n → idx num (v : Int) ≠ 0 → idx s.2.1 (v : Int) ≠ 0)
              (fun s => zeros s.2.1 * (2 ^ 64 + 1) + wsum s.2.2.2.2.2.2.2) (fun r => r.steps = st ∧ r.open_ = [] ∧ (∃ LF, DJ n S r.num r.low r.part [] [] LF r.count r.parts []) ∧ idx r.num (x : Int) ≠ 0 ∧ ∀ v : Nat, v < n → idx num (v : Int) ≠ 0 → idx r.num (v : Int) ≠ 0)
              (st, nu, lo, pa, op, c, q, W0 ++ [(⟨(p : Int), lf⟩ : GraphFrame)])) := by
        intro lo1 hl1 hsame hall hup
        unfold graph_walk_down.j3
        simp only [hlast, idx_app_last, Int.toNat_natCast, take_app_last]
        refine tri_must ⟨by omega, by omega⟩ (tri_must ⟨by omega, by omega⟩ ?_)
        refine tri_bif (fun hroot => ?_) (fun hroot => ?_)
        · have hroot : idx lo1 (p : Int) = idx nu (p : Int) := by simpa using hroot
          have he : idx lo (p : Int) = idx nu (p : Int) := by rw [← hsame]; exact hroot
          have hlo : (fun v : Nat => idx lo1 (v : Int)) = (fun v : Nat => idx lo (v : Int)) := funext (hall he)
          obtain ⟨O', D, hO⟩ := List.append_of_mem hpO
          have hs := d.tj.srt
          rw [hO] at hs
          have hs1 := (List.pairwise_append.1 hs).2.2
          have hs2 := List.pairwise_cons.1 (List.pairwise_append.1 hs).2.1
          have hOl : (O' ++ p :: D).length ≤ 64 := by rw [← hO]; omega
          have hD : ∀ v ∈ D, v < n ∧ v ≠ p := fun v hv => ⟨((d.tj.inO v).1 (by rw [hO]; simp [hv])).1, fun e => by have := hs2.1 v hv; rw [e] at this; omega⟩
          refine tri_bind (shut_told (n := n) (s := ⟨st, nu, lo1, pa, op, c, q⟩) (by show op = _; rw [e2, hO]) hOl hpn hD lp q0 (by show q ≤ 64; omega)) ?_
          rintro ⟨r1, r2, r3, r4, r5, r6, r7⟩ ⟨i1, i2, i3, i4, i5, i6, i7, i8⟩
          have g1 : r1 = st := i1
          have g2 : r2 = nu := i2
          have g3 : r3 = lo1 := i3
          have g4 : r6 = c := i4
          have g5 : r7 = q + 1 := i5
          have g6 : r5 = O'.map (fun v : Nat => (v : Int)) := i6
          have g7 : r4.length = n := i7
          have g8 : ∀ v : Nat, idx r4 (v : Int) = if v = p ∨ v ∈ D then q + 1 else idx pa (v : Int) := i8
          clear i1 i2 i3 i4 i5 i6 i7 i8
          subst g5
          subst g1 g2 g3 g4
          have hO' : ∀ v, v ∈ O' ↔ v ∈ O ∧ idx r2 (v : Int) < idx r2 (p : Int) := fun v => by
            constructor
            · intro hv
              exact ⟨by rw [hO]; exact List.mem_append_left _ hv, hs1 v hv p (by simp)⟩
            · rintro ⟨h1, h2⟩
              rw [hO] at h1
              rcases List.mem_append.1 h1 with h1 | h1
              · exact h1
              · rcases List.mem_cons.1 h1 with rfl | h1
                · omega
                · have := hs2.1 v h1; omega
          refine ⟨_, rfl, ⟨rfl, ⟨O', V0, L, g6, ?_⟩, e3, e4⟩, hmeas r2 rfl⟩
          refine ⟨?_, ln, hl1, g7, hV0, hleft0, hsub0, y1, ?_, ?_⟩
          · show TJ n S (fun v => idx r2 (v : Int)) (fun v => idx r3 (v : Int)) (fun v => idx r4 (v : Int)) O' V0 L r6 (q + 1)
            rw [hlo]
            refine d.tj.root hS hV hnone he hO' (List.pairwise_append.1 hs).1 fun v hv => ?_
            rw [g8 v]
            have hiff : (v = p ∨ v ∈ D) ↔ (v ∈ O ∧ idx r2 (p : Int) ≤ idx r2 (v : Int)) := by
              constructor
              · rintro (rfl | h1)
                · exact ⟨hpO, Int.le_refl _⟩
                · have := hs2.1 v h1
                  exact ⟨by rw [hO]; simp [h1], by omega⟩
              · rintro ⟨h1, h2⟩
                rw [hO] at h1
                rcases List.mem_append.1 h1 with h1 | h1
                · have := hs1 v h1 p (by simp); omega
                · rcases List.mem_cons.1 h1 with rfl | h1
                  · exact Or.inl rfl
                  · exact Or.inr h1
            by_cases hc : v = p ∨ v ∈ D
            · rw [if_pos hc, if_pos (hiff.1 hc)]
            · rw [if_neg hc, if_neg (fun h => hc (hiff.2 h))]
          · have : O'.length ≤ O.length := by rw [hO]; simp
            show O'.length + zeros r2 ≤ n
            omega
          · show ((V0.length : Nat) : Int) + (q + 1) + ((zeros r2 : Nat) : Int) ≤ (n : Int)
            omega
        · have hroot : idx lo1 (p : Int) ≠ idx nu (p : Int) := by simpa using hroot
          have hne : idx lo (p : Int) ≠ idx nu (p : Int) := by rw [← hsame]; exact hroot
          exact ⟨_, rfl, ⟨rfl, ⟨O, V0, L, e2, ⟨hup hne, ln, hl1, lp, hV0, hleft0, hsub0, y1, y2, by show ((V0.length : Nat) : Int) + q + ((zeros nu : Nat) : Int) ≤ (n : Int); omega⟩⟩, e3, e4⟩, hmeas nu rfl⟩
      rcases List.eq_nil_or_concat V0 with hv0 | ⟨U0, u, hv0⟩
      · subst hv0
        have hW0 : W0 = [] := by simp at hV0; exact hV0
        subst hW0
        refine tri_bif (fun hc => by have := of_decide_eq_true hc; simp at this) (fun _ => ?_)
        refine tail lo ll rfl (fun _ _ => rfl) (fun hne => ?_)
        exfalso
        -- the first of the way is a root
        obtain ⟨w, hw, h1, h2⟩ := d.tj.lowit p hpO
        obtain ⟨b, hb, h3⟩ := d.tj.base w hw
        rw [hV] at hb
        have hb : b = p := by simpa using hb
        subst hb
        have h4 : idx lo (b : Int) ≤ idx nu (b : Int) := d.tj.lole b hpO
        have h1 : idx nu (w : Int) = idx lo (b : Int) := h1
        have h3 : idx nu (b : Int) ≤ idx nu (w : Int) := h3
        omega
      · rw [List.concat_eq_append] at hv0
        subst hv0
        obtain ⟨X0, g, hg, hgu⟩ : ∃ X0 g, W0 = X0 ++ [g] ∧ g.node = ((u : Nat) : Int) := by
          rw [List.map_append] at hV0
          obtain ⟨X0, X1, h1, h2, h3⟩ := List.map_eq_append_iff.1 hV0
          rcases X1 with _ | ⟨g, _ | ⟨g', X1⟩⟩
          · simp at h3
          · exact ⟨X0, g, h1, by simpa using h3⟩
          · simp at h3
        have huW : u ∈ W := by rw [hV]; simp
        have hun := ((d.tj.inO u).1 (d.tj.wO u huW)).1
        have hup : u ≠ p := fun e => by
          have := (List.pairwise_append.1 (hV ▸ d.tj.wsrt)).2.2 u (by simp) p (by simp)
          rw [e] at this; omega
        have hupl : idx nu (u : Int) < idx nu (p : Int) := (List.pairwise_append.1 (hV ▸ d.tj.wsrt)).2.2 u (by simp) p (by simp)
        have hW0l : W0.length = X0.length + 1 := by rw [hg]; simp
        have hlast2 : w64 (((W0.length : Nat) : Int) - 1) = (X0.length : Int) := by
          rw [w64zid (by omega) (by omega)]; omega
        have hidx2 : idx W0 (X0.length : Int) = g := by rw [hg]; exact idx_app_last _ _
        refine tri_bif (fun _ => ?_) (fun hc => by have := of_decide_eq_false hc; omega)
        rw [hlast2, hidx2, hgu]
        refine tri_must ⟨by omega, by omega⟩ (tri_must ⟨by omega, by omega⟩ (tri_must ⟨by omega, by omega⟩ ?_))
        rw [Int.toNat_natCast]
        refine tail _ (by simp [ll]) ?_ ?_ ?_
        · rw [idx_setn (by omega), if_neg (fun e => hup e.symm)]
        · intro he v
          rw [idx_setn (by omega)]
          split
          · rename_i e
            subst e
            have : idx lo (v : Int) ≤ idx nu (v : Int) := d.tj.lole v (d.tj.wO v huW)
            rw [gMin_eq, if_neg (by omega)]
          · rfl
        · intro hne
          have := d.tj.up hV hnone hne
          rw [fun_set (by omega)]
          exact this
end Go.Proofs.YtncapkloanfmnaaDoorT
