/- Histories: that the index finds a history sound just where the document does. -/
import Derived.Test.YtnlkggppokcmfaaTD
import Derived.Test.YtnlkggppokcmfaaI
import Derived.Test.YtnlkggppokcmfaaTPS
namespace Go.Proofs.YtnlkggppokcmfaaT
open Go Go.Proofs Go.Proofs.YtnlkggppokcmfaaE
set_option linter.unusedVariables false
set_option linter.unusedSimpArgs false
def CallOk (c : Call) (k : Int) : Prop :=
  1 ≤ c.Kind ∧ c.Kind ≤ 8 ∧ 1 ≤ c.Key.size ∧ c.Key.size ≤ 32 ∧
    (c.Kind ≤ 4 → c.Got = false ∧ c.Vals.length = 0 ∧ (c.Kind = 4 → -1048576 ≤ c.Arg ∧ c.Arg ≤ 1048576)) ∧
    (5 ≤ c.Kind → c.Arg = 0 ∧ (c.Got = true ↔ k = 1) ∧ (c.Got = false → c.Vals.length = 0) ∧
      (c.Got = true → (c.Kind = 5 → c.Vals.length ≤ 1) ∧ (c.Kind = 8 → c.Vals.length = 1) ∧ (c.Kind = 7 → Asc c.Vals) ∧ c.Vals.length ≤ 64))
theorem empty_iff {k : ByteArray} : k = (⟨#[]⟩ : ByteArray) ↔ k.size = 0 := by
  constructor
  · rintro rfl; rfl
  · intro h
    obtain ⟨a⟩ := k
    have : a = #[] := Array.eq_empty_of_size_eq_zero h
    rw [this]
theorem wire_asc {c : Call} (hs : c.Vals.length < 2 ^ 61) : Tri (iter (wire_sound.s4 c) 1) (fun r => r = true ↔ (c.Kind = 7 → Asc c.Vals)) := by
  refine tri_upm (k0 := 1) (c.Vals.length + 1) (fun k x => x = (k : Int) ∧ 1 ≤ k ∧ ∀ j : Nat, j + 1 < k → j + 1 < c.Vals.length → idx c.Vals (j : Int) < idx c.Vals ((j + 1 : Nat) : Int)) (by omega) ⟨rfl, Nat.le_refl _, fun j h => by omega⟩ ?_
  rintro k x hk ⟨rfl, hk1, hJ⟩
  unfold wire_sound.s4 wire_sound.j5
  dsimp only
  have e := w64zpred (k := k) (by omega) hk1
  have e2 := w64zsucc (k := k) (by omega)
  rw [e, e2]
  repeat' (first | contradiction | with_reducible refine tri_if (fun hq => ?_) (fun hq => ?_) | with_reducible refine tri_must (by first | omega | grind [w64zin]) ?_ | with_reducible refine tri_out ?_ | with_reducible refine tri_sb ?_ | with_reducible refine tri_cb ?_ | with_reducible refine tri_mb ?_ | with_reducible refine tri_bb ?_ | with_reducible refine tri_some ?_)
  · show false = true ↔ _
    have hl : ¬ Asc c.Vals := by
      intro hA
      have := hA (k - 1) (by omega)
      rw [show k - 1 + 1 = k by omega] at this
      omega
    grind
  · refine ⟨by omega, rfl, by omega, fun j hj hl => ?_⟩
    rcases Nat.lt_or_ge (j + 1) k with h3 | h3
    · exact hJ j h3 hl
    · have : j = k - 1 := by omega
      subst this
      rw [show k - 1 + 1 = k by omega]
      omega
  · show true = true ↔ _
    have hl : Asc c.Vals := fun j hj => hJ j (by omega) hj
    grind
  · show true = true ↔ _
    grind
theorem wire_sound_told (c : Call) (k : Int) (hs : c.Vals.length < 2 ^ 61) : Tri (wire_sound c k) (fun r => r = true ↔ CallOk c k) := by
  unfold wire_sound wire_sound.j1 wire_sound.j2 wire_sound.j3 wire_shape CallOk
  simp only [cond_true, cond_false]
  have he := empty_iff (k := c.Key)
  repeat' (first | contradiction | with_reducible refine tri_if (fun hq => ?_) (fun hq => ?_) | with_reducible refine tri_must (by first | omega | grind [w64zin]) ?_ | with_reducible refine tri_out ?_ | with_reducible refine tri_sb ?_ | with_reducible refine tri_cb ?_ | with_reducible refine tri_mb ?_ | with_reducible refine tri_bb ?_ | with_reducible refine tri_some ?_ | refine tri_mono (wire_asc hs) (fun r hr => ?_))
  all_goals grind
theorem ref_asc {c : Call} (hs : c.Vals.length < 2 ^ 61) (hc : c.Kind = 7) : Tri (iter (assizeref03zcall.s4 c) 1) (fun r => r = true ↔ (Asc c.Vals ∧ c.Vals.length ≤ 64)) := by
  refine tri_upm (k0 := 1) (c.Vals.length + 1) (fun k x => x = (k : Int) ∧ 1 ≤ k ∧ ∀ j : Nat, j + 1 < k → j + 1 < c.Vals.length → idx c.Vals (j : Int) < idx c.Vals ((j + 1 : Nat) : Int)) (by omega) ⟨rfl, Nat.le_refl _, fun j h => by omega⟩ ?_
  rintro k x hk ⟨rfl, hk1, hJ⟩
  unfold assizeref03zcall.s4 assizeref03zcall.j3
  dsimp only
  have e := w64zpred (k := k) (by omega) hk1
  have e2 := w64zsucc (k := k) (by omega)
  rw [e, e2]
  repeat' (first | contradiction | with_reducible refine tri_if (fun hq => ?_) (fun hq => ?_) | with_reducible refine tri_must (by first | omega | grind [w64zin]) ?_ | with_reducible refine tri_out ?_ | with_reducible refine tri_sb ?_ | with_reducible refine tri_cb ?_ | with_reducible refine tri_mb ?_ | with_reducible refine tri_bb ?_ | with_reducible refine tri_some ?_)
  · show false = true ↔ _
    have hl : ¬ Asc c.Vals := by
      intro hA
      have := hA (k - 1) (by omega)
      rw [show k - 1 + 1 = k by omega] at this
      omega
    grind
  · refine ⟨by omega, rfl, by omega, fun j hj hl => ?_⟩
    rcases Nat.lt_or_ge j (k - 1) with h3 | h3
    · exact hJ j (by omega) hl
    · have : j = k - 1 := by omega
      subst this
      rw [show k - 1 + 1 = k by omega]
      omega
  · show decide _ = true ↔ _
    have hl : Asc c.Vals := fun j hj => hJ j (by omega) hj
    grind
theorem ref_call_told (c : Call) (k : Int) (hs : c.Vals.length < 2 ^ 61) : Tri (assizeref03zcall c k) (fun r => r = true ↔ CallOk c k) := by
  unfold assizeref03zcall assizeref03zcall.j1 assizeref03zcall.j2 assizeref03zcall.j3 CallOk
  simp only [cond_true, cond_false]
  have ha : c.Vals.length = 0 → Asc c.Vals := fun h j hj => by omega
  repeat' (first | contradiction | with_reducible refine tri_if (fun hq => ?_) (fun hq => ?_) | with_reducible refine tri_must (by first | omega | grind [w64zin]) ?_ | with_reducible refine tri_out ?_ | with_reducible refine tri_sb ?_ | with_reducible refine tri_cb ?_ | with_reducible refine tri_mb ?_ | with_reducible refine tri_bb ?_ | with_reducible refine tri_some ?_ | refine tri_mono (ref_asc hs (by assumption)) (fun r hr => ?_))
  all_goals grind
def Small (l : List Call) : Prop := l.length < 2 ^ 61 ∧ AllI l (fun c => c.Vals.length < 2 ^ 61)
theorem bad_call {l : List Call} {e : Event} (hs : Small l) : Tri (slices_ContainsFunc_Call_wire_Check_1 l e) (fun r => r = true ↔ ¬ AllI l (fun c => CallOk c e.Kind)) := by
  have h1 : Tri (slices_IndexFunc_Call_wire_Check_1 l e) (fun r => 0 ≤ r ↔ ¬ AllI l (fun c => CallOk c e.Kind)) := by
    have hl := hs.1
    unfold slices_IndexFunc_Call_wire_Check_1
    refine tri_all l.length (fun j => CallOk (idx l (j : Int)) e.Kind) ?_
    intro k hk hJ
    unfold slices_IndexFunc_Call_wire_Check_1.s1 wire_Check_1
    dsimp only
    repeat' (first | contradiction | with_reducible refine tri_if (fun hq => ?_) (fun hq => ?_) | with_reducible refine tri_must (by first | omega | grind [w64zin]) ?_ | with_reducible refine tri_out ?_ | with_reducible refine tri_sb ?_ | with_reducible refine tri_cb ?_ | with_reducible refine tri_mb ?_ | with_reducible refine tri_bb ?_ | with_reducible refine tri_some ?_ | refine tri_bind (wire_sound_told _ _ (hs.2 k (by omega))) (fun r hr => ?_))
    all_goals grind [Nxt, AllI, w64zin]
  unfold slices_ContainsFunc_Call_wire_Check_1
  refine tri_bind h1 (fun r hr => ?_)
  repeat' (first | contradiction | with_reducible refine tri_if (fun hq => ?_) (fun hq => ?_) | with_reducible refine tri_must (by first | omega | grind [w64zin]) ?_ | with_reducible refine tri_out ?_ | with_reducible refine tri_sb ?_ | with_reducible refine tri_cb ?_ | with_reducible refine tri_mb ?_ | with_reducible refine tri_bb ?_ | with_reducible refine tri_some ?_)
  grind
def EvOk (e : Event) : Prop := 0 ≤ e.Kind ∧ e.Kind ≤ 3 ∧ e.Calls.length ≤ 16 ∧ AllI e.Calls (fun c => CallOk c e.Kind)
theorem wire_Check_told {e : Event} (hs : Small e.Calls) : Tri (wire_Check [e]) (fun r => (r = 0 ↔ EvOk e) ∧ (r = 0 ∨ r = 1)) := by
  unfold wire_Check
  refine tri_if (fun h => ?_) (fun h => ?_)
  · simp at h
  · refine tri_all 1 (fun j => EvOk e) ?_
    intro k hk hJ
    unfold wire_Check.s1 wire_Check.j2
    dsimp only
    have hi : k = 0 → idx [e] (k : Int) = e := by rintro rfl; rfl
    simp only [cond_true, cond_false]
    have hc := fun h : k = 0 => bad_call (l := e.Calls) (e := e) hs
    by_cases h0 : k = 0
    · rw [hi h0]
      repeat' (first | contradiction | with_reducible refine tri_if (fun hq => ?_) (fun hq => ?_) | with_reducible refine tri_must (by first | omega | grind [w64zin]) ?_ | with_reducible refine tri_out ?_ | with_reducible refine tri_sb ?_ | with_reducible refine tri_cb ?_ | with_reducible refine tri_mb ?_ | with_reducible refine tri_bb ?_ | with_reducible refine tri_some ?_ | refine tri_bind (hc h0) (fun r hr => ?_))
      all_goals grind [Nxt, EvOk, w64zin]
    · repeat' (first | contradiction | with_reducible refine tri_if (fun hq => ?_) (fun hq => ?_) | with_reducible refine tri_must (by first | omega | grind [w64zin]) ?_ | with_reducible refine tri_out ?_ | with_reducible refine tri_sb ?_ | with_reducible refine tri_cb ?_ | with_reducible refine tri_mb ?_ | with_reducible refine tri_bb ?_ | with_reducible refine tri_some ?_ | refine tri_bind (hc (by grind)) (fun r hr => ?_))
      all_goals grind [Nxt, EvOk, w64zin]
theorem ref_sound_told {e : Event} (hs : Small e.Calls) : Tri (assizeref03zsound e) (fun r => r = true ↔ EvOk e) := by
  unfold assizeref03zsound assizeref03zsound.j1
  simp only [cond_true, cond_false]
  have hl := hs.1
  have h1 : Tri (iter (assizeref03zsound.s2 e) 0) (fun r => r = true ↔ AllI e.Calls (fun c => CallOk c e.Kind)) := by
    refine tri_all e.Calls.length (fun j => CallOk (idx e.Calls (j : Int)) e.Kind) ?_
    intro k hk hJ
    unfold assizeref03zsound.s2
    dsimp only
    repeat' (first | contradiction | with_reducible refine tri_if (fun hq => ?_) (fun hq => ?_) | with_reducible refine tri_must (by first | omega | grind [w64zin]) ?_ | with_reducible refine tri_out ?_ | with_reducible refine tri_sb ?_ | with_reducible refine tri_cb ?_ | with_reducible refine tri_mb ?_ | with_reducible refine tri_bb ?_ | with_reducible refine tri_some ?_ | refine tri_bind (ref_call_told _ _ (hs.2 k (by omega))) (fun r hr => ?_))
    all_goals grind [Nxt, AllI, w64zin]
  repeat' (first | contradiction | with_reducible refine tri_if (fun hq => ?_) (fun hq => ?_) | with_reducible refine tri_must (by first | omega | grind [w64zin]) ?_ | with_reducible refine tri_out ?_ | with_reducible refine tri_sb ?_ | with_reducible refine tri_cb ?_ | with_reducible refine tri_mb ?_ | with_reducible refine tri_bb ?_ | with_reducible refine tri_some ?_ | refine tri_mono h1 (fun r hr => ?_))
  all_goals grind [EvOk]
theorem ref_Check_told3 {e : Event} (hs : Small e.Calls) : Tri (assizeref03zCheck [e]) (fun r => (r = 0 ↔ EvOk e) ∧ (r = 0 ∨ r = 1)) := by
  unfold assizeref03zCheck
  refine tri_if (fun h => ?_) (fun h => ?_)
  · simp at h
  · refine tri_all 1 (fun j => EvOk e) ?_
    intro k hk hJ
    unfold assizeref03zCheck.s1
    dsimp only
    have hi : k = 0 → idx [e] (k : Int) = e := by rintro rfl; rfl
    have hc : k = 0 → Tri (assizeref03zsound (idx [e] (k : Int))) (fun r => r = true ↔ EvOk e) := fun h0 => by rw [hi h0]; exact ref_sound_told hs
    repeat' (first | contradiction | with_reducible refine tri_if (fun hq => ?_) (fun hq => ?_) | with_reducible refine tri_must (by first | omega | grind [w64zin]) ?_ | with_reducible refine tri_out ?_ | with_reducible refine tri_sb ?_ | with_reducible refine tri_cb ?_ | with_reducible refine tri_mb ?_ | with_reducible refine tri_bb ?_ | with_reducible refine tri_some ?_ | refine tri_bind (hc (by grind)) (fun r hr => ?_))
    all_goals grind [Nxt, w64zin]
def callOf (h : History) (o : Op) : Call := ⟨o.Kind, idx h.Keys o.Key, o.Arg, o.Got, o.Vals⟩
def callsOf (h : History) (t : Txn) : List Call := t.Ops.map (callOf h)
def evOf (h : History) (t : Txn) : Event := ⟨0, t.Status, callsOf h t⟩
def KeysOk (h : History) (t : Txn) : Prop := AllI t.Ops (fun o => 0 ≤ o.Key ∧ o.Key < (h.Keys.length : Int))
def TSmall (t : Txn) : Prop := t.Ops.length * 56 ≤ 140737488351232 ∧ AllI t.Ops (fun o => o.Vals.length * 8 ≤ 140737488351232)
theorem TSmall.small {h : History} {t : Txn} (hs : TSmall t) (k : Nat) : Small ((callsOf h t).take k) := by
  have h1 := hs.1
  refine ⟨by simp [callsOf]; omega, fun j hj => ?_⟩
  have hj' : j < k ∧ j < t.Ops.length := by simp [callsOf] at hj; omega
  rw [idx_take hj'.1, callsOf, idx_map hj'.2]
  have := hs.2 j hj'.2
  show (idx t.Ops (j : Int)).Vals.length < _
  omega
theorem index_calls_told {h : History} {t : Txn} (hs : TSmall t) : Tri (index_calls h t) (fun r => (r.2 = true ↔ KeysOk h t ∧ EvOk (evOf h t)) ∧ (r.2 = true → r.1 = evOf h t)) := by
  unfold index_calls
  have hl := hs.1
  refine tri_up2 t.Ops.length (fun k l => l = (callsOf h t).take k ∧ ∀ j : Nat, j < k → 0 ≤ (idx t.Ops (j : Int)).Key ∧ (idx t.Ops (j : Int)).Key < (h.Keys.length : Int)) ⟨rfl, by omega⟩ ?_
  rintro k l hk ⟨rfl, hJ⟩
  have hlen : ((callsOf h t).take k).length = k := by simp [callsOf]; omega
  unfold index_calls.s1 index_calls.j3 index_calls.j2
  simp only [cond_true, cond_false, hlen]
  have hsm := wire_Check_told (e := ⟨0, t.Status, (callsOf h t).take k⟩) (hs.small k)
  have hfull : k = t.Ops.length → (callsOf h t).take k = callsOf h t := fun e => List.take_of_length_le (by simp [callsOf]; omega)
  have hnext : k < t.Ops.length → (callsOf h t).take (k + 1) = (callsOf h t).take k ++ [callOf h (idx t.Ops (k : Int))] := fun hk => by
    rw [take_succ (by simpa [callsOf] using hk), callsOf, idx_map hk]
  repeat' (first | contradiction | with_reducible refine tri_if (fun hq => ?_) (fun hq => ?_) | with_reducible refine tri_must (by first | omega | grind [w64zin]) ?_ | with_reducible refine tri_out ?_ | with_reducible refine tri_sb ?_ | with_reducible refine tri_cb ?_ | with_reducible refine tri_mb ?_ | with_reducible refine tri_bb ?_ | with_reducible refine tri_some ?_ | refine tri_bind hsm (fun r hr => ?_))
  all_goals grind [Up2, KeysOk, AllI, w64zin, callOf, evOf]
def FreeI (l : List Txn) (i : Nat) : Prop := ∀ j : Nat, j < i → ¬ ((idx l (j : Int)).Proc = (idx l (i : Int)).Proc ∧ ((idx l (j : Int)).To = -1 ∨ (idx l (j : Int)).To ≥ (idx l (i : Int)).From))
def PlacedAt (l : List Txn) (i : Nat) : Prop :=
  1 ≤ (idx l (i : Int)).Status ∧ (idx l (i : Int)).Status ≤ 3 ∧ 0 ≤ (idx l (i : Int)).From ∧ ((idx l (i : Int)).To = -1 → (idx l (i : Int)).Status = 3) ∧
    ((idx l (i : Int)).To ≠ -1 → (idx l (i : Int)).From < (idx l (i : Int)).To) ∧ (0 < i → (idx l ((i - 1 : Nat) : Int)).From < (idx l (i : Int)).From) ∧ FreeI l i
theorem free_told {l : List Txn} {i : Nat} (hi : i < l.length) (hl : l.length < 2 ^ 61) : Tri (slices_ContainsFunc_Txn_index_placed_1 (subl l 0 (i : Int)) (idx l (i : Int))) (fun r => r = true ↔ ¬ FreeI l i) := by
  have h1 : Tri (slices_IndexFunc_Txn_index_placed_1 (subl l 0 (i : Int)) (idx l (i : Int))) (fun r => 0 ≤ r ↔ ¬ FreeI l i) := by
    rw [subl_front (by omega)]
    unfold slices_IndexFunc_Txn_index_placed_1
    have ht : (l.take i).length = i := by simp; omega
    refine tri_all i (fun j => ¬ ((idx l (j : Int)).Proc = (idx l (i : Int)).Proc ∧ ((idx l (j : Int)).To = -1 ∨ (idx l (j : Int)).To ≥ (idx l (i : Int)).From))) ?_
    intro k hk hJ
    unfold slices_IndexFunc_Txn_index_placed_1.s1 index_placed_1
    dsimp only
    rw [ht]
    have hx : k < i → idx (l.take i) (k : Int) = idx l (k : Int) := fun h => idx_take h
    repeat' (first | contradiction | with_reducible refine tri_if (fun hq => ?_) (fun hq => ?_) | with_reducible refine tri_must (by first | omega | grind [w64zin]) ?_ | with_reducible refine tri_out ?_ | with_reducible refine tri_sb ?_ | with_reducible refine tri_cb ?_ | with_reducible refine tri_mb ?_ | with_reducible refine tri_bb ?_ | with_reducible refine tri_some ?_)
    all_goals grind [Nxt, FreeI, w64zin]
  unfold slices_ContainsFunc_Txn_index_placed_1
  refine tri_bind h1 (fun r hr => ?_)
  repeat' (first | contradiction | with_reducible refine tri_if (fun hq => ?_) (fun hq => ?_) | with_reducible refine tri_must (by first | omega | grind [w64zin]) ?_ | with_reducible refine tri_out ?_ | with_reducible refine tri_sb ?_ | with_reducible refine tri_cb ?_ | with_reducible refine tri_mb ?_ | with_reducible refine tri_bb ?_ | with_reducible refine tri_some ?_)
  grind
theorem index_placed_told {l : List Txn} {i : Nat} (hi : i < l.length) (hl : l.length < 2 ^ 61) : Tri (index_placed (subl l 0 (i : Int)) (idx l (i : Int))) (fun r => r = true ↔ PlacedAt l i) := by
  have hf := free_told hi hl
  have hlen : (subl l 0 (i : Int)).length = i := by rw [subl_front (by omega)]; simp; omega
  have hx : 0 < i → idx (subl l 0 (i : Int)) (w64 ((i : Int) - 1)) = idx l ((i - 1 : Nat) : Int) := fun h => by
    rw [w64zpred (by omega) (by omega), subl_front (by omega), idx_take (by omega)]
  have hw : 0 < i → w64 ((i : Int) - 1) = ((i - 1 : Nat) : Int) := fun h => w64zpred (by omega) (by omega)
  unfold index_placed index_placed.j3 index_placed.j4 index_placed.j1 index_placed.j2 PlacedAt
  simp only [cond_true, cond_false, hlen]
  repeat' (first | contradiction | with_reducible refine tri_if (fun hq => ?_) (fun hq => ?_) | with_reducible refine tri_must (by first | omega | grind [w64zin]) ?_ | with_reducible refine tri_out ?_ | with_reducible refine tri_sb ?_ | with_reducible refine tri_cb ?_ | with_reducible refine tri_mb ?_ | with_reducible refine tri_bb ?_ | with_reducible refine tri_some ?_ | refine tri_bind hf (fun r hr => ?_))
  all_goals grind
theorem ref_placed_told {l : List Txn} {i : Nat} (hi : i < l.length) (hl : l.length < 2 ^ 61) : Tri (assizeref05zplaced l (i : Int)) (fun r => r = true ↔ PlacedAt l i) := by
  have h1 : Tri (iter (assizeref05zplaced.s3 l (i : Int)) 0) (fun r => r = true ↔ FreeI l i) := by
    refine tri_all i (fun j => ¬ ((idx l (j : Int)).Proc = (idx l (i : Int)).Proc ∧ ((idx l (j : Int)).To = -1 ∨ (idx l (j : Int)).To ≥ (idx l (i : Int)).From))) ?_
    intro k hk hJ
    unfold assizeref05zplaced.s3 assizeref05zplaced.j4
    simp only [cond_true, cond_false]
    repeat' (first | contradiction | with_reducible refine tri_if (fun hq => ?_) (fun hq => ?_) | with_reducible refine tri_must (by first | omega | grind [w64zin]) ?_ | with_reducible refine tri_out ?_ | with_reducible refine tri_sb ?_ | with_reducible refine tri_cb ?_ | with_reducible refine tri_mb ?_ | with_reducible refine tri_bb ?_ | with_reducible refine tri_some ?_)
    all_goals grind [Nxt, FreeI, w64zin]
  have hw : 0 < i → w64 ((i : Int) - 1) = ((i - 1 : Nat) : Int) := fun h => w64zpred (by omega) (by omega)
  unfold assizeref05zplaced assizeref05zplaced.j1 assizeref05zplaced.j2 PlacedAt
  simp only [cond_true, cond_false]
  repeat' (first | contradiction | with_reducible refine tri_if (fun hq => ?_) (fun hq => ?_) | with_reducible refine tri_must (by first | omega | grind [w64zin]) ?_ | with_reducible refine tri_out ?_ | with_reducible refine tri_sb ?_ | with_reducible refine tri_cb ?_ | with_reducible refine tri_mb ?_ | with_reducible refine tri_bb ?_ | with_reducible refine tri_some ?_ | refine tri_mono h1 (fun r hr => ?_))
  all_goals grind
def FirstAt (l : List ByteArray) (s : ByteArray) (r : Int) : Prop :=
  (r = -1 ∧ ∀ j : Nat, j < l.length → idx l (j : Int) ≠ s) ∨ (∃ k : Nat, r = (k : Int) ∧ k < l.length ∧ idx l (k : Int) = s ∧ ∀ j : Nat, j < k → idx l (j : Int) ≠ s)
theorem find_told {l : List ByteArray} {s : ByteArray} (hl : l.length < 2 ^ 61) : Tri (assizeref05zfind l s) (FirstAt l s) := by
  unfold assizeref05zfind
  refine tri_all l.length (fun j => idx l (j : Int) ≠ s) ?_
  intro k hk hJ
  unfold assizeref05zfind.s1
  dsimp only
  repeat' (first | contradiction | with_reducible refine tri_if (fun hq => ?_) (fun hq => ?_) | with_reducible refine tri_must (by first | omega | grind [w64zin]) ?_ | with_reducible refine tri_out ?_ | with_reducible refine tri_sb ?_ | with_reducible refine tri_cb ?_ | with_reducible refine tri_mb ?_ | with_reducible refine tri_bb ?_ | with_reducible refine tri_some ?_)
  · exact .inr ⟨k, rfl, by omega, by assumption, hJ⟩
  · grind [Nxt, w64zin]
  · exact .inl ⟨rfl, fun j hj => hJ j (by omega)⟩
def NameAt (l : List ByteArray) (i : Nat) : Prop := 1 ≤ (idx l (i : Int)).size ∧ (idx l (i : Int)).size ≤ 32 ∧ ∀ j : Nat, j < i → idx l (j : Int) ≠ idx l (i : Int)
def NamesOk (l : List ByteArray) : Prop := l.length ≤ 32 ∧ ∀ i : Nat, i < l.length → NameAt l i
theorem contains_told {l : List ByteArray} {s : ByteArray} (hl : l.length < 2 ^ 61) : Tri (slices_Contains_string l s) (fun r => r = true ↔ ∃ j : Nat, j < l.length ∧ idx l (j : Int) = s) := by
  have h1 : Tri (slices_Index_string l s) (fun r => 0 ≤ r ↔ ∃ j : Nat, j < l.length ∧ idx l (j : Int) = s) := by
    unfold slices_Index_string
    refine tri_all l.length (fun j => idx l (j : Int) ≠ s) ?_
    intro k hk hJ
    unfold slices_Index_string.s1
    dsimp only
    repeat' (first | contradiction | with_reducible refine tri_if (fun hq => ?_) (fun hq => ?_) | with_reducible refine tri_must (by first | omega | grind [w64zin]) ?_ | with_reducible refine tri_out ?_ | with_reducible refine tri_sb ?_ | with_reducible refine tri_cb ?_ | with_reducible refine tri_mb ?_ | with_reducible refine tri_bb ?_ | with_reducible refine tri_some ?_)
    all_goals grind [Nxt, w64zin]
  unfold slices_Contains_string
  refine tri_bind h1 (fun r hr => ?_)
  repeat' (first | contradiction | with_reducible refine tri_if (fun hq => ?_) (fun hq => ?_) | with_reducible refine tri_must (by first | omega | grind [w64zin]) ?_ | with_reducible refine tri_out ?_ | with_reducible refine tri_sb ?_ | with_reducible refine tri_cb ?_ | with_reducible refine tri_mb ?_ | with_reducible refine tri_bb ?_ | with_reducible refine tri_some ?_)
  grind
theorem names_told {l : List ByteArray} (hl : l.length < 2 ^ 61) : Tri (assizeref05znames l) (fun r => r = true ↔ NamesOk l) := by
  unfold assizeref05znames
  refine tri_all l.length (NameAt l) ?_
  intro k hk hJ
  unfold assizeref05znames.s1 assizeref05znames.j2
  simp only [cond_true, cond_false]
  have hf : Tri (assizeref05zfind (subl l 0 (k : Int)) (idx l (k : Int))) (fun r => 0 ≤ r ↔ ∃ j : Nat, j < k ∧ idx l (j : Int) = idx l (k : Int)) := by
    rw [subl_front (by omega)]
    refine tri_mono (find_told (by simp; omega)) (fun r hr => ?_)
    have ht : (l.take k).length = k := by simp; omega
    have hx : ∀ j : Nat, j < k → idx (l.take k) (j : Int) = idx l (j : Int) := fun j h => idx_take h
    unfold FirstAt at hr
    rw [ht] at hr
    grind
  have hN : NamesOk l → k < l.length → NameAt l k := fun h hk => h.2 k hk
  repeat' (first | contradiction | with_reducible refine tri_if (fun hq => ?_) (fun hq => ?_) | with_reducible refine tri_must (by first | omega | grind [w64zin]) ?_ | with_reducible refine tri_out ?_ | with_reducible refine tri_sb ?_ | with_reducible refine tri_cb ?_ | with_reducible refine tri_mb ?_ | with_reducible refine tri_bb ?_ | with_reducible refine tri_some ?_ | refine tri_bind hf (fun r hr => ?_))
  all_goals (have hNk : NameAt l k ↔ (1 ≤ (idx l (k : Int)).size ∧ (idx l (k : Int)).size ≤ 32 ∧ ∀ j : Nat, j < k → idx l (j : Int) ≠ idx l (k : Int)) := Iff.rfl)
  all_goals grind [Nxt, NamesOk, w64zin]
end Go.Proofs.YtnlkggppokcmfaaT
