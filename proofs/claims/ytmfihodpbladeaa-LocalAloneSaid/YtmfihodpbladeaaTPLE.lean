/- What a transaction says of itself hangs on it alone. -/
import Derived.Test.YtmfihodpbladeaaTPLC
namespace Go.Proofs.YtmfihodpbladeaaT
open Go Go.Proofs Go.Proofs.YtmfihodpbladeaaE
set_option linter.unusedVariables false
set_option linter.unusedSimpArgs false

theorem whos_zero {E : List (Call × Int)} {s : ByteArray} {w : Int} (h : ∀ e ∈ E, e.2 = w) : whos E s = [] ∨ whos E s = [w] := by
  unfold whos
  have gen : ∀ (E : List (Call × Int)) (l : List Int), (∀ e ∈ E, e.2 = w) → (l = [] ∨ l = [w]) → E.foldl (fun l e => whosStep l e.1 e.2 s) l = [] ∨ E.foldl (fun l e => whosStep l e.1 e.2 s) l = [w] := by
    intro E
    induction E with
    | nil => intro l _ hl; exact hl
    | cons e E ih =>
      intro l he hl
      refine ih _ (fun e' h' => he e' (List.mem_cons_of_mem _ h')) ?_
      have h0 := he e (List.mem_cons_self ..)
      unfold whosStep
      dsimp only
      rw [h0]
      rcases hl with rfl | rfl
      · split
        · right; rfl
        · left; rfl
      · have : ¬ (e.1.Kind = 4 ∧ e.1.Key = s ∧ (([w] : List Int).length = 0 ∨ idx [w] ((([w] : List Int).length - 1 : Nat) : Int) ≠ w)) := by
          rintro ⟨_, _, h | h⟩
          · exact absurd h (by simp)
          · exact h rfl
        rw [if_neg this]
        right; rfl
  exact gen E [] h (.inl rfl)
/-- a history of one transaction of another -/
def one (h : History) (t : Int) : History := ⟨h.Keys, [idx h.Txns t]⟩
theorem one_ents {h : History} {k : Nat} : entUp (one h (k : Int)) 1 = (callsOf h (idx h.Txns (k : Int))).map (fun c => (c, (0 : Int))) := by
  rw [show (1 : Nat) = 0 + 1 from rfl, entUp_succ]
  rfl
theorem one_sound {h : History} (hS : Sound h) {k : Nat} (hk : k < h.Txns.length) : Sound (one h (k : Int)) := by
  have ht := hS.txn k hk
  refine ⟨hS.names, by simp [one], ?_, ?_⟩
  · intro i hi
    have hi : i = 0 := by simpa [one] using hi
    subst hi
    obtain ⟨⟨p1, p2, p3, p4, p5, p6, p7⟩, q, r⟩ := ht
    exact ⟨⟨p1, p2, p3, p4, p5, fun h => absurd h (by omega), fun j hj => absurd hj (by omega)⟩, q, r⟩
  · show EntsOk [] (entUp (one h (k : Int)) 1)
    rw [one_ents]
    have hsp : ∀ n : Nat, k + 1 ≤ n → EntsOk [] (entUp h n) → EntsOk (entUp h k) (entOf h k) := by
      intro n
      induction n with
      | zero => intro h; omega
      | succ n ih =>
        intro hn hE
        rw [entUp_succ, EntsOk.append] at hE
        rcases Nat.lt_or_ge k n with h1 | h1
        · exact ih (by omega) hE.1
        · rw [show n = k by omega] at hE
          exact hE.2
    have hE := hsp _ hk hS.ents
    unfold entOf at hE
    generalize callsOf h (idx h.Txns (k : Int)) = l at hE
    intro j hj
    have hj : j < l.length := by simpa using hj
    have hE := hE j (by simpa using hj)
    rw [idx_map hj] at hE ⊢
    dsimp only at hE ⊢
    obtain ⟨h1, h2, h3⟩ := hE
    have hmem : ∀ e ∈ [] ++ (l.map (fun c => (c, (0 : Int)))).take j, (e.1, (k : Int)) ∈ entUp h k ++ (l.map (fun c => (c, (k : Int)))).take j ∧ e.2 = 0 := by
      intro e he
      rw [List.nil_append, ← List.map_take] at he
      obtain ⟨c, hc, rfl⟩ := List.mem_map.1 he
      refine ⟨List.mem_append_right _ ?_, rfl⟩
      rw [← List.map_take]
      exact List.mem_map.2 ⟨c, hc, rfl⟩
    refine ⟨fun e he hs => h1 (e.1, (k : Int)) (hmem e he).1 hs, fun h23 e he hs h23' => h2 h23 (e.1, (k : Int)) (hmem e he).1 hs h23', fun _ => ?_⟩
    rw [List.nil_append] at hmem ⊢
    have hz : whosStep (whos ((l.map (fun c => (c, (0 : Int)))).take j) (idx l (j : Int)).Key) (idx l (j : Int)) 0 (idx l (j : Int)).Key = whos ((l.map (fun c => (c, (0 : Int)))).take j ++ [(idx l (j : Int), 0)]) (idx l (j : Int)).Key := whos_snoc.symm
    rw [hz]
    rcases whos_zero (E := (l.map (fun c => (c, (0 : Int)))).take j ++ [(idx l (j : Int), 0)]) (s := (idx l (j : Int)).Key) (w := 0) (fun e he => by
      rcases List.mem_append.1 he with he | he
      · exact (hmem e he).2
      · rw [List.mem_singleton] at he; rw [he]) with e | e <;> rw [e] <;> simp
theorem asksUp_txn {ops : List Op} {t : Int} {n : Nat} : asksUp ops t n = (asksUp ops 0 n).map (fun a => ⟨t, a.Place, a.Key, a.Base⟩) := by
  unfold asksUp
  rw [List.map_flatMap]
  congr 1
  funext p
  unfold askAt
  dsimp only
  split
  · rfl
  · split
    · rfl
    · split <;> rfl
theorem spotsUp_txn {ops : List Op} {t : Int} {n : Nat} : spotsUp ops t n = (spotsUp ops 0 n).map (fun a => ⟨t, a.Place⟩) := by
  unfold spotsUp
  rw [List.map_flatMap]
  congr 1
  funext p
  unfold spotAt
  dsimp only
  split
  · rfl
  · split
    · rfl
    · split <;> rfl
theorem asksUp_zero {ops : List Op} {n : Nat} : ∀ a ∈ asksUp ops 0 n, a.Txn = 0 := by
  intro a ha
  rw [asksUp_txn] at ha
  obtain ⟨b, _, rfl⟩ := List.mem_map.1 ha
  rfl
theorem spotsUp_zero {ops : List Op} {n : Nat} : ∀ a ∈ spotsUp ops 0 n, a.Txn = 0 := by
  intro a ha
  rw [spotsUp_txn] at ha
  obtain ⟨b, _, rfl⟩ := List.mem_map.1 ha
  rfl
theorem one_asks {h : History} {k : Nat} : asksOf h (k : Int) = (asksOf (one h (k : Int)) 0).map (fun a => ⟨(k : Int), a.Place, a.Key, a.Base⟩) ∧ spotsOf h (k : Int) = (spotsOf (one h (k : Int)) 0).map (fun a => ⟨(k : Int), a.Place⟩) ∧
    (∀ a ∈ asksOf (one h (k : Int)) 0, a.Txn = 0) ∧ (∀ a ∈ spotsOf (one h (k : Int)) 0, a.Txn = 0) := by
  have e : idx (one h (k : Int)).Txns 0 = idx h.Txns (k : Int) := rfl
  unfold asksOf spotsOf
  rw [e]
  split
  · exact ⟨asksUp_txn, spotsUp_txn, asksUp_zero, spotsUp_zero⟩
  · simp
theorem alone_told {a a' : List Ask} {b b' : List Spot} {k : Int} (ha : a = a'.map (fun x => ⟨k, x.Place, x.Key, x.Base⟩)) (hb : b = b'.map (fun x => ⟨k, x.Place⟩)) (ha0 : ∀ x ∈ a', x.Txn = 0) (hb0 : ∀ x ∈ b', x.Txn = 0)
    (hl : a'.length < 2 ^ 61) (hl2 : b'.length < 2 ^ 61) (hv : AllI a' (fun x => x.Base.length < 2 ^ 62)) (e e' : Int) : iter (assizelaw09zLocalAlone.s3 (a, b, e) (a', b', e')) 0 = some true := by
  have l1 : a.length = a'.length := by rw [ha]; simp
  have l2 : b.length = b'.length := by rw [hb]; simp
  refine tri_eq.1 ?_
  refine tri_all a'.length (fun _ => True) ?_
  intro i hi _
  have hw : w64 ((i : Int) + 1) = ((i + 1 : Nat) : Int) := w64zsucc (by omega)
  unfold assizelaw09zLocalAlone.s3 assizelaw09zLocalAlone.j4
  simp only [cond_true, cond_false, hw, l1]
  refine tri_if (fun hi1 => ?_) (fun hi1 => ?_)
  · have hi2 : i < a'.length := by omega
    have h0 : (idx a' (i : Int)).Txn = 0 := ha0 _ (by rw [idx_eq rfl hi2]; exact List.getElem_mem hi2)
    have he : idx a (i : Int) = ⟨k, (idx a' (i : Int)).Place, (idx a' (i : Int)).Key, (idx a' (i : Int)).Base⟩ := by rw [ha, idx_map hi2]
    have hs := SameVals_told (b := (idx a' (i : Int)).Base) (hv i hi2)
    rw [he]
    repeat' (first | contradiction | with_reducible refine tri_if (fun hq => ?_) (fun hq => ?_) | with_reducible refine tri_must (by first | omega | grind [w64zin]) ?_ | with_reducible refine tri_out ?_ | with_reducible refine tri_sb ?_ | with_reducible refine tri_cb ?_ | with_reducible refine tri_mb ?_ | with_reducible refine tri_bb ?_ | with_reducible refine tri_some ?_ | refine tri_bnd hs ?_)
    all_goals grind [Nxt]
  · refine tri_all b'.length (fun _ => True) ?_
    intro j hj _
    have hwj : w64 ((j : Int) + 1) = ((j + 1 : Nat) : Int) := w64zsucc (by omega)
    unfold assizelaw09zLocalAlone.s5 assizelaw09zLocalAlone.j6
    simp only [cond_true, cond_false, hwj, l2]
    refine tri_if (fun hj1 => ?_) (fun hj1 => ?_)
    · have hj2 : j < b'.length := by omega
      have h0 : (idx b' (j : Int)).Txn = 0 := hb0 _ (by rw [idx_eq rfl hj2]; exact List.getElem_mem hj2)
      have he : idx b (j : Int) = ⟨k, (idx b' (j : Int)).Place⟩ := by rw [hb, idx_map hj2]
      rw [he]
      repeat' (first | contradiction | with_reducible refine tri_if (fun hq => ?_) (fun hq => ?_) | with_reducible refine tri_must (by first | omega | grind [w64zin]) ?_ | with_reducible refine tri_out ?_ | with_reducible refine tri_sb ?_ | with_reducible refine tri_cb ?_ | with_reducible refine tri_mb ?_ | with_reducible refine tri_bb ?_ | with_reducible refine tri_some ?_)
      all_goals grind [Nxt]
    · repeat' (first | contradiction | with_reducible refine tri_if (fun hq => ?_) (fun hq => ?_) | with_reducible refine tri_must (by first | omega | grind [w64zin]) ?_ | with_reducible refine tri_out ?_ | with_reducible refine tri_sb ?_ | with_reducible refine tri_cb ?_ | with_reducible refine tri_mb ?_ | with_reducible refine tri_bb ?_ | with_reducible refine tri_some ?_)
      rfl
theorem LocalAlone_law (h : History) (t : Int) {K : ByteArray → Prop} (g : HG K h) (gt : (Lit.int .i64 t).wf = true) : assizelaw09zLocalAlone h t = some true := by
  have hs := g.small
  refine tri_eq.1 ?_
  unfold assizelaw09zLocalAlone assizelaw09zLocalAlone.j1 assizelaw09zLocalAlone.j2
  rw [assizelaw09zalive_true]
  refine tri_sb ?_
  simp only [Bool.not_true, cond_true, cond_false]
  rcases Look_told hs t with ⟨h1, h2, _⟩ | ⟨hS, k, rfl, hk, h1, h2, _⟩
  · rw [h1]
    repeat' (first | contradiction | with_reducible refine tri_if (fun hq => ?_) (fun hq => ?_) | with_reducible refine tri_must (by first | omega | grind [w64zin]) ?_ | with_reducible refine tri_out ?_ | with_reducible refine tri_sb ?_ | with_reducible refine tri_cb ?_ | with_reducible refine tri_mb ?_ | with_reducible refine tri_bb ?_ | with_reducible refine tri_some ?_)
    all_goals simp_all
  · have h32 := hS.len
    have hw : w64 ((k : Int) + 1) = ((k + 1 : Nat) : Int) := w64zsucc (by omega)
    have hsub : subl h.Txns (k : Int) ((k + 1 : Nat) : Int) = [idx h.Txns (k : Int)] := by
      unfold subl
      rw [Int.toNat_natCast, Int.toNat_natCast, take_succ hk, List.drop_append, List.length_take, Nat.min_eq_left (by omega), Nat.sub_self, List.drop_zero, List.drop_of_length_le (by simp; omega), List.nil_append]
    rw [h1]
    refine tri_sb ?_
    simp only [hw, hsub]
    have ho : Sound (one h (k : Int)) := one_sound hS hk
    have hso : HSmall (one h (k : Int)) := ⟨hs.1, by simp [one], fun j hj => by
      have : j = 0 := by simpa [one] using hj
      subst this
      exact hs.2.2 k hk⟩
    obtain ⟨q1, q2, q3, q4⟩ := one_asks (h := h) (k := k)
    obtain ⟨c1, c2, c3⟩ := asksOf_small (h := one h (k : Int)) (t := 0) (ho.txn 0 (by simp [one])).ops
    have hL : local_Look (one h (k : Int)) 0 = some (asksOf (one h (k : Int)) 0, spotsOf (one h (k : Int)) 0, 0) := by
      rcases Look_told hso 0 with ⟨_, _, h0⟩ | ⟨_, k', hk', _, hl, _⟩
      · obtain ⟨v, hv, _, _, hS'⟩ := Check_told hso
        rcases h0 with h0 | h0 | h0
        · rw [hv] at h0; exact absurd (congrArg some (hS'.2 ho)) h0
        · omega
        · simp [one] at h0
      · exact hl
    have hal := alone_told q1 q2 q3 q4 (by have := c1; simp at this ⊢; omega) (by have := c2; simp at this ⊢; omega) (by simpa using c3) 0 0
    have e1 : (asksOf h (k : Int)).length = (asksOf (one h (k : Int)) 0).length := by rw [q1]; simp
    have e2 : (spotsOf h (k : Int)).length = (spotsOf (one h (k : Int)) 0).length := by rw [q2]; simp
    have hL2 : local_Look (⟨h.Keys, [idx h.Txns (k : Int)]⟩ : History) 0 = some (asksOf (one h (k : Int)) 0, spotsOf (one h (k : Int)) 0, 0) := hL
    rw [hL2]
    repeat' (first | contradiction | with_reducible refine tri_if (fun hq => ?_) (fun hq => ?_) | with_reducible refine tri_must (by first | omega | grind [w64zin]) ?_ | with_reducible refine tri_out ?_ | with_reducible refine tri_sb ?_ | with_reducible refine tri_cb ?_ | with_reducible refine tri_mb ?_ | with_reducible refine tri_bb ?_ | with_reducible refine tri_some ?_ | exact tri_val hal rfl)
    all_goals simp_all
end Go.Proofs.YtmfihodpbladeaaT
