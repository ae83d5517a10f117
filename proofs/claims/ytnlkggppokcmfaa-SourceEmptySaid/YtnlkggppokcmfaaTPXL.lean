/- Layer 10: the sources of an ask, of the code and of the document, are the same. -/
import Derived.Test.YtnlkggppokcmfaaTPXK
namespace Go.Proofs.YtnlkggppokcmfaaT
open Go Go.Proofs Go.Proofs.YtnlkggppokcmfaaE
set_option linter.unusedVariables false
set_option linter.unusedSimpArgs false
def lastW (w : List Int) : Int := idx w ((w.length - 1 : Nat) : Int)
section
variable {O : List Int} {W : Int → List Int}
def lasts (O : List Int) (W : Int → List Int) (v : Int) : List Int := O.filter (fun t => decide (lastW (W t) = v))
theorem lasts_succ {v : Int} {k : Nat} (hk : k < O.length) : lasts (O.take (k + 1)) W v = if lastW (W (idx O (k : Int))) = v then lasts (O.take k) W v ++ [idx O (k : Int)] else lasts (O.take k) W v := by
  unfold lasts
  rw [List.take_succ_eq_append_getElem hk, List.filter_append, (idx_eq (n := k) rfl hk : idx O (k : Int) = O[k])]
  by_cases h : lastW (W O[k]) = v <;> simp [h]
theorem lasts_len {v : Int} {k : Nat} : (lasts (O.take k) W v).length ≤ O.length := Nat.le_trans (List.length_filter_le _ _) (by rw [List.length_take]; omega)
theorem reg_code (hol : O.length ≤ 32) (hne : ∀ t ∈ O, 0 < (W t).length) (hwl : ∀ t ∈ O, (W t).length ≤ 16) {a : Ask} (hb : 0 < a.Base.length) :
    iter (source_sources.s3 a (finL O W)) ([], 0) = some (lasts O W (idx a.Base 0)) := by
  refine tri_eq.1 ?_
  refine tri_upm (k0 := 0) O.length (fun k s => s.1 = lasts (O.take k) W (idx a.Base 0) ∧ s.2 = (k : Int)) (Nat.zero_le _) ⟨by simp [lasts], rfl⟩ ?_
  rintro k ⟨l, x⟩ hk ⟨e1, e2⟩
  dsimp only at e1 e2
  subst e1 e2
  have hw : w64 ((k : Int) + 1) = ((k + 1 : Nat) : Int) := w64zsucc (by omega)
  have hl := lasts_len (O := O) (W := W) (v := idx a.Base 0) (k := k)
  unfold source_sources.s3 source_sources.j4 source_sources.j1
  dsimp only
  rw [finL_len, hw]
  refine tri_if (fun h1 => ?_) (fun h1 => ?_)
  · have hk2 : k < O.length := by omega
    have h0 := hne _ (idx_mem hk2)
    have h16 := hwl _ (idx_mem hk2)
    have hs := lasts_succ (W := W) (v := idx a.Base 0) hk2
    rw [finL_at hk2]
    dsimp only
    have hp : w64 (((W (idx O (k : Int))).length : Int) - 1) = (((W (idx O (k : Int))).length - 1 : Nat) : Int) := w64zpred (by omega) (by omega)
    rw [hp]
    refine tri_must (by omega) (tri_must (by omega) (tri_must (by omega) ?_))
    refine tri_if (fun h2 => ?_) (fun h2 => ?_)
    · refine tri_must (by omega) (tri_some ⟨hk2, ?_, rfl⟩)
      dsimp only
      rw [hs, if_pos (show lastW _ = _ from h2)]
    · refine tri_some ⟨hk2, ?_, rfl⟩
      dsimp only
      rw [hs, if_neg (show ¬ lastW _ = _ from h2)]
  · have : k = O.length := by omega
    subst this
    exact tri_out (tri_some (by rw [List.take_length]; rfl))
theorem reg_ref (hol : O.length ≤ 32) (hne : ∀ t ∈ O, 0 < (W t).length) (hwl : ∀ t ∈ O, (W t).length ≤ 16) {h : History} {a : Ask} (hW : ∀ t ∈ O, assizeref05zWrote h t a.Key = some (W t)) (hb : 0 < a.Base.length) :
    iter (assizeref10zOf.s3 h a O) ([], 0) = some (lasts O W (idx a.Base 0)) := by
  refine tri_eq.1 ?_
  refine tri_upm (k0 := 0) O.length (fun k s => s.1 = lasts (O.take k) W (idx a.Base 0) ∧ s.2 = (k : Int)) (Nat.zero_le _) ⟨by simp [lasts], rfl⟩ ?_
  rintro k ⟨l, x⟩ hk ⟨e1, e2⟩
  dsimp only at e1 e2
  subst e1 e2
  have hw : w64 ((k : Int) + 1) = ((k + 1 : Nat) : Int) := w64zsucc (by omega)
  have hl := lasts_len (O := O) (W := W) (v := idx a.Base 0) (k := k)
  unfold assizeref10zOf.s3 assizeref10zOf.j4 assizeref10zOf.j2
  dsimp only
  rw [hw]
  refine tri_if (fun h1 => ?_) (fun h1 => ?_)
  · have hk2 : k < O.length := by omega
    have h0 := hne _ (idx_mem hk2)
    have h16 := hwl _ (idx_mem hk2)
    have hs := lasts_succ (W := W) (v := idx a.Base 0) hk2
    refine tri_must (by omega) (tri_bnd (hW _ (idx_mem hk2)) ?_)
    have hp : w64 (((W (idx O (k : Int))).length : Int) - 1) = (((W (idx O (k : Int))).length - 1 : Nat) : Int) := w64zpred (by omega) (by omega)
    rw [hp]
    refine tri_must (by omega) (tri_must (by omega) ?_)
    refine tri_if (fun h2 => ?_) (fun h2 => ?_)
    · refine tri_must (by omega) (tri_some ⟨hk2, ?_, rfl⟩)
      dsimp only
      rw [hs, if_pos (show lastW _ = _ from h2)]
    · refine tri_some ⟨hk2, ?_, rfl⟩
      dsimp only
      rw [hs, if_neg (show ¬ lastW _ = _ from h2)]
  · have : k = O.length := by omega
    subst this
    exact tri_out (tri_some (by rw [List.take_length]; rfl))
end
abbrev oth (h : History) (a : Ask) : List Int := othersUp h a h.Txns.length
abbrev wro (h : History) (a : Ask) : Int → List Int := fun t => wroteOf h t a.Key
open Classical in
def srcOf (h : History) (a : Ask) (ty : Int) (s : List Int) : Prop :=
  if ty = 4 then s = (if idx a.Base 0 = 0 then [-1] else []) ++ picks (oth h a) (Win (idx a.Base 0) ((oth h a).map (wro h a)) 0 (fun _ => False) 0) (oth h a).length
  else if a.Base.length = 0 then s = [-1]
  else if ty = 1 then s = lasts (oth h a) (wro h a) (idx a.Base 0)
  else if ty = 2 then ∃ r, ListTold (oth h a) (wro h a) a.Base r ∧ s = if r.2 = true then [lastW r.1] else []
  else ∃ r, SetTold (oth h a) (wro h a) a.Base r ∧ s = r.1
theorem sources_told {h : History} (hS : Sound h) (hc : index_Check h = some 0) {a : Ask} {t p : Nat} (ha : AskOk h a t p) :
    ∃ s, source_sources h a = some s ∧ assizeref10zOf h a = some s ∧ srcOf h a (typ (opAt h (t : Int) (p : Int)).Kind) s := by
  have h32 := hS.len
  obtain ⟨k1, k8⟩ := op_kind hS ha.tl ha.pl
  have hT : index_Type h a.Key = some (typ (opAt h (t : Int) (p : Int)).Kind) := Type_told hS hc ha.tl ha.pl ha.e3.symm
  have hK := kind_told hS ha.tl ha.pl ha.e1 ha.e2
  have hF : source_finals h a = some (finL (oth h a) (wro h a)) := finals_told hS hc
  have hO : assizeref10zothers h a = some (oth h a) := others_told hS
  have hol : (oth h a).length ≤ 32 := Nat.le_trans othersUp_len h32
  have hmem : ∀ u ∈ oth h a, ∃ n : Nat, u = (n : Int) ∧ n < h.Txns.length ∧ 0 < (wro h a u).length := fun u hu => by
    obtain ⟨⟨h0, h1, _, h3⟩, _⟩ := others_mem.1 hu
    exact ⟨u.toNat, by omega, by omega, h3⟩
  have hwl : ∀ u ∈ oth h a, (wro h a u).length ≤ 16 := fun u hu => by
    obtain ⟨n, rfl, hn, _⟩ := hmem u hu
    exact Nat.le_trans wroteOf_len (hS.txn n hn).ops.1
  have hne : ∀ u ∈ oth h a, 0 < (wro h a u).length := fun u hu => by obtain ⟨n, _, _, h3⟩ := hmem u hu; exact h3
  have hW : ∀ u ∈ oth h a, assizeref05zWrote h u a.Key = some (wro h a u) := fun u hu => by
    obtain ⟨n, rfl, hn, _⟩ := hmem u hu
    exact Wrote_told ⟨by omega, by omega⟩ (hS.txn n hn).ops.1
  have hP := fun h23 => parts_of (a := a) hS ha h23
  have hb64 := ha.b64
  have hb4 := ha.b4
  have hb3 := ha.b3
  have hty : typ (opAt h (t : Int) (p : Int)).Kind = 1 ∨ typ (opAt h (t : Int) (p : Int)).Kind = 2 ∨ typ (opAt h (t : Int) (p : Int)).Kind = 3 ∨ typ (opAt h (t : Int) (p : Int)).Kind = 4 := by unfold typ; omega
  generalize typ (opAt h (t : Int) (p : Int)).Kind = ty at hT hK hb4 hb3 hty hP
  have bz : 0 < a.Base.length → ((a.Base.length : Int) == 0) = false := fun h => by rw [beq_eq_false_iff_ne]; omega
  have b0 : a.Base.length = 0 → ((a.Base.length : Int) == 0) = true := fun h => by rw [beq_iff_eq]; omega
  unfold source_sources assizeref10zOf source_parts
  simp only [hT, hK, hF, hO, Option.bind_some]
  by_cases h0 : a.Base.length = 0 ∧ ty ≠ 4
  · obtain ⟨h0, h4⟩ := h0
    refine ⟨[-1], ?_, ?_, ?_⟩
    · rw [b0 h0, beq_eq_false_iff_ne.2 h4]; rfl
    · rw [b0 h0, beq_eq_false_iff_ne.2 h4]; rfl
    · unfold srcOf; rw [if_neg h4, if_pos h0]
  · rcases hty with rfl | rfl | rfl | rfl
    · have hb : 0 < a.Base.length := by omega
      rw [bz hb]
      refine ⟨lasts (oth h a) (wro h a) (idx a.Base 0), reg_code (W := wro h a) hol hne hwl (a := a) hb, reg_ref (W := wro h a) hol hne hwl hW hb, ?_⟩
      unfold srcOf
      rw [if_neg (by decide), if_neg (by omega), if_pos rfl]
    · have hb : 0 < a.Base.length := by omega
      rw [bz hb]
      obtain ⟨⟨l, b⟩, hr1, hr2, hr3⟩ := list_told (hP (.inl rfl)) hW hO hb64
      have hsrc : srcOf h a 2 (if b = true then [lastW l] else []) := by
        unfold srcOf
        rw [if_neg (by decide), if_neg (by omega), if_neg (by decide), if_pos rfl]
        exact ⟨_, hr3, rfl⟩
      refine ⟨_, ?_, ?_, hsrc⟩
      · rw [hr1]
        refine tri_eq.1 ?_
        show Tri (bif b then _ else _) _
        cases b
        · exact tri_some rfl
        · have hl : 0 < l.length ∧ l.length ≤ 32 := by
            rcases hr3 with ⟨_, h1, h2, h3⟩ | ⟨h1, _⟩
            · refine ⟨?_, Nat.le_trans (sub_len h2 h1) hol⟩
              apply Nat.lt_of_not_le
              intro hle
              have : l = [] := List.length_eq_zero_iff.1 (by omega)
              subst this
              rw [h3] at hb
              simp at hb
            · cases h1
          have hp : w64 ((l.length : Int) - 1) = ((l.length - 1 : Nat) : Int) := w64zpred (by omega) (by omega)
          dsimp only
          rw [hp]
          refine tri_must (by omega) (tri_some ?_)
          rw [subl_back]
          show l.drop (l.length - 1) = [lastW l]
          rw [List.drop_eq_getElem_cons (by omega), List.drop_eq_nil_of_le (by omega)]
          unfold lastW
          rw [idx_eq (n := l.length - 1) rfl (by omega)]
      · rw [hr2]
        refine tri_eq.1 ?_
        show Tri (bif b then _ else _) _
        cases b
        · exact tri_some rfl
        · have hl : 0 < l.length ∧ l.length ≤ 32 := by
            rcases hr3 with ⟨_, h1, h2, h3⟩ | ⟨h1, _⟩
            · refine ⟨?_, Nat.le_trans (sub_len h2 h1) hol⟩
              apply Nat.lt_of_not_le
              intro hle
              have : l = [] := List.length_eq_zero_iff.1 (by omega)
              subst this
              rw [h3] at hb
              simp at hb
            · cases h1
          have hp : w64 ((l.length : Int) - 1) = ((l.length - 1 : Nat) : Int) := w64zpred (by omega) (by omega)
          dsimp only
          rw [hp]
          exact tri_must (by omega) (tri_must (by omega) (tri_some rfl))
    · have hb : 0 < a.Base.length := by omega
      rw [bz hb]
      obtain ⟨⟨l, b⟩, hr1, hr2, hr3⟩ := set_told (hP (.inr rfl)) others_nodup hW hO hb64 (hb3 rfl)
      have hsrc : srcOf h a 3 l := by
        unfold srcOf
        rw [if_neg (by decide), if_neg (by omega), if_neg (by decide), if_neg (by decide)]
        exact ⟨_, hr3, rfl⟩
      refine ⟨_, ?_, ?_, hsrc⟩
      · rw [hr1]; rfl
      · rw [hr2]
        refine tri_eq.1 ?_
        show Tri (bif b then _ else _) _
        cases b
        · refine tri_some ?_
          rcases hr3 with ⟨h1, _⟩ | ⟨h1, _⟩
          · cases h1
          · cases h1; rfl
        · exact tri_some rfl
    · classical
      have hb : 0 < a.Base.length := by have := hb4 rfl; omega
      have hcc := counter_told (W := wro h a) (want := idx a.Base 0) hol hwl
      have hcr := counts_told (W := wro h a) hol hwl hW hO hb
      generalize hpk : picks (oth h a) (Win (idx a.Base 0) ((oth h a).map (wro h a)) 0 (fun _ => False) 0) (oth h a).length = pk at hcc hcr
      have hpl : pk.length ≤ 32 := by rw [← hpk]; exact Nat.le_trans picks_len hol
      have hsrc : srcOf h a 4 ((if idx a.Base 0 = 0 then [-1] else []) ++ pk) := by
        unfold srcOf
        rw [if_pos rfl, ← hpk]
      refine ⟨_, ?_, ?_, hsrc⟩
      · refine tri_eq.1 ?_
        unfold source_sources.j2 source_sources.j1
        simp only [hF, hcc, Option.bind_some]
        refine tri_must (by omega) ?_
        refine tri_if (fun h1 => ?_) (fun h1 => ?_)
        · refine tri_must (by omega) (tri_must (by omega) (tri_must ?_ (tri_some ?_)))
          · simp only [List.length_append, List.length_singleton, List.length_nil]; omega
          · rw [if_pos h1]; rfl
        · refine tri_must (by omega) (tri_must ?_ (tri_some ?_))
          · simp only [List.length_nil]; omega
          · rw [if_neg h1]
      · refine tri_eq.1 ?_
        unfold assizeref10zOf.j1
        simp only [hcr, Option.bind_some]
        refine tri_must (by omega) ?_
        refine tri_if (fun h1 => ?_) (fun h1 => ?_)
        · refine tri_must (by omega) (tri_some ?_)
          rw [if_pos h1]
        · refine tri_some ?_
          rw [if_neg h1]; rfl
end Go.Proofs.YtnlkggppokcmfaaT
