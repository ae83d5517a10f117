/- The engine, part G: make, slices out of parts, append. -/
import Derived.Test.YtnlkggppokcmfaaF
import Derived.Laws.MakeOwn
import Derived.Deep.DeepAppendWide
namespace Go.Proofs.YtnlkggppokcmfaaE
open Go
set_option linter.unusedVariables false
set_option linter.unusedSimpArgs false
theorem seqOwn.zeros {α : Type} {kt : Ty α} {H : BM} {d : α} {zs : List Value} (hz : kt.own H (fun _ => False) d zs) : ∀ (n : Nat) (F : Nat → Prop), seqOwn kt H F (List.replicate n d) ((List.replicate n zs).flatten)
  | 0, _ => by simp [seqOwn]
  | n + 1, F => by
    rw [List.replicate_succ, List.replicate_succ, List.flatten_cons]
    exact ⟨zs, _, fun _ => False, F, rfl, fun _ h => h.elim, fun _ h => h, fun _ h => h.elim, hz, seqOwn.zeros hz n F⟩
theorem replicate_get (zs : List Value) : ∀ (n i : Nat), i < n * zs.length → ((List.replicate n zs).flatten)[i]? = zs[i % zs.length]?
  | 0, i, h => by simp at h
  | n + 1, i, h => by
    rw [List.replicate_succ, List.flatten_cons]
    rcases Nat.lt_or_ge i zs.length with hi | hi
    · rw [List.getElem?_append_left hi, Nat.mod_eq_of_lt hi]
    · rw [List.getElem?_append_right hi, replicate_get zs n (i - zs.length) (by rw [Nat.add_mul] at h; omega)]
      rw [Nat.mod_eq_sub_mod hi]
theorem madeCells_eq (zc : Array Value) (n : Nat) : (madeCells zc (n * zc.size)).toList = (List.replicate n zc.toList).flatten := by
  apply List.ext_getElem?
  intro i
  rcases Nat.lt_or_ge i (n * zc.size) with hi | hi
  · have hpos : 0 < zc.size := by
      rcases Nat.eq_zero_or_pos zc.size with h | h
      · rw [h] at hi; omega
      · exact h
    have hm : i % zc.size < zc.size := Nat.mod_lt _ hpos
    rw [replicate_get zc.toList n i (by simpa using hi)]
    simp [madeCells, hi, hm]
  · rw [List.getElem?_eq_none (by simpa [madeCells] using hi), List.getElem?_eq_none (by simpa using hi)]
section
variable {P : Program} {o : Oper} {ev_ : Operand → Value} {K : Value → World → Prop} {E : Env} {ops : Array Oper} {k : List Item} {f : Nat → Value} {w : World} {M : Mem} {L : List Asrt}
theorem e_make {α : Type} (kt : Ty α) (d : α) (t e : TypeId) (x y : Operand) (inf : TypeInfo) (z : Value) (n : Int) (hop : o.op = .makeSlice t x y)
    (ht : P.underlying t = some (.slice e)) (hi : P.info? e = some inf) (hz : inf.zero = some z) (hsz : inf.size = kt.sz) (hzs : z.cells.size = kt.sz) (hzo : ∀ H, kt.own H (fun _ => False) d z.cells.toList)
    (hx : ev_ x = .int .i64 n) (hy : ev_ y = .int .i64 n) (hn : 0 ≤ n ∧ n ≤ 9223372036854775807 ∧ (inf.bytes : Int) * n ≤ 281474976710656) (hI : Inv M w L)
    (h : ∀ b w', Inv M w' (L ++ [.row kt e (some ⟨b, 0, none⟩) n.toNat n.toNat (List.replicate n.toNat d)]) → K (.slice (some ⟨b, 0, none⟩) n.toNat n.toNat) w') : Eff P o ev_ w K := by
  have hr := run_make (P := P) w t e inf z ht hi hz .i64 .i64 n n hn.1 (Int.le_refl _) hn.2.2 hn.2.1
  refine eff_val (.slice (some ⟨w.heap.size, 0, none⟩) n.toNat n.toNat) (w' := w.alloc (.cells (madeCells z.cells (n.toNat * inf.size)) e)) ?_ ?_
  · simp only [execOp, hop, hx, hy, Sem.run_bind, hr, Result.andThen, Sem.run, pure]
  · have h' := h w.heap.size (w.alloc (.cells (madeCells z.cells (n.toNat * inf.size)) e)) (hI.alloc _ ⟨.inr ⟨w.heap.size, _, rfl, rfl, hp_alloc_new w _, by simp, by unfold maxLen; omega, ?_, ?_⟩, by simp⟩)
    · exact h'
    · rw [hsz]; simp [madeCells]
    · have hcs : (madeCells z.cells (n.toNat * inf.size)).toList = (List.replicate n.toNat z.cells.toList).flatten := by rw [hsz, ← hzs]; exact madeCells_eq _ _
      rw [hcs]
      have hlen : ((List.replicate n.toNat z.cells.toList).flatten).length = n.toNat * kt.sz := by simp [hzs]
      rw [List.length_replicate, List.take_of_length_le (by omega)]
      exact seqOwn.zeros (hzo _) _ _
end
theorem rowOwn.owns {α : Type} {kt : Ty α} {e : TypeId} {w : World} {F : Nat → Prop} {A : Option Addr} {c : Nat} {xs : List α} (h : rowOwn kt e (hp w) F A c xs) :
    ∃ cs, w.ownsRow 0 e kt.sz (.slice A xs.length c) xs.length cs ∧ seqOwn kt (hp w) (fun b => F b ∧ ∀ a, A = some a → b ≠ a.block) xs cs ∧ ∀ a, A = some a → F a.block := by
  rcases h with ⟨rfl, rfl, rfl⟩ | ⟨b, arr, rfl, h1, h2, h3, h4, h5, h6⟩
  · exact ⟨[], World.ownsRow_nil w 0 e kt.sz, rfl, fun a h => by cases h⟩
  · refine ⟨arr.toList.take (xs.length * kt.sz), ⟨?_, .inr ⟨b, c, arr, rfl, Nat.zero_le _, h2, h3, h4, h5, rfl⟩⟩, h6.mono (fun b' h => ⟨h.1, fun a ha => by cases ha; exact h.2⟩), fun a ha => by cases ha; exact h1⟩
    have h7 := Nat.mul_le_mul_right kt.sz h3
    rw [List.length_take, Array.length_toList]
    change min (xs.length * kt.sz) arr.size = xs.length * kt.sz
    rw [h5]
    exact Nat.min_eq_left h7
theorem rowOwn.of_owns {α : Type} {kt : Ty α} {e : TypeId} {w : World} {F : Nat → Prop} {v : Value} {xs : List α} {cs : List Value} (h : w.ownsRow 0 e kt.sz v xs.length cs)
    (hb : ∀ b, v.ownBlock = some b → F b) (hs : seqOwn kt (hp w) (fun b => F b ∧ v.ownBlock ≠ some b) xs cs) : ∃ A c, v = .slice A xs.length c ∧ rowOwn kt e (hp w) F A c xs := by
  obtain ⟨hl, h⟩ := h
  rcases h with ⟨rfl, h0⟩ | ⟨g, cap, cur, rfl, _, h2, h3, h4, h5, h6⟩
  · have : xs = [] := List.eq_nil_of_length_eq_zero h0
    subst this
    exact ⟨none, 0, rfl, rowOwn.nil⟩
  · refine ⟨some ⟨g, 0, none⟩, cap, rfl, .inr ⟨g, cur, rfl, hb g rfl, h2, h3, h4, h5, ?_⟩⟩
    rw [h6]
    exact hs.mono (fun b h => ⟨h.1, fun e => h.2 (by rw [e]; rfl)⟩)
theorem seqOwn.append {α : Type} {kt : Ty α} {H : BM} : ∀ {xs ys : List α} {F G : Nat → Prop} {cs ds : List Value}, seqOwn kt H F xs cs → seqOwn kt H G ys ds → (∀ b, F b → ¬ G b) → seqOwn kt H (fun b => F b ∨ G b) (xs ++ ys) (cs ++ ds)
  | [], ys, F, G, cs, ds, h, hy, _ => by
    rw [show cs = [] from h]
    exact hy.mono (fun _ h => .inr h)
  | x :: xs, ys, F, G, cs, ds, ⟨c1, c2, F1, F2, e, h1, h2, h3, h4, h5⟩, hy, hd => by
    refine ⟨c1, c2 ++ ds, F1, fun b => F2 b ∨ G b, by rw [e, List.append_assoc], fun b h => .inl (h1 b h), fun b h => h.imp (h2 b) id, ?_, h4, h5.append hy (fun b h => hd b (h2 b h))⟩
    rintro b hb (h | h)
    · exact h3 b hb h
    · exact hd b (h1 b hb) h
theorem rdS.cells {α : Type} {kt : Ty α} {enc : α → List Value} [Flat kt enc] {H : BM} {b o : Nat} : ∀ {ys : List α}, (∀ j x, ys[j]? = some x → ∃ cs, kt.rd H x cs ∧ ∀ i u, cs[i]? = some u → cellOf H b (o + j * kt.sz + i) = some u) →
    ∀ i u, (ys.flatMap enc)[i]? = some u → cellOf H b (o + i) = some u := by
  intro ys
  induction ys generalizing o with
  | nil => intro _ i u hu; simp at hu
  | cons y ys ih =>
    intro h i u hu
    rw [List.flatMap_cons] at hu
    have hl : (enc y).length = kt.sz := kt.rd_len (H := H) (Flat.rd_iff.2 rfl)
    rcases Nat.lt_or_ge i (enc y).length with hi | hi
    · rw [List.getElem?_append_left hi] at hu
      obtain ⟨cs, hr, hc⟩ := h 0 y rfl
      rw [Flat.rd_iff.1 hr] at hc
      have := hc i u hu
      rw [Nat.zero_mul, Nat.add_zero] at this
      exact this
    · rw [List.getElem?_append_right hi] at hu
      have := ih (o := o + kt.sz) (fun j x hj => by
        obtain ⟨cs, hr, hc⟩ := h (j + 1) x (by simpa using hj)
        refine ⟨cs, hr, fun i u hu => ?_⟩
        have := hc i u hu
        rw [show o + (j + 1) * kt.sz + i = o + kt.sz + j * kt.sz + i by rw [Nat.add_mul]; omega] at this
        exact this) (i - (enc y).length) u hu
      rw [show o + kt.sz + (i - (enc y).length) = o + i by omega] at this
      exact this
theorem append_where {P : Program} {w w' : World} {t ty e : TypeId} {A : Option Addr} {c n : Nat} {cs : List Value} {inf : TypeInfo} {z v' : Value} {sz : Nat} (h : w.ownsRow 0 e sz (.slice A n c) n cs)
    (ht : P.underlying t = some (.slice e)) (hi : P.info? e = some inf) (hz : inf.zero = some z) (hsz : inf.size = sz)
    {b o m c2 : Nat} {news : List Value} (hl : news.length = m * sz) (hnews : ∀ j u, news[j]? = some u → w.cell? ((⟨b, o, none⟩ : Addr).add j) = some u) (h1 : ∀ u ∈ news, u.oneCell' = true)
    (hbytes : ((n + m) + (n + m) / 4 + 192) * inf.bytes ≤ 281474976710656) (h63 : n + m ≤ maxLen) (hrun : (Builtin.append_ #[t, t] ty #[.slice A n c, .slice (some ⟨b, o, none⟩) m c2]).run P w = .ok v' w') :
    v'.ownBlock = (Value.slice A n c).ownBlock ∨ v'.ownBlock = some w.heap.size := by
  subst hsz
  have hsmall : n + m ≤ 9223372036854775807 := by simp only [maxLen] at h63; omega
  rcases h.2 with ⟨hv, hn⟩ | ⟨g, cap, cur, hv, _, hg, hnc, hcm, hcs, htake⟩
  · cases hv
    by_cases hm : m = 0
    · subst hm
      have : (Builtin.append_ #[t, t] ty #[.slice none 0 0, .slice (some ⟨b, o, none⟩) 0 c2]).run P w = .ok (.slice none 0 0) w := by
        simp [Builtin.append_, run_underlying ht, sizeOf, typeInfo, hi, Builtin.lenOf, Builtin.firstCells, loadCells, loadCellsFrom]
      rw [this] at hrun
      cases hrun
      exact .inl rfl
    · have hr := run_append_nil (P := P) w t ty e inf z ht hi hz ⟨b, o, none⟩ m c2 news hl hnews (by omega) (by omega) (by have hb := hbytes; simp only [Nat.zero_add] at hb; exact Nat.le_trans (Nat.mul_le_mul_right _ (by omega)) hb)
      rw [hr] at hrun
      cases hrun
      exact .inr rfl
  · cases hv
    by_cases hroom : n + m ≤ c
    · have hfit : n * inf.size + news.length ≤ cur.size := by rw [hl, hcs, ← Nat.add_mul]; exact Nat.mul_le_mul_right _ hroom
      have hr := run_append_room (P := P) w t ty e inf ht hi g n c cur hg ⟨b, o, none⟩ m c2 news hl hnews h1 hroom hfit
      rw [hr] at hrun
      cases hrun
      exact .inl rfl
    · have holds : ∀ j u, cs[j]? = some u → w.cell? ((⟨g, 0, none⟩ : Addr).add j) = some u := h.cells (g := g) rfl
      have hr := run_append_grow (P := P) w t ty e inf z ht hi hz ⟨g, 0, none⟩ n c cs h.1 holds ⟨b, o, none⟩ m c2 news hl hnews (by omega) (by omega) (growslice_fits_wide (by omega) hbytes)
      rw [hr] at hrun
      cases hrun
      exact .inr rfl
section
variable {P : Program} {o : Oper} {ev_ : Operand → Value} {K : Value → World → Prop} {E : Env} {ops : Array Oper} {k : List Item} {f : Nat → Value} {w : World} {M : Mem} {L : List Asrt}
theorem Inv.append {α : Type} {kt : Ty α} {P : Program} {t ty e : TypeId} {A : Option Addr} {n c : Nat} {xs ys : List α} {inf : TypeInfo} {z : Value} {R L' : List Asrt}
    (hI2 : Inv M w (.row kt e A n c xs :: (R ++ L'))) (ht : P.underlying t = some (.slice e)) (hi : P.info? e = some inf) (hz : inf.zero = some z) (hsz : inf.size = kt.sz) (hzs : z.cells.size = kt.sz) (hpos : 0 < kt.sz)
    {b o m c2 : Nat} {news : List Value} (hl : news.length = m * kt.sz) (hm : ys.length = m) (hg : Grp.ok w (b, o, news)) (hbytes : ((n + m) + (n + m) / 4 + 192) * inf.bytes ≤ 281474976710656) (h63 : n + m ≤ maxLen)
    (hmk : ∀ H F, Go.Proofs.YtnlkggppokcmfaaE.sep R H F → seqOwn kt H F ys news) :
    ∃ A' c' w', (Builtin.append_ #[t, t] ty #[.slice A n c, .slice (some ⟨b, o, none⟩) m c2]).run P w = .ok (.slice A' (xs ++ ys).length c') w' ∧ Inv M w' (.row kt e A' (xs ++ ys).length c' (xs ++ ys) :: L') ∧ w.heap.size ≤ w'.heap.size := by
  subst hm
  obtain ⟨F1, F2, h1, h2, h3, ⟨hrow, hln⟩, hsep⟩ := hI2.sep
  subst hln
  obtain ⟨G1, G2, g1, g2, g3, hsR, hsL⟩ := hsep.split
  obtain ⟨cs, howns, hseq, hFA⟩ := rowOwn.owns hrow
  have hy := hmk _ _ hsR
  have hone := hy.one
  have hnews : ∀ j u, news[j]? = some u → w.cell? ((⟨b, o, none⟩ : Addr).add j) = some u := fun j u hu => by rw [addr_add]; exact hg j u hu
  obtain ⟨v', w', hrun, howns', hgrow, hnil⟩ := run_append_own_wide (P := P) w 0 t ty e inf z kt.sz inf.bytes ht hi hz hsz rfl hzs hpos (.slice A xs.length c) xs.length cs howns ⟨b, o, none⟩ ys.length c2 news hl
    hnews hone h63 hbytes (Nat.zero_le _)
  have hwhere := append_where howns ht hi hz hsz hl hnews hone hbytes h63 hrun
  have hblk : ∀ b, some b = (Value.slice A xs.length c).ownBlock → F1 b := by
    intro b' hb'
    cases A with
    | none => cases hb'
    | some a => cases hb'; exact hFA a rfl
  have hsame : ∀ b', b' < w.heap.size → ¬ F1 b' → w'.heap[b']? = w.heap[b']? := fun b' hb' hn => hgrow.block b' hb' (fun e => hn (hblk b' e))
  have hlt1 : ∀ b', F1 b' → b' < w.heap.size := fun b' h => (h1 b' h).2
  have hlt2 : ∀ b', F2 b' → b' < w.heap.size := fun b' h => (h2 b' h).2
  have hs1 : seqOwn kt (hp w') (fun b' => F1 b' ∧ ∀ a, A = some a → b' ≠ a.block) xs cs := hseq.congr (fun b' h => hgrow.block b' (hlt1 b' h.1) (fun e => by
    cases A with
    | none => cases e
    | some a => cases e; exact h.2 a rfl rfl))
  have hs2 : seqOwn kt (hp w') G1 ys news := hy.congr (fun b' h => hsame b' (hlt2 b' (g1 b' h)) (fun h' => h3 b' h' (g1 b' h)))
  have hs3 := hs1.append hs2 (fun b' h h' => h3 b' h.1 (g1 b' h'))
  have hl2 : (xs ++ ys).length = xs.length + ys.length := List.length_append
  have hv' : ∀ b', v'.ownBlock = some b' → b' < w'.heap.size := fun b' h => (howns'.lt b' h).2
  have hplace : ∀ b', v'.ownBlock = some b' → F1 b' ∨ b' = w.heap.size := by
    intro b' h
    rcases hwhere with e | e
    · exact .inl (hblk b' (h ▸ e))
    · rw [e] at h; cases h; exact .inr rfl
  rw [← hl2] at howns'
  obtain ⟨A', c', rfl, hrow'⟩ := rowOwn.of_owns (kt := kt) (F := fun b' => (F1 b' ∨ G1 b') ∨ b' = w.heap.size ∧ v'.ownBlock = some b') howns'
    (fun b' h => (hplace b' h).elim (fun h => .inl (.inl h)) (fun h' => .inr ⟨h', h⟩))
    (hs3.mono (fun b' h => ⟨.inl (h.imp (fun h => h.1) id), by
      intro hv
      rcases hwhere with e | e
      · have hA := e.symm.trans hv
        rcases h with h | h
        · cases A with
          | none => cases hA
          | some a => cases hA; exact h.2 a rfl rfl
        · exact h3 b' (hblk b' hA.symm) (g1 b' h)
      · have := e.symm.trans hv
        cases this
        rcases h with h | h
        · exact absurd (hlt1 _ h.1) (by omega)
        · exact absurd (hlt2 _ (g1 _ h)) (by omega)⟩))
  have hMn : ∀ b', w.heap.size ≤ b' → M.blk b' = none := by
    intro b' h
    cases e : M.blk b' with
    | none => rfl
    | some o => have := hI2.lt e; omega
  refine ⟨A', c', w', hrun, ⟨fun b' ob hb => ?_, Nat.le_trans hI2.size hgrow.size, hgrow.os.trans hI2.os, hgrow.tape.trans hI2.tape, hgrow.output.trans hI2.output, ?_⟩, hgrow.size⟩
  · refine (hsame b' (hI2.lt hb) (fun h => ?_)).trans (hI2.fix b' ob hb)
    have := (h1 b' h).1
    rw [hb] at this
    cases this
  · refine ⟨_, G2, ?_, ?_, ?_, ⟨hrow', rfl⟩, hsL.congr (fun b' h => hsame b' (hlt2 b' (g2 b' h)) (fun h' => h3 b' h' (g2 b' h)))⟩
    · rintro b' ((h | h) | ⟨rfl, h⟩)
      · exact ⟨(h1 b' h).1, Nat.lt_of_lt_of_le (hlt1 b' h) hgrow.size⟩
      · exact ⟨(h2 b' (g1 b' h)).1, Nat.lt_of_lt_of_le (hlt2 b' (g1 b' h)) hgrow.size⟩
      · exact ⟨hMn _ (Nat.le_refl _), hv' _ h⟩
    · intro b' h
      exact ⟨(h2 b' (g2 b' h)).1, Nat.lt_of_lt_of_le (hlt2 b' (g2 b' h)) hgrow.size⟩
    · rintro b' ((h | h) | ⟨rfl, h⟩) h'
      · exact h3 b' h (g2 b' h')
      · exact g3 b' h h'
      · exact absurd (hlt2 _ (g2 _ h')) (by omega)
theorem e_append {α : Type} (kt : Ty α) (t ty e : TypeId) (s x : Operand) (inf : TypeInfo) (z : Value) (A : Option Addr) (n c : Nat) (xs ys : List α) (b of m c2 : Nat) (news : List Value) (li : Nat) (js rest : List Nat) (R L' : List Asrt)
    (hop : o.op = .call { callee := .builtin .append, args := #[s, x], argTypes := #[t, t] })
    (hs : ev_ s = .slice A n c) (hx : ev_ x = .slice (some ⟨b, of, none⟩) m c2)
    (ht : P.underlying t = some (.slice e)) (hi : P.info? e = some inf) (hz : inf.zero = some z) (hsz : inf.size = kt.sz) (hzs : z.cells.size = kt.sz) (hpos : Nat.blt 0 kt.sz = true)
    (hI : Inv M w L) (hn : (li :: (js ++ rest)).Nodup) (hL : (li :: (js ++ rest)).map (L[·]?) = (.row kt e A n c xs :: (R ++ L')).map some)
    (hl : news.length = m * kt.sz) (hm : ys.length = m) (hg : Grp.ok w (b, of, news)) (hbytes : ((n + m) + (n + m) / 4 + 192) * inf.bytes ≤ 281474976710656 ∧ n + m ≤ 9223372036854775807)
    (hmk : ∀ H F, Go.Proofs.YtnlkggppokcmfaaE.sep R H F → seqOwn kt H F ys news)
    (h : ∀ A' c' w', Inv M w' (.row kt e A' (xs ++ ys).length c' (xs ++ ys) :: L') → K (.slice A' (xs ++ ys).length c') w') : Eff P o ev_ w K := by
  obtain ⟨A', c', w', hrun, hI', hsize⟩ := Inv.append (P := P) (ty := o.type) (c2 := c2) (hI.pick _ hn hL) ht hi hz hsz hzs (Nat.le_of_ble_eq_true hpos) hl hm hg hbytes.1 (by unfold maxLen; omega) hmk
  refine eff_val (.slice A' (xs ++ ys).length c') (w' := w') ?_ (h A' c' w' hI')
  have hargs : (#[s, x] : Array Operand).map (ev_) = #[.slice A n c, .slice (some ⟨b, of, none⟩) m c2] := by simp [hs, hx]
  simp only [execOp, hop, resolve, invoke, builtin, Sem.run_bind, Sem.run, pure, Result.andThen, hargs, hrun]
end
end Go.Proofs.YtnlkggppokcmfaaE
