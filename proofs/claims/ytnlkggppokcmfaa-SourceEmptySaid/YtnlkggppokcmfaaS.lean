/- The engine, part S: rows of the call's own as blocks of cells, for what moves within them (slices.Delete, slices.Insert, copy, clear). -/
import Derived.Test.YtnlkggppokcmfaaX
import Derived.Test.YtnlkggppokcmfaaP
import Derived.Lib.AppendZerosOnto
import Derived.Lib.Overlaps
namespace Go.Proofs.YtnlkggppokcmfaaE
open Go Go.Lib
set_option linter.unusedVariables false
set_option linter.unusedSimpArgs false
section
variable {P : Program} {o : Oper} {ev_ : Operand → Value} {K : Value → World → Prop} {w : World} {M : Mem} {L : List Asrt}
variable {α : Type} {kt : Ty α} {enc : α → List Value} [Flat kt enc]
theorem flat_one (kt : Ty α) [Flat kt enc] (x : α) : ∀ v ∈ enc x, v.oneCell' = true := kt.rd_one (H := fun _ => none) (Flat.rd_iff.2 rfl)
theorem flats_one (kt : Ty α) [Flat kt enc] (xs : List α) : ∀ v ∈ xs.flatMap enc, v.oneCell' = true := by
  intro v hv
  obtain ⟨x, _, hx⟩ := List.mem_flatMap.1 hv
  exact flat_one kt x v hx
theorem Inv.openrow {e : TypeId} {b n c : Nat} {xs : List α} (hI : Inv M w L) (li : Nat) (hL : L[li]? = some (.row kt e (some ⟨b, 0, none⟩) n c xs)) :
    ∃ cs, Inv M w (L.set li (.blk b e cs)) ∧ cs.length = c * kt.sz ∧ cs.take (n * kt.sz) = xs.flatMap enc ∧ xs.length = n ∧ n ≤ c ∧ c ≤ maxLen := by
  obtain ⟨F1, hF1, hown⟩ := hI.look hL
  obtain ⟨hr, hln⟩ := hown
  subst hln
  rcases hr with ⟨h0, _⟩ | ⟨b', arr, hA, hFb, hb, hlc, hcm, hsz, hseq⟩
  · cases h0
  · cases hA
    refine ⟨arr.toList, ?_, by simpa using hsz, seqOwn.flat.1 hseq, rfl, hlc, hcm⟩
    refine hI.turn hL (Nat.le_refl _) rfl rfl rfl ?_
    rintro F hF ⟨hr, _⟩
    rcases hr with ⟨h0, _⟩ | ⟨b2, arr2, hA2, hFb2, hb2, _⟩
    · cases h0
    · cases hA2
      have : arr2 = arr := by rw [hb] at hb2; cases hb2; rfl
      subst this
      exact ⟨F, ⟨hFb2, by simpa using hb2⟩, fun _ _ _ => rfl, fun _ h => .inl h⟩
theorem Inv.closerow {e : TypeId} {b c : Nat} {cs : List Value} (hI : Inv M w L) (li : Nat) (xs : List α) (hL : L[li]? = some (.blk b e cs)) (hlen : cs.length = c * kt.sz) (hcs : cs.take (xs.length * kt.sz) = xs.flatMap enc)
    (hlc : xs.length ≤ c) (hcm : c ≤ maxLen) : Inv M w (L.set li (.row kt e (some ⟨b, 0, none⟩) xs.length c xs)) := by
  refine hI.turn hL (Nat.le_refl _) rfl rfl rfl ?_
  rintro F hF ⟨hFb, hb⟩
  exact ⟨F, ⟨.inr ⟨b, cs.toArray, rfl, hFb, hb, hlc, hcm, by simpa using hlen, seqOwn.flat.2 (by simpa using hcs)⟩, rfl⟩, fun _ _ _ => rfl, fun _ h => .inl h⟩
def Src (H : BM) (sz : Nat) (v : Value) (n : Nat) (cs : List Value) : Prop :=
  cs.length = n * sz ∧ ∃ A c, v = .slice A n c ∧ (n * sz = 0 ∨ ∃ b o, A = some ⟨b, o, none⟩ ∧ ∀ j u, cs[j]? = some u → cellOf H b (o + j) = some u)
theorem Src.of_blk {e : TypeId} {b l h m sz : Nat} {cs : List Value} (hI : Inv M w L) (li : Nat) (hL : L[li]? = some (.blk b e cs)) (hlh : l ≤ h) (hm : h ≤ m) (hfit : h * sz ≤ cs.length) :
    Src (hp w) sz (sliced (some ⟨b, 0, none⟩) l h m sz) (h - l) ((cs.drop (l * sz)).take ((h - l) * sz)) := by
  have hfit2 : l * sz + (h - l) * sz = h * sz := by rw [← Nat.add_mul]; congr 1; omega
  refine ⟨by rw [List.length_take, List.length_drop]; omega, _, _, rfl, ?_⟩
  by_cases e : m = l
  · left; rw [show h - l = 0 by omega]; simp
  · refine .inr ⟨b, l * sz, by rw [if_neg e, Option.map_some, addr_add, Nat.zero_add], fun j u hu => ?_⟩
    have hg := hI.grp li hL (l * sz + j) u (by
      rw [List.getElem?_take] at hu
      split at hu
      · rwa [List.getElem?_drop] at hu
      · cases hu)
    rw [Nat.zero_add, cell_hp] at hg
    exact hg
theorem Src.first {P : Program} {sz n m : Nat} {v : Value} {cs : List Value} (h : Src (hp w) sz v n cs) (hm : m ≤ n) : (Builtin.firstCells sz m v).run P w = .ok (cs.take (m * sz)).toArray w := by
  obtain ⟨hl, A, c, rfl, h⟩ := h
  have hle : m * sz ≤ n * sz := Nat.mul_le_mul_right _ hm
  rcases h with h0 | ⟨b, o, rfl, hc⟩
  · have h1 : m * sz = 0 := by omega
    have h2 : cs.take (m * sz) = [] := by rw [h1]; rfl
    rw [h2]
    cases A with
    | none => rfl
    | some a => simp [Builtin.firstCells, h1, loadCells, loadCellsFrom, Sem.run, pure]
  · have := run_loadCells (P := P) (w := w) b o (cs.take (m * sz)) (fun j u hu => by
      rw [cell_hp]
      rw [List.getElem?_take] at hu
      split at hu
      · exact hc j u hu
      · cases hu)
    rw [List.length_take, Nat.min_eq_left (by omega)] at this
    exact this
theorem run_slice3 {P : Program} {w : World} {t e : TypeId} {inf : TypeInfo} (A : Option Addr) (n c : Nat) (kl kh km : IntKind) (l h m : Int) (ht : P.underlying t = some (.slice e)) (hi' : P.info? e = some inf)
    (hb : 0 ≤ l ∧ l ≤ h ∧ h ≤ m ∧ m ≤ c) : (Instr.sliceAt t (.slice A n c) (some (.int kl l)) (some (.int kh h)) (some (.int km m))).run P w = .ok (sliced A l.toNat h.toNat m.toNat inf.size) w := by
  have hel : P.elem t = e := by simp [Program.elem, ht]
  have ht' : P.underlying t = some (.slice (P.elem t)) := by rw [hel]; exact ht
  rw [run_sliceAt_slice w t _ _ _ _ ht', run_slice_lhm w t A n c ht' kl kh km l h m (by omega) (by omega) (by omega) (by omega), hel, run_sizeOf hi']
  rfl
theorem e_slice3 (t e : TypeId) (x lo hi mx : Operand) (inf : TypeInfo) (sz : Nat) (A : Option Addr) (n c : Nat) (kl kh km : IntKind) (l h m : Int) (hop : o.op = .slice t x (some lo) (some hi) (some mx))
    (hx : ev_ x = .slice A n c) (hl : ev_ lo = .int kl l) (hh : ev_ hi = .int kh h) (hm : ev_ mx = .int km m) (ht : P.underlying t = some (.slice e)) (hi' : P.info? e = some inf) (hsz : inf.size = sz)
    (hb : 0 ≤ l ∧ l ≤ h ∧ h ≤ m ∧ m ≤ c) (h : K (sliced A l.toNat h.toNat m.toNat sz) w) : Eff P o ev_ w K := by
  subst hsz
  refine eff_val _ (w' := w) ?_ h
  simp only [execOp, hop, hx, hl, hh, hm, Option.map_some, Sem.run_bind, run_slice3 A n c kl kh km l _ m ht hi' hb, Result.andThen, Sem.run, pure]
theorem run_slice2 {P : Program} {w : World} {t e : TypeId} {inf : TypeInfo} (A : Option Addr) (n c : Nat) (lo hi : Option Value) (kl kh : IntKind) (l h : Int) (ht : P.underlying t = some (.slice e)) (hi' : P.info? e = some inf)
    (hlo : lo.getD (.int .i64 0) = .int kl l) (hhi : hi.getD (.int .i64 n) = .int kh h) (hb : 0 ≤ l ∧ l ≤ h ∧ h ≤ c) :
    (Instr.sliceAt t (.slice A n c) lo hi none).run P w = .ok (sliced A l.toNat h.toNat c inf.size) w := by
  have hel : P.elem t = e := by simp [Program.elem, ht]
  have hz : (sizeOf (P.elem t)).run P w = .ok inf.size w := by rw [hel]; exact run_sizeOf hi'
  have ht' : P.underlying t = some (.slice (P.elem t)) := by rw [hel]; exact ht
  rw [run_sliceAt_slice w t _ _ _ _ ht']
  cases lo <;> cases hi <;> simp only [Option.getD_none, Option.getD_some] at hlo hhi
  · cases hlo; cases hhi
    rw [run_slice_all w t A n c ht', hz]
    simp [Result.andThen]
  · cases hlo; subst hhi
    rw [run_slice_h w t A n c ht' kh h (by omega) (by omega), hz]
    simp [Result.andThen]
  · cases hhi; subst hlo
    rw [run_slice_l w t A n c ht' kl l (by omega) (by omega), hz]
    simp [Result.andThen]
  · subst hlo hhi
    rw [run_slice_lh w t A n c ht' kl kh l h (by omega) (by omega) (by omega), hz]
    simp [Result.andThen]
theorem e_slice2 (t e : TypeId) (x : Operand) (lo hi : Option Operand) (inf : TypeInfo) (sz : Nat) (A : Option Addr) (n c : Nat) (kl kh : IntKind) (l h : Int) (hop : o.op = .slice t x lo hi none)
    (hx : ev_ x = .slice A n c) (hlo : (lo.map ev_).getD (.int .i64 0) = .int kl l) (hhi : (hi.map ev_).getD (.int .i64 n) = .int kh h) (ht : P.underlying t = some (.slice e)) (hi' : P.info? e = some inf) (hsz : inf.size = sz)
    (hb : 0 ≤ l ∧ l ≤ h ∧ h ≤ c) (h : K (sliced A l.toNat h.toNat c sz) w) : Eff P o ev_ w K := by
  subst hsz
  refine eff_val _ (w' := w) ?_ h
  have hrun := run_slice2 (P := P) (w := w) A n c (lo.map ev_) (hi.map ev_) kl kh l _ ht hi' hlo hhi hb
  simp only [execOp, hop, hx, Option.map_none, Sem.run_bind, hrun, Result.andThen, Sem.run, pure]
theorem Inv.putcells {e : TypeId} {b j : Nat} {cs vs : List Value} (hI : Inv M w L) (li : Nat) (hL : L[li]? = some (.blk b e cs)) :
    w.heap[b]? = some (.cells cs.toArray e (0, 0)) ∧ Inv M (w.setRow b (splice cs j vs).toArray) (L.set li (.blk b e (splice cs j vs))) := by
  obtain ⟨F1, hF1, hown⟩ := hI.look hL
  have hb : w.heap[b]? = some (.cells cs.toArray e (0, 0)) := hown.2
  refine ⟨hb, hI.turn hL (by rw [setRow_size]; exact Nat.le_refl _) rfl rfl rfl ?_⟩
  rintro F hF ⟨hFb, _⟩
  exact ⟨F, ⟨hFb, setRow_same w b _ _ _ _ hb⟩, fun b' _ hn => setRow_else w b b' _ (fun e => hn (e ▸ hFb)), fun b' hb' => .inl hb'⟩
theorem splice_nil (cs : List Value) (j : Nat) : splice cs j [] = cs := by simp [splice]
theorem run_putcells {e : TypeId} {b j : Nat} {cs vs : List Value} (hb : w.heap[b]? = some (.cells cs.toArray e (0, 0))) (hfit : j + vs.length ≤ cs.length) (h1 : ∀ v ∈ vs, v.oneCell' = true) :
    (storeCells ⟨b, j, none⟩ vs).run P w = .ok () (w.setRow b (splice cs j vs).toArray) := by
  have hst := run_storeCells_at P b j e vs 0 cs.toArray w hb (by simpa using hfit) h1
  simpa [splice] using hst
theorem e_append_in (s x : Operand) (t e : TypeId) (inf : TypeInfo) (sz : Nat) (li b n c m : Nat) (v : Value) (cs vs : List Value) (hop : o.op = .call { callee := .builtin .append, args := #[s, x], argTypes := #[t, t] })
    (hs0 : ev_ s = .slice (some ⟨b, 0, none⟩) n c) (hx : ev_ x = v) (hu : P.underlying t = some (.slice e)) (hi : P.info? e = some inf) (hsz : inf.size = sz) (hI : Inv M w L) (hL : L[li]? = some (.blk b e cs))
    (hs : Src (hp w) sz v m vs) (hfit : n + m ≤ c) (hlen : cs.length = c * sz) (h1 : ∀ v ∈ vs, v.oneCell' = true)
    (hK : ∀ w', Inv M w' (L.set li (.blk b e (splice cs (n * sz) vs))) → K (.slice (some ⟨b, 0, none⟩) (n + m) c) w') : Eff P o ev_ w K := by
  subst hsz
  obtain ⟨hb, hI'⟩ := hI.putcells (j := n * inf.size) (vs := vs) li hL
  have hf := hs.first (P := P) (Nat.le_refl m)
  obtain ⟨hl, A, c', rfl, hA⟩ := hs
  rw [List.take_of_length_le (by omega)] at hf
  have hmul : n * inf.size + m * inf.size ≤ c * inf.size := by rw [← Nat.add_mul]; exact Nat.mul_le_mul_right _ hfit
  have hst := run_putcells (P := P) (w := w) (j := n * inf.size) (vs := vs) hb (by omega) h1
  have hrun : (Builtin.append_ #[t, t] o.type #[.slice (some ⟨b, 0, none⟩) n c, .slice A m c']).run P w = .ok (.slice (some ⟨b, 0, none⟩) (n + m) c) (w.setRow b (splice cs (n * inf.size) vs).toArray) := by
    simp [Builtin.append_, run_underlying hu, sizeOf, typeInfo, hi, Builtin.lenOf, hfit, hf, addr_add, hst]
  refine eff_val _ ?_ (hK _ hI')
  simp only [execOp, hop, resolve, invoke, builtin, Sem.run_bind, Sem.run_pure, Result.andThen_ok, List.map_toArray, List.map_cons, List.map_nil, hs0, hx, hrun]
theorem zeroCells_len (z : Array Value) (n : Nat) : (Builtin.zeroCells z n).toList.length = n * z.size := by simp [Builtin.zeroCells]
theorem e_clear (x : Operand) (t e : TypeId) (inf : TypeInfo) (sz : Nat) (z : Value) (li b l h m : Nat) (cs : List Value) (hop : o.op = .call { callee := .builtin .clear, args := #[x], argTypes := #[t] })
    (hx : ev_ x = sliced (some ⟨b, 0, none⟩) l h m sz) (hu : P.underlying t = some (.slice e)) (hi : P.info? e = some inf) (hsz : inf.size = sz) (hz : inf.zero = some z) (hzs : z.cells.size = sz) (hz1 : z.cells.toList.all Value.oneCell' = true)
    (hI : Inv M w L) (hL : L[li]? = some (.blk b e cs)) (hm : h ≤ m) (hlh : l ≤ h) (hfit : h * sz ≤ cs.length)
    (hK : ∀ w' vs, vs.length = (h - l) * sz → Inv M w' (L.set li (.blk b e (splice cs (l * sz) vs))) → K (.tuple #[]) w') : Eff P o ev_ w K := by
  subst hsz
  have hzl := zeroCells_len z.cells (h - l)
  rw [hzs] at hzl
  have hz1' : ∀ v ∈ (Builtin.zeroCells z.cells (h - l)).toList, v.oneCell' = true := by
    intro v hv
    simp only [Builtin.zeroCells, Array.toList_map, List.mem_map] at hv
    obtain ⟨i, hi2, rfl⟩ := hv
    have hpos : 0 < z.cells.size := by
      rcases Nat.eq_zero_or_pos z.cells.size with h0 | h0
      · rw [h0] at hi2; simp at hi2
      · exact h0
    have hlt := Nat.mod_lt i hpos
    rw [getElem!_pos z.cells (i % z.cells.size) hlt]
    exact List.all_eq_true.1 hz1 _ (by simp)
  have hmul2 : l * inf.size + (h - l) * inf.size = h * inf.size := by rw [← Nat.add_mul]; congr 1; omega
  obtain ⟨hb, hI'⟩ := hI.putcells (j := l * inf.size) (vs := (Builtin.zeroCells z.cells (h - l)).toList) li hL
  have hst := run_putcells (P := P) (w := w) (j := l * inf.size) (vs := (Builtin.zeroCells z.cells (h - l)).toList) hb (by omega) hz1'
  have hrun : (Builtin.clear_ #[t] o.type #[sliced (some ⟨b, 0, none⟩) l h m inf.size]).run P w = .ok (.tuple #[]) (w.setRow b (splice cs (l * inf.size) (Builtin.zeroCells z.cells (h - l)).toList).toArray) := by
    cases hn : h - l with
    | zero =>
      have hv : (Builtin.zeroCells z.cells 0).toList = [] := by simp [Builtin.zeroCells]
      rw [hv, splice_nil, setRow_self w b cs.toArray e (0, 0) hb]
      simp only [sliced, hn]
      cases (if m = l then some (⟨b, 0, none⟩ : Addr) else Option.map (fun x : Addr => x.add (l * inf.size)) (some ⟨b, 0, none⟩)) <;> simp [Builtin.clear_, run_underlying hu]
    | succ q =>
      have hne : ¬ m = l := by omega
      rw [hn] at hst
      simp [Builtin.clear_, sliced, hn, hne, run_underlying hu, zeroValue, typeInfo, hi, hz, addr_add, hst]
  refine eff_val _ ?_ (hK _ _ hzl hI')
  simp only [execOp, hop, resolve, invoke, builtin, Sem.run_bind, Sem.run_pure, Result.andThen_ok, List.map_toArray, List.map_cons, List.map_nil, hx, hrun]
theorem flatMap_take {enc : α → List Value} {n : Nat} (h : ∀ x, (enc x).length = n) : ∀ (xs : List α) (k : Nat), (xs.take k).flatMap enc = (xs.flatMap enc).take (k * n)
  | [], k => by simp
  | x :: xs, 0 => by simp
  | x :: xs, k + 1 => by
    rw [List.take_succ_cons, List.flatMap_cons, List.flatMap_cons, flatMap_take h xs k, show (k + 1) * n = (enc x).length + k * n by rw [h x, Nat.add_mul]; omega, List.take_length_add_append]
theorem flatMap_drop {enc : α → List Value} {n : Nat} (h : ∀ x, (enc x).length = n) : ∀ (xs : List α) (k : Nat), (xs.drop k).flatMap enc = (xs.flatMap enc).drop (k * n)
  | [], k => by simp
  | x :: xs, 0 => by simp
  | x :: xs, k + 1 => by
    rw [List.drop_succ_cons, List.flatMap_cons, flatMap_drop h xs k, show (k + 1) * n = (enc x).length + k * n by rw [h x, Nat.add_mul]; omega, List.drop_length_add_append]
theorem part_cells {enc : α → List Value} {sz : Nat} (h : ∀ x, (enc x).length = sz) {cs : List Value} {xs : List α} {n j : Nat} (hn : xs.length = n) (hcs : cs.take (n * sz) = xs.flatMap enc) :
    (cs.drop (j * sz)).take ((n - j) * sz) = (xs.drop j).flatMap enc := by
  rw [flatMap_drop h, ← hcs, List.drop_take, Nat.sub_mul]
theorem splice_app {cs vs zs : List Value} {a : Nat} (ha : a + vs.length ≤ cs.length) : (splice (splice cs a vs) (a + vs.length) zs).take (a + vs.length) = cs.take a ++ vs := by
  have h1 : (splice cs a vs).take (a + vs.length) = cs.take a ++ vs := by
    unfold splice
    rw [← List.append_assoc, List.take_append_of_le_length (by simp; omega), List.take_of_length_le (by simp; omega)]
  have h2 : (splice cs a vs).length = cs.length := splice_len ha
  rw [← h1]
  generalize splice cs a vs = ds at h2
  unfold splice
  rw [List.take_append_of_le_length (by simp; omega), List.take_take, Nat.min_self]
theorem del_cells {enc : α → List Value} {sz : Nat} (h : ∀ x, (enc x).length = sz) {cs zs : List Value} {xs : List α} {n i j : Nat} (hn : xs.length = n) (hcs : cs.take (n * sz) = xs.flatMap enc) (hij : i ≤ j) (hj : j ≤ n) (hl : n * sz ≤ cs.length) :
    (splice (splice cs (i * sz) ((cs.drop (j * sz)).take ((n - j) * sz))) ((i + (n - j)) * sz) zs).take ((i + (n - j)) * sz) = (xs.take i ++ xs.drop j).flatMap enc := by
  rw [part_cells h hn hcs]
  have hlen : ((xs.drop j).flatMap enc).length = (n - j) * sz := by rw [flatMap_len h, List.length_drop, hn]
  have hle : (i + (n - j)) * sz ≤ n * sz := Nat.mul_le_mul_right _ (by omega)
  have he : (i + (n - j)) * sz = i * sz + ((xs.drop j).flatMap enc).length := by rw [hlen, Nat.add_mul]
  rw [he, splice_app (by rw [← he]; omega), List.flatMap_append, flatMap_take h, ← hcs, List.take_take, Nat.min_eq_left (Nat.mul_le_mul_right _ (by omega))]
theorem sliced_some (b o l h m s : Nat) : sliced (some ⟨b, o, none⟩) l h m s = .slice (some ⟨b, if m = l then o else o + l * s, none⟩) (h - l) (m - l) := by
  unfold sliced
  by_cases e : m = l <;> simp [e, addr_add]
def ifaceV (y : Int) : Value := match y with | .ofNat n => .iface n (.agg #[]) | .negSucc _ => .nilIface
theorem e_enter {R : Ending → World → Prop} (g : FuncId) (all : Array Value) (hent : Sem.pureRun P (execOp ev_ o) = some (.enter g all)) (hcall : Calls P g all w R)
    (h : ∀ e w', R e w' → ∃ v, e = .returned v ∧ K v w') : Eff P o ev_ w K := eff_call g all (Sem.pureRun_run _ hent w) hcall h
end
end Go.Proofs.YtnlkggppokcmfaaE
