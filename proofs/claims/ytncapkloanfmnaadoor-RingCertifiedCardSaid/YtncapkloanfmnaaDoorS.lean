/- The engine, part S: rows of the call's own as blocks of cells, for what moves within them (slices.Delete, slices.Insert, copy, clear). -/
import Derived.Test.YtncapkloanfmnaaDoorX
import Derived.Test.YtncapkloanfmnaaDoorP
import Derived.Lib.AppendZerosOnto
import Derived.Lib.Overlaps
namespace Go.Proofs.YtncapkloanfmnaaDoorE
open Go Go.Lib
set_option linter.unusedVariables false
set_option linter.unusedSimpArgs false

section
variable {P : Program} {o : Oper} {ev_ : Operand → Value} {K : Value → World → Prop} {w : World} {M : Mem} {L : List Asrt}
variable {α : Type} {kt : Ty α} {enc : α → List Value} [Flat kt enc]

theorem flat_len (x : α) : (enc x).length = kt.sz := kt.rd_len (H := fun _ => none) (Flat.rd_iff.2 rfl)
theorem flat_one (kt : Ty α) [Flat kt enc] (x : α) : ∀ v ∈ enc x, v.oneCell' = true := kt.rd_one (H := fun _ => none) (Flat.rd_iff.2 rfl)
theorem flats_one (kt : Ty α) [Flat kt enc] (xs : List α) : ∀ v ∈ xs.flatMap enc, v.oneCell' = true := by
  intro v hv
  obtain ⟨x, _, hx⟩ := List.mem_flatMap.1 hv
  exact flat_one kt x v hx

/-- a row of the call's own, as a block of cells -/
theorem Inv.openrow {e : TypeId} {b n c : Nat} {xs : List α} (hI : Inv M w L) (li : Nat) (hL : L[li]? = some (.row kt e (some ⟨b, 0, none⟩) n c xs)) :
    ∃ cs, Inv M w (L.set li (.blk b e cs)) ∧ cs.length = c * kt.sz ∧ cs.take (n * kt.sz) = xs.flatMap enc ∧ xs.length = n ∧ n ≤ c ∧ c ≤ maxLen := by
  obtain ⟨F1, hF1, hown⟩ := hI.look hL
  obtain ⟨hr, hln⟩ := hown
  subst hln
  rcases hr with ⟨h0, _⟩ | ⟨b', arr, hA, hFb, hb, hlc, hcm, hsz, hseq⟩
  · cases h0
  · cases hA
    refine ⟨arr.toList, ?_, by simpa using hsz, seqOwn.flat.1 hseq, rfl, hlc, hcm⟩
    refine hI.turn hL (Nat.le_refl _) rfl rfl rfl ?_
    rintro F hF ⟨hr, _⟩
    rcases hr with ⟨h0, _⟩ | ⟨b2, arr2, hA2, hFb2, hb2, _⟩
    · cases h0
    · cases hA2
      have : arr2 = arr := by rw [hb] at hb2; cases hb2; rfl
      subst this
      exact ⟨F, ⟨hFb2, by simpa using hb2⟩, fun _ _ _ => rfl, fun _ h => .inl h⟩
/-- and back -/
theorem Inv.closerow {e : TypeId} {b c : Nat} {cs : List Value} (hI : Inv M w L) (li : Nat) (xs : List α) (hL : L[li]? = some (.blk b e cs)) (hlen : cs.length = c * kt.sz) (hcs : cs.take (xs.length * kt.sz) = xs.flatMap enc)
    (hlc : xs.length ≤ c) (hcm : c ≤ maxLen) : Inv M w (L.set li (.row kt e (some ⟨b, 0, none⟩) xs.length c xs)) := by
  refine hI.turn hL (Nat.le_refl _) rfl rfl rfl ?_
  rintro F hF ⟨hFb, hb⟩
  exact ⟨F, ⟨.inr ⟨b, cs.toArray, rfl, hFb, hb, hlc, hcm, by simpa using hlen, seqOwn.flat.2 (by simpa using hcs)⟩, rfl⟩, fun _ _ _ => rfl, fun _ h => .inl h⟩

/-- a slice whose cells are known: what may be copied from -/
def Src (H : BM) (sz : Nat) (v : Value) (n : Nat) (cs : List Value) : Prop :=
  cs.length = n * sz ∧ ∃ A c, v = .slice A n c ∧ (n * sz = 0 ∨ ∃ b o, A = some ⟨b, o, none⟩ ∧ ∀ j u, cs[j]? = some u → cellOf H b (o + j) = some u)
theorem Src.of_rd {H : BM} {A : Option Addr} {c : Nat} {xs : List α} (hr : rdS kt H A xs) : Src H kt.sz (.slice A xs.length c) xs.length (xs.flatMap enc) := by
  refine ⟨flatMap_len (fun x => flat_len (kt := kt) x) xs, A, c, rfl, ?_⟩
  rcases hr with rfl | ⟨b, of, rfl, hcs⟩
  · left; simp
  · exact .inr ⟨b, of, rfl, rdS.cells hcs⟩
theorem Src.of_blk {e : TypeId} {b l h m sz : Nat} {cs : List Value} (hI : Inv M w L) (li : Nat) (hL : L[li]? = some (.blk b e cs)) (hlh : l ≤ h) (hm : h ≤ m) (hfit : h * sz ≤ cs.length) :
    Src (hp w) sz (sliced (some ⟨b, 0, none⟩) l h m sz) (h - l) ((cs.drop (l * sz)).take ((h - l) * sz)) := by
  have hfit2 : l * sz + (h - l) * sz = h * sz := by rw [← Nat.add_mul]; congr 1; omega
  refine ⟨by rw [List.length_take, List.length_drop]; omega, _, _, rfl, ?_⟩
  by_cases e : m = l
  · left; rw [show h - l = 0 by omega]; simp
  · refine .inr ⟨b, l * sz, by rw [if_neg e, Option.map_some, addr_add, Nat.zero_add], fun j u hu => ?_⟩
    have hg := hI.grp li hL (l * sz + j) u (by
      rw [List.getElem?_take] at hu
      split at hu
      · rwa [List.getElem?_drop] at hu
      · cases hu)
    rw [Nat.zero_add, cell_hp] at hg
    exact hg
theorem Src.first {P : Program} {sz n m : Nat} {v : Value} {cs : List Value} (h : Src (hp w) sz v n cs) (hm : m ≤ n) : (Builtin.firstCells sz m v).run P w = .ok (cs.take (m * sz)).toArray w := by
  obtain ⟨hl, A, c, rfl, h⟩ := h
  have hle : m * sz ≤ n * sz := Nat.mul_le_mul_right _ hm
  rcases h with h0 | ⟨b, o, rfl, hc⟩
  · have h1 : m * sz = 0 := by omega
    have h2 : cs.take (m * sz) = [] := by rw [h1]; rfl
    rw [h2]
    cases A with
    | none => rfl
    | some a => simp [Builtin.firstCells, h1, loadCells, loadCellsFrom, Sem.run, pure]
  · have := run_loadCells (P := P) (w := w) b o (cs.take (m * sz)) (fun j u hu => by
      rw [cell_hp]
      rw [List.getElem?_take] at hu
      split at hu
      · exact hc j u hu
      · cases hu)
    rw [List.length_take, Nat.min_eq_left (by omega)] at this
    exact this

theorem run_slice3 {P : Program} {w : World} {t e : TypeId} {inf : TypeInfo} (A : Option Addr) (n c : Nat) (kl kh km : IntKind) (l h m : Int) (ht : P.underlying t = some (.slice e)) (hi' : P.info? e = some inf)
    (hb : 0 ≤ l ∧ l ≤ h ∧ h ≤ m ∧ m ≤ c) : (Instr.sliceAt t (.slice A n c) (some (.int kl l)) (some (.int kh h)) (some (.int km m))).run P w = .ok (sliced A l.toNat h.toNat m.toNat inf.size) w := by
  have hel : P.elem t = e := by simp [Program.elem, ht]
  have ht' : P.underlying t = some (.slice (P.elem t)) := by rw [hel]; exact ht
  rw [run_sliceAt_slice w t _ _ _ _ ht', run_slice_lhm w t A n c ht' kl kh km l h m (by omega) (by omega) (by omega) (by omega), hel, run_sizeOf hi']
  rfl
theorem e_slice3 (t e : TypeId) (x lo hi mx : Operand) (inf : TypeInfo) (sz : Nat) (A : Option Addr) (n c : Nat) (kl kh km : IntKind) (l h m : Int) (hop : o.op = .slice t x (some lo) (some hi) (some mx))
    (hx : ev_ x = .slice A n c) (hl : ev_ lo = .int kl l) (hh : ev_ hi = .int kh h) (hm : ev_ mx = .int km m) (ht : P.underlying t = some (.slice e)) (hi' : P.info? e = some inf) (hsz : inf.size = sz)
    (hb : 0 ≤ l ∧ l ≤ h ∧ h ≤ m ∧ m ≤ c) (h : K (sliced A l.toNat h.toNat m.toNat sz) w) : Eff P o ev_ w K := by
  subst hsz
  refine eff_val _ (w' := w) ?_ h
  simp only [execOp, hop, hx, hl, hh, hm, Option.map_some, Sem.run_bind, run_slice3 A n c kl kh km l _ m ht hi' hb, Result.andThen, Sem.run, pure]
theorem run_slice2 {P : Program} {w : World} {t e : TypeId} {inf : TypeInfo} (A : Option Addr) (n c : Nat) (lo hi : Option Value) (kl kh : IntKind) (l h : Int) (ht : P.underlying t = some (.slice e)) (hi' : P.info? e = some inf)
    (hlo : lo.getD (.int .i64 0) = .int kl l) (hhi : hi.getD (.int .i64 n) = .int kh h) (hb : 0 ≤ l ∧ l ≤ h ∧ h ≤ c) :
    (Instr.sliceAt t (.slice A n c) lo hi none).run P w = .ok (sliced A l.toNat h.toNat c inf.size) w := by
  have hel : P.elem t = e := by simp [Program.elem, ht]
  have hz : (sizeOf (P.elem t)).run P w = .ok inf.size w := by rw [hel]; exact run_sizeOf hi'
  have ht' : P.underlying t = some (.slice (P.elem t)) := by rw [hel]; exact ht
  rw [run_sliceAt_slice w t _ _ _ _ ht']
  cases lo <;> cases hi <;> simp only [Option.getD_none, Option.getD_some] at hlo hhi
  · cases hlo; cases hhi
    rw [run_slice_all w t A n c ht', hz]
    simp [Result.andThen]
  · cases hlo; subst hhi
    rw [run_slice_h w t A n c ht' kh h (by omega) (by omega), hz]
    simp [Result.andThen]
  · cases hhi; subst hlo
    rw [run_slice_l w t A n c ht' kl l (by omega) (by omega), hz]
    simp [Result.andThen]
  · subst hlo hhi
    rw [run_slice_lh w t A n c ht' kl kh l h (by omega) (by omega) (by omega), hz]
    simp [Result.andThen]
/-- a part, up to the capacity -/
theorem e_slice2 (t e : TypeId) (x : Operand) (lo hi : Option Operand) (inf : TypeInfo) (sz : Nat) (A : Option Addr) (n c : Nat) (kl kh : IntKind) (l h : Int) (hop : o.op = .slice t x lo hi none)
    (hx : ev_ x = .slice A n c) (hlo : (lo.map ev_).getD (.int .i64 0) = .int kl l) (hhi : (hi.map ev_).getD (.int .i64 n) = .int kh h) (ht : P.underlying t = some (.slice e)) (hi' : P.info? e = some inf) (hsz : inf.size = sz)
    (hb : 0 ≤ l ∧ l ≤ h ∧ h ≤ c) (h : K (sliced A l.toNat h.toNat c sz) w) : Eff P o ev_ w K := by
  subst hsz
  refine eff_val _ (w' := w) ?_ h
  have hrun := run_slice2 (P := P) (w := w) A n c (lo.map ev_) (hi.map ev_) kl kh l _ ht hi' hlo hhi hb
  simp only [execOp, hop, hx, Option.map_none, Sem.run_bind, hrun, Result.andThen, Sem.run, pure]

/-- cells are put into a block of the call's own -/
theorem Inv.putcells {e : TypeId} {b j : Nat} {cs vs : List Value} (hI : Inv M w L) (li : Nat) (hL : L[li]? = some (.blk b e cs)) :
    w.heap[b]? = some (.cells cs.toArray e (0, 0)) ∧ Inv M (w.setRow b (splice cs j vs).toArray) (L.set li (.blk b e (splice cs j vs))) := by
  obtain ⟨F1, hF1, hown⟩ := hI.look hL
  have hb : w.heap[b]? = some (.cells cs.toArray e (0, 0)) := hown.2
  refine ⟨hb, hI.turn hL (by rw [setRow_size]; exact Nat.le_refl _) rfl rfl rfl ?_⟩
  rintro F hF ⟨hFb, _⟩
  exact ⟨F, ⟨hFb, setRow_same w b _ _ _ _ hb⟩, fun b' _ hn => setRow_else w b b' _ (fun e => hn (e ▸ hFb)), fun b' hb' => .inl hb'⟩
theorem splice_nil (cs : List Value) (j : Nat) : splice cs j [] = cs := by simp [splice]
theorem run_putcells {e : TypeId} {b j : Nat} {cs vs : List Value} (hb : w.heap[b]? = some (.cells cs.toArray e (0, 0))) (hfit : j + vs.length ≤ cs.length) (h1 : ∀ v ∈ vs, v.oneCell' = true) :
    (storeCells ⟨b, j, none⟩ vs).run P w = .ok () (w.setRow b (splice cs j vs).toArray) := by
  have hst := run_storeCells_at P b j e vs 0 cs.toArray w hb (by simpa using hfit) h1
  simpa [splice] using hst
theorem run_copy_src {dT sT ty e : TypeId} {inf : TypeInfo} {b l h m n : Nat} {v : Value} {cs vs : List Value} (hu : P.underlying dT = some (.slice e)) (hi : P.info? e = some inf)
    (hb : w.heap[b]? = some (.cells cs.toArray e (0, 0))) (hs : Src (hp w) inf.size v n vs) (hm : h ≤ m) (hlh : l ≤ h) (hfit : h * inf.size ≤ cs.length) (h1 : ∀ v ∈ vs.take (Nat.min n (h - l) * inf.size), v.oneCell' = true) :
    (Builtin.copy_ #[dT, sT] ty #[sliced (some ⟨b, 0, none⟩) l h m inf.size, v]).run P w = .ok (goInt (Nat.min n (h - l))) (w.setRow b (splice cs (l * inf.size) (vs.take (Nat.min n (h - l) * inf.size))).toArray) := by
  have hkn : Nat.min n (h - l) ≤ n := Nat.min_le_left n (h - l)
  have hkh : Nat.min n (h - l) ≤ h - l := Nat.min_le_right n (h - l)
  generalize hk : Nat.min n (h - l) = k at hkn hkh h1 ⊢
  have hk' : min n (h - l) = k := hk
  have hf := hs.first (P := P) hkn
  obtain ⟨hl, A, c, rfl, hA⟩ := hs
  have hmul : k * inf.size ≤ n * inf.size := Nat.mul_le_mul_right _ hkn
  have hmul2 : l * inf.size + k * inf.size ≤ h * inf.size := by rw [← Nat.add_mul]; exact Nat.mul_le_mul_right _ (by omega)
  have hlen : (vs.take (k * inf.size)).length = k * inf.size := by rw [List.length_take]; omega
  by_cases e0 : m = l
  · have hz : k = 0 := by omega
    subst hz
    have ht : vs.take (0 * inf.size) = [] := by simp
    rw [ht] at hf ⊢
    rw [splice_nil, setRow_self w b cs.toArray e (0, 0) hb]
    have hh : h - l = 0 := by omega
    rw [hh] at hk'
    simp [Builtin.copy_, sliced, run_underlying hu, Builtin.lenOf, sizeOf, typeInfo, hi, e0, hf, storeCells, hh, hk']
  · have hst := run_putcells (P := P) (w := w) (j := l * inf.size) (vs := vs.take (k * inf.size)) hb (by omega) h1
    simp [Builtin.copy_, sliced, run_underlying hu, Builtin.lenOf, sizeOf, typeInfo, hi, e0, hf, addr_add, hst, hk']
/-- copy into a part of a row of the call's own, from what may lie in it too -/
theorem e_copy (d x : Operand) (dT sT e : TypeId) (inf : TypeInfo) (sz : Nat) (li b l h m n : Nat) (v : Value) (cs vs : List Value) (hop : o.op = .call { callee := .builtin .copy, args := #[d, x], argTypes := #[dT, sT] })
    (hd : ev_ d = sliced (some ⟨b, 0, none⟩) l h m sz) (hx : ev_ x = v) (hu : P.underlying dT = some (.slice e)) (hi : P.info? e = some inf) (hsz : inf.size = sz) (hI : Inv M w L) (hL : L[li]? = some (.blk b e cs))
    (hs : Src (hp w) sz v n vs) (hm : h ≤ m) (hlh : l ≤ h) (hfit : h * sz ≤ cs.length) (h1 : ∀ v ∈ vs.take (Nat.min n (h - l) * sz), v.oneCell' = true)
    (hK : ∀ w', Inv M w' (L.set li (.blk b e (splice cs (l * sz) (vs.take (Nat.min n (h - l) * sz))))) → K (.int .i64 (Nat.min n (h - l) : Nat)) w') : Eff P o ev_ w K := by
  subst hsz
  obtain ⟨hb, hI'⟩ := hI.putcells (j := l * inf.size) (vs := vs.take (Nat.min n (h - l) * inf.size)) li hL
  have hrun := run_copy_src (P := P) (ty := o.type) (sT := sT) hu hi hb hs hm hlh hfit h1
  refine eff_val _ ?_ (hK _ hI')
  simp only [execOp, hop, resolve, invoke, builtin, Sem.run_bind, Sem.run_pure, Result.andThen_ok, List.map_toArray, List.map_cons, List.map_nil, hd, hx, hrun]
  rfl
/-- append within the capacity, from what may lie in the same row -/
theorem e_append_in (s x : Operand) (t e : TypeId) (inf : TypeInfo) (sz : Nat) (li b n c m : Nat) (v : Value) (cs vs : List Value) (hop : o.op = .call { callee := .builtin .append, args := #[s, x], argTypes := #[t, t] })
    (hs0 : ev_ s = .slice (some ⟨b, 0, none⟩) n c) (hx : ev_ x = v) (hu : P.underlying t = some (.slice e)) (hi : P.info? e = some inf) (hsz : inf.size = sz) (hI : Inv M w L) (hL : L[li]? = some (.blk b e cs))
    (hs : Src (hp w) sz v m vs) (hfit : n + m ≤ c) (hlen : cs.length = c * sz) (h1 : ∀ v ∈ vs, v.oneCell' = true)
    (hK : ∀ w', Inv M w' (L.set li (.blk b e (splice cs (n * sz) vs))) → K (.slice (some ⟨b, 0, none⟩) (n + m) c) w') : Eff P o ev_ w K := by
  subst hsz
  obtain ⟨hb, hI'⟩ := hI.putcells (j := n * inf.size) (vs := vs) li hL
  have hf := hs.first (P := P) (Nat.le_refl m)
  obtain ⟨hl, A, c', rfl, hA⟩ := hs
  rw [List.take_of_length_le (by omega)] at hf
  have hmul : n * inf.size + m * inf.size ≤ c * inf.size := by rw [← Nat.add_mul]; exact Nat.mul_le_mul_right _ hfit
  have hst := run_putcells (P := P) (w := w) (j := n * inf.size) (vs := vs) hb (by omega) h1
  have hrun : (Builtin.append_ #[t, t] o.type #[.slice (some ⟨b, 0, none⟩) n c, .slice A m c']).run P w = .ok (.slice (some ⟨b, 0, none⟩) (n + m) c) (w.setRow b (splice cs (n * inf.size) vs).toArray) := by
    simp [Builtin.append_, run_underlying hu, sizeOf, typeInfo, hi, Builtin.lenOf, hfit, hf, addr_add, hst]
  refine eff_val _ ?_ (hK _ hI')
  simp only [execOp, hop, resolve, invoke, builtin, Sem.run_bind, Sem.run_pure, Result.andThen_ok, List.map_toArray, List.map_cons, List.map_nil, hs0, hx, hrun]
theorem zeroCells_len (z : Array Value) (n : Nat) : (Builtin.zeroCells z n).toList.length = n * z.size := by simp [Builtin.zeroCells]
/-- clear, of a part of a row of the call's own -/
theorem e_clear (x : Operand) (t e : TypeId) (inf : TypeInfo) (sz : Nat) (z : Value) (li b l h m : Nat) (cs : List Value) (hop : o.op = .call { callee := .builtin .clear, args := #[x], argTypes := #[t] })
    (hx : ev_ x = sliced (some ⟨b, 0, none⟩) l h m sz) (hu : P.underlying t = some (.slice e)) (hi : P.info? e = some inf) (hsz : inf.size = sz) (hz : inf.zero = some z) (hzs : z.cells.size = sz) (hz1 : z.cells.toList.all Value.oneCell' = true)
    (hI : Inv M w L) (hL : L[li]? = some (.blk b e cs)) (hm : h ≤ m) (hlh : l ≤ h) (hfit : h * sz ≤ cs.length)
    (hK : ∀ w' vs, vs.length = (h - l) * sz → Inv M w' (L.set li (.blk b e (splice cs (l * sz) vs))) → K (.tuple #[]) w') : Eff P o ev_ w K := by
  subst hsz
  have hzl := zeroCells_len z.cells (h - l)
  rw [hzs] at hzl
  have hz1' : ∀ v ∈ (Builtin.zeroCells z.cells (h - l)).toList, v.oneCell' = true := by
    intro v hv
    simp only [Builtin.zeroCells, Array.toList_map, List.mem_map] at hv
    obtain ⟨i, hi2, rfl⟩ := hv
    have hpos : 0 < z.cells.size := by
      rcases Nat.eq_zero_or_pos z.cells.size with h0 | h0
      · rw [h0] at hi2; simp at hi2
      · exact h0
    have hlt := Nat.mod_lt i hpos
    rw [getElem!_pos z.cells (i % z.cells.size) hlt]
    exact List.all_eq_true.1 hz1 _ (by simp)
  have hmul2 : l * inf.size + (h - l) * inf.size = h * inf.size := by rw [← Nat.add_mul]; congr 1; omega
  obtain ⟨hb, hI'⟩ := hI.putcells (j := l * inf.size) (vs := (Builtin.zeroCells z.cells (h - l)).toList) li hL
  have hst := run_putcells (P := P) (w := w) (j := l * inf.size) (vs := (Builtin.zeroCells z.cells (h - l)).toList) hb (by omega) hz1'
  have hrun : (Builtin.clear_ #[t] o.type #[sliced (some ⟨b, 0, none⟩) l h m inf.size]).run P w = .ok (.tuple #[]) (w.setRow b (splice cs (l * inf.size) (Builtin.zeroCells z.cells (h - l)).toList).toArray) := by
    cases hn : h - l with
    | zero =>
      have hv : (Builtin.zeroCells z.cells 0).toList = [] := by simp [Builtin.zeroCells]
      rw [hv, splice_nil, setRow_self w b cs.toArray e (0, 0) hb]
      simp only [sliced, hn]
      cases (if m = l then some (⟨b, 0, none⟩ : Addr) else Option.map (fun x : Addr => x.add (l * inf.size)) (some ⟨b, 0, none⟩)) <;> simp [Builtin.clear_, run_underlying hu]
    | succ q =>
      have hne : ¬ m = l := by omega
      rw [hn] at hst
      simp [Builtin.clear_, sliced, hn, hne, run_underlying hu, zeroValue, typeInfo, hi, hz, addr_add, hst]
  refine eff_val _ ?_ (hK _ _ hzl hI')
  simp only [execOp, hop, resolve, invoke, builtin, Sem.run_bind, Sem.run_pure, Result.andThen_ok, List.map_toArray, List.map_cons, List.map_nil, hx, hrun]

theorem flatMap_take {enc : α → List Value} {n : Nat} (h : ∀ x, (enc x).length = n) : ∀ (xs : List α) (k : Nat), (xs.take k).flatMap enc = (xs.flatMap enc).take (k * n)
  | [], k => by simp
  | x :: xs, 0 => by simp
  | x :: xs, k + 1 => by
    rw [List.take_succ_cons, List.flatMap_cons, List.flatMap_cons, flatMap_take h xs k, show (k + 1) * n = (enc x).length + k * n by rw [h x, Nat.add_mul]; omega, List.take_length_add_append]
theorem flatMap_drop {enc : α → List Value} {n : Nat} (h : ∀ x, (enc x).length = n) : ∀ (xs : List α) (k : Nat), (xs.drop k).flatMap enc = (xs.flatMap enc).drop (k * n)
  | [], k => by simp
  | x :: xs, 0 => by simp
  | x :: xs, k + 1 => by
    rw [List.drop_succ_cons, List.flatMap_cons, flatMap_drop h xs k, show (k + 1) * n = (enc x).length + k * n by rw [h x, Nat.add_mul]; omega, List.drop_length_add_append]
theorem part_cells {enc : α → List Value} {sz : Nat} (h : ∀ x, (enc x).length = sz) {cs : List Value} {xs : List α} {n j : Nat} (hn : xs.length = n) (hcs : cs.take (n * sz) = xs.flatMap enc) :
    (cs.drop (j * sz)).take ((n - j) * sz) = (xs.drop j).flatMap enc := by
  rw [flatMap_drop h, ← hcs, List.drop_take, Nat.sub_mul]
theorem splice_app {cs vs zs : List Value} {a : Nat} (ha : a + vs.length ≤ cs.length) : (splice (splice cs a vs) (a + vs.length) zs).take (a + vs.length) = cs.take a ++ vs := by
  have h1 : (splice cs a vs).take (a + vs.length) = cs.take a ++ vs := by
    unfold splice
    rw [← List.append_assoc, List.take_append_of_le_length (by simp; omega), List.take_of_length_le (by simp; omega)]
  have h2 : (splice cs a vs).length = cs.length := splice_len ha
  rw [← h1]
  generalize splice cs a vs = ds at h2
  unfold splice
  rw [List.take_append_of_le_length (by simp; omega), List.take_take, Nat.min_self]
theorem del_cells {enc : α → List Value} {sz : Nat} (h : ∀ x, (enc x).length = sz) {cs zs : List Value} {xs : List α} {n i j : Nat} (hn : xs.length = n) (hcs : cs.take (n * sz) = xs.flatMap enc) (hij : i ≤ j) (hj : j ≤ n) (hl : n * sz ≤ cs.length) :
    (splice (splice cs (i * sz) ((cs.drop (j * sz)).take ((n - j) * sz))) ((i + (n - j)) * sz) zs).take ((i + (n - j)) * sz) = (xs.take i ++ xs.drop j).flatMap enc := by
  rw [part_cells h hn hcs]
  have hlen : ((xs.drop j).flatMap enc).length = (n - j) * sz := by rw [flatMap_len h, List.length_drop, hn]
  have hle : (i + (n - j)) * sz ≤ n * sz := Nat.mul_le_mul_right _ (by omega)
  have he : (i + (n - j)) * sz = i * sz + ((xs.drop j).flatMap enc).length := by rw [hlen, Nat.add_mul]
  rw [he, splice_app (by rw [← he]; omega), List.flatMap_append, flatMap_take h, ← hcs, List.take_take, Nat.min_eq_left (Nat.mul_le_mul_right _ (by omega))]

/-- append of zeros past the capacity: a new block -/
theorem e_append_zeros (s x : Operand) (t tn e : TypeId) (inf : TypeInfo) (sz : Nat) (z : Value) (v : Value) (n c k : Nat) (kn kq : IntKind) (vs : List Value) (A : Option Addr) (hop : o.op = .call { callee := .builtin .append, args := #[s, x], argTypes := #[t, tn] })
    (hs0 : ev_ s = .slice A n c) (hx : ev_ x = .int kq k) (hu : P.underlying t = some (.slice e)) (hun : P.underlying tn = some (.int kn)) (hi : P.info? e = some inf) (hsz : inf.size = sz) (hz : inf.zero = some z) (hzs : z.cells.size = sz)
    (hs : Src (hp w) sz (.slice A n c) n vs) (hI : Inv M w L) (hk : 0 < k) (hpos : 0 < sz) (hc : c < n + k) (hnk : n + k ≤ maxLen) (hbytes : ((n + k) + (n + k) / 4 + 192) * inf.bytes ≤ 281474976710656)
    (hK : ∀ b c' cs w', cs.length = c' * sz → cs.take (n * sz) = vs → n + k ≤ c' → c' ≤ maxLen → Inv M w' (L ++ [.blk b e cs]) → K (.slice (some ⟨b, 0, none⟩) (n + k) c') w') : Eff P o ev_ w K := by
  subst hsz
  have hsmall : n + k ≤ 9223372036854775807 := by simp only [maxLen] at hnk; omega
  have hf := hs.first (P := P) (Nat.le_refl n)
  have hvl := hs.1
  rw [List.take_of_length_le (by omega)] at hf
  have hf' : (Builtin.firstCells inf.size n (.slice A n c)).run P w.drew = .ok vs.toArray w.drew := by
    have hs' : Src (hp w.drew) inf.size (.slice A n c) n vs := hs
    have := hs'.first (P := P) (Nat.le_refl n)
    rwa [List.take_of_length_le (by omega)] at this
  have hkb : k * inf.bytes ≤ 281474976710656 := by
    have : k * inf.bytes ≤ ((n + k) + (n + k) / 4 + 192) * inf.bytes := Nat.mul_le_mul_right _ (by omega)
    omega
  have hrun := run_append_grow_zeros (P := P) w t tn o.type e inf z kq kn hu hun hi hz A n c vs hf' k hk hpos hc (by omega) hkb (growslice_fits_wide (by omega) hbytes)
  have hge := grownCap_ge w (n + k) c e
  have hlm := grownCap_le_maxLen w (n + k) c e hnk
  refine eff_val _ ?_ (hK w.heap.size (grownCap w (n + k) c e) (vs.toArray ++ Builtin.zeroCells z.cells k ++ Builtin.zeroCells z.cells (grownCap w (n + k) c e - (n + k))).toList _ ?_ ?_ hge hlm (hI.drew'.alloc_blk e _))
  · simp only [execOp, hop, resolve, invoke, builtin, Sem.run_bind, Sem.run_pure, Result.andThen_ok, List.map_toArray, List.map_cons, List.map_nil, hs0, hx, hrun]
  · simp only [Array.toList_append, List.length_append, zeroCells_len, hzs, hvl]
    rw [← Nat.add_mul, ← Nat.add_mul]
    congr 1
    omega
  · simp only [Array.toList_append]
    rw [List.append_assoc, ← hvl, List.take_left]
/-- slices of two blocks do not overlap -/
theorem e_overlaps (x y : Operand) (ts : Array TypeId) (g : FuncId) (tS tR e : TypeId) (inf : TypeInfo) (a b : Addr) (n c n' c' : Nat) (hop : o.op = .call { callee := .value (.func g), args := #[x, y], argTypes := ts })
    (hev : ev_ (.func g) = .func (.func g) #[] #[]) (hx : ev_ x = .slice (some a) n c) (hy : ev_ y = .slice (some b) n' c') (hu : P.underlying tS = some (.slice e)) (hi : P.info? e = some inf)
    (hrun : ∀ a w, (callFunc g a).run P w = ((Extern.SlicesOverlaps.overlaps #[tS, tS] #[tR] a).run P w).andThen fun v w => .ok (.value v) w)
    (hne : a.block ≠ b.block) (ha : ∃ arr t, w.heap[a.block]? = some (.cells arr t (0, 0))) (hb : ∃ arr t, w.heap[b.block]? = some (.cells arr t (0, 0)) ∧ arr.size ≠ 0)
    (hK : K (.bool false) w) : Eff P o ev_ w K := by
  obtain ⟨arr, t, ha⟩ := ha
  obtain ⟨arr2, t2, hb, hb0⟩ := hb
  have h1 := run_overlaps_apart w tS tR e hu inf.size (fun w => run_sizeOf hi) a b n c n' c' hne t t2 arr.size arr2.size (by simp [World.shape?, ha]) (by simp [World.shape?, hb]) hb0 (by simp [World.frozen?, ha]) (by simp [World.frozen?, ha])
  refine eff_val (.bool false) ?_ hK
  simp only [execOp, hop, resolve, hev, Deferred.ofValue, Sem.run_bind, Sem.run_pure, Result.andThen_ok, List.map_toArray, List.map_cons, List.map_nil, hx, hy, invoke, Array.append_empty, Array.empty_append, hrun, h1]

theorem Src.front {e : TypeId} {b n c sz : Nat} {cs : List Value} (hI : Inv M w L) (li : Nat) (hL : L[li]? = some (.blk b e cs)) (hfit : n * sz ≤ cs.length) :
    Src (hp w) sz (.slice (some ⟨b, 0, none⟩) n c) n (cs.take (n * sz)) := by
  refine ⟨by rw [List.length_take]; omega, _, _, rfl, .inr ⟨b, 0, rfl, fun j u hu => ?_⟩⟩
  have hg := hI.grp li hL j u (by
    rw [List.getElem?_take] at hu
    split at hu
    · exact hu
    · cases hu)
  rw [cell_hp] at hg
  exact hg
theorem Inv.apart2 {b b' : Nat} {t t' : TypeId} {cs cs' : List Value} (h : Inv M w (.blk b t cs :: .blk b' t' cs' :: L)) : b ≠ b' := by
  obtain ⟨F1, F2, h1, h2, h3, ⟨hb, _⟩, ⟨G1, G2, g1, g2, g3, ⟨hb', _⟩, _⟩⟩ := h.sep
  intro e
  subst e
  exact h3 _ hb (g1 _ hb')
theorem sliced_some (b o l h m s : Nat) : sliced (some ⟨b, o, none⟩) l h m s = .slice (some ⟨b, if m = l then o else o + l * s, none⟩) (h - l) (m - l) := by
  unfold sliced
  by_cases e : m = l <;> simp [e, addr_add]
theorem splice_to {cs vs : List Value} {a : Nat} (ha : a + vs.length ≤ cs.length) : (splice cs a vs).take (a + vs.length) = cs.take a ++ vs := by
  unfold splice
  rw [← List.append_assoc, List.take_append_of_le_length (by simp; omega), List.take_of_length_le (by simp; omega)]
theorem splice_from {cs vs : List Value} {a : Nat} (ha : a + vs.length ≤ cs.length) : (splice cs a vs).drop a = vs ++ cs.drop (a + vs.length) := by
  unfold splice
  rw [List.drop_append_of_le_length (by simp; omega), List.drop_of_length_le (by simp; omega), List.nil_append]
theorem ins_cells1 {enc : α → List Value} {sz : Nat} (h : ∀ x, (enc x).length = sz) {cs : List Value} {xs ys : List α} {i : Nat} (hcs : cs.take (i * sz) = (xs.take i).flatMap enc) (hi : i ≤ xs.length) (hl : (xs.length + ys.length) * sz ≤ cs.length) :
    (splice (splice cs (i * sz) (ys.flatMap enc)) ((i + ys.length) * sz) ((xs.drop i).flatMap enc)).take ((xs.length + ys.length) * sz) = (xs.take i ++ ys ++ xs.drop i).flatMap enc := by
  have l1 : (ys.flatMap enc).length = ys.length * sz := flatMap_len h ys
  have l2 : ((xs.drop i).flatMap enc).length = (xs.length - i) * sz := by rw [flatMap_len h, List.length_drop]
  have e1 : (i + ys.length) * sz = i * sz + (ys.flatMap enc).length := by rw [l1, Nat.add_mul]
  have e2 : (xs.length + ys.length) * sz = (i + ys.length) * sz + ((xs.drop i).flatMap enc).length := by rw [l2, ← Nat.add_mul]; congr 1; omega
  have h3 : (splice cs (i * sz) (ys.flatMap enc)).length = cs.length := splice_len (by omega)
  rw [e2, splice_to (by omega), e1, splice_to (by omega), hcs]
  simp [List.flatMap_append]
theorem ins_cells2 {enc : α → List Value} {sz : Nat} (h : ∀ x, (enc x).length = sz) {cs : List Value} {xs ys : List α} {i : Nat} (hcs : cs.take (i * sz) = (xs.take i).flatMap enc) (hi : i ≤ xs.length) (hl : (xs.length + ys.length) * sz ≤ cs.length) :
    (splice (splice cs ((i + ys.length) * sz) ((xs.drop i).flatMap enc)) (i * sz) (ys.flatMap enc)).take ((xs.length + ys.length) * sz) = (xs.take i ++ ys ++ xs.drop i).flatMap enc := by
  have l1 : (ys.flatMap enc).length = ys.length * sz := flatMap_len h ys
  have l2 : ((xs.drop i).flatMap enc).length = (xs.length - i) * sz := by rw [flatMap_len h, List.length_drop]
  have e1 : (i + ys.length) * sz = i * sz + (ys.flatMap enc).length := by rw [l1, Nat.add_mul]
  have e2 : (xs.length + ys.length) * sz = (i + ys.length) * sz + ((xs.drop i).flatMap enc).length := by rw [l2, ← Nat.add_mul]; congr 1; omega
  have h3 : (splice cs ((i + ys.length) * sz) ((xs.drop i).flatMap enc)).length = cs.length := splice_len (by omega)
  have h4 : (splice cs ((i + ys.length) * sz) ((xs.drop i).flatMap enc)).take (i * sz) = cs.take (i * sz) := by
    unfold splice
    rw [List.take_append_of_le_length (by simp; omega), List.take_take, Nat.min_eq_left (by omega)]
  have h5 : (splice cs ((i + ys.length) * sz) ((xs.drop i).flatMap enc)).drop (i * sz + (ys.flatMap enc).length) = (xs.drop i).flatMap enc ++ cs.drop ((i + ys.length) * sz + ((xs.drop i).flatMap enc).length) := by
    rw [← e1, splice_from (by omega)]
  have l3 : ((xs.take i).flatMap enc).length = i * sz := by rw [flatMap_len h, List.length_take, Nat.min_eq_left hi]
  have e3 : (xs.length + ys.length) * sz = ((xs.take i).flatMap enc ++ ys.flatMap enc ++ (xs.drop i).flatMap enc).length := by rw [List.length_append, List.length_append, l3, l1, l2, ← Nat.add_mul, ← Nat.add_mul]; congr 1; omega
  rw [splice, h4, h5, hcs, ← List.append_assoc, ← List.append_assoc, e3, List.take_left]
  simp [List.flatMap_append]

theorem Inv.rowcap (h : Inv M w L) (i : Nat) {α : Type} {k : Ty α} {e : TypeId} {A : Option Addr} {n c : Nat} {xs : List α} (hi : L[i]? = some (.row k e A n c xs)) : c ≤ maxLen := by
  obtain ⟨F1, _, hown⟩ := h.look hi
  rcases hown.1 with ⟨_, rfl, _⟩ | ⟨b, arr, _, _, _, _, hc, _⟩
  · exact Nat.zero_le _
  · exact hc

/-- what an interface's value is: the number of its type; the types are empty structures -/
def ifaceV (y : Int) : Value := match y with | .ofNat n => .iface n (.agg #[]) | .negSucc _ => .nilIface
/-- a call that enters a function, whatever road it takes -/
theorem e_enter {R : Ending → World → Prop} (g : FuncId) (all : Array Value) (hent : Sem.pureRun P (execOp ev_ o) = some (.enter g all)) (hcall : Calls P g all w R)
    (h : ∀ e w', R e w' → ∃ v, e = .returned v ∧ K v w') : Eff P o ev_ w K := eff_call g all (Sem.pureRun_run _ hent w) hcall h
theorem ndEq {b : Int} (h : b ≠ 0) : 0 ≤ (if b = 0 then 1 else 0 : Int) ∧ (if b = 0 then 1 else 0 : Int) < ((1 : Nat) : Int) := by rw [if_neg h]; decide
end
end Go.Proofs.YtncapkloanfmnaaDoorE
