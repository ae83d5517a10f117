/- The engine, part T: rows whose elements lead to what stays; parts that are read; maps of rows; keys that are structures; rows that are moved behind others. -/
import Derived.Test.YtnlkggppokcmfaaS
namespace Go.Proofs.YtnlkggppokcmfaaE
open Go
set_option linter.unusedVariables false
set_option linter.unusedSimpArgs false
set_option linter.unusedSectionVars false
def Lends {α : Type} (N : BM) (kL k : Ty α) : Prop := kL.sz = k.sz ∧ ∀ H x cs, Sub N H → kL.rd H x cs → k.rd H x cs
theorem lends_refl {α : Type} {N : BM} {k : Ty α} : Lends N k k := ⟨rfl, fun _ _ _ _ h => h⟩
theorem lends_lent {α : Type} {N : BM} {e : TypeId} {k : Ty α} : Lends N (tLent N k) (tSlice e k) := ⟨rfl, fun _ _ _ hs ⟨A, c, e, hl, h⟩ => ⟨A, c, e, hl, h.mono hs⟩⟩
theorem lends_pair {α β : Type} {N : BM} {a a' : Ty α} {b b' : Ty β} (ha : Lends N a a') (hb : Lends N b b') : Lends N (tPair a b) (tPair a' b') :=
  ⟨by show a.sz + b.sz = a'.sz + b'.sz; rw [ha.1, hb.1], fun H x cs hs ⟨c1, c2, e, h1, h2⟩ => ⟨c1, c2, e, ha.2 H _ _ hs h1, hb.2 H _ _ hs h2⟩⟩
theorem lends_iso {α β : Type} {N : BM} {k k' : Ty α} {g : β → α} (h : Lends N k k') : Lends N (k.iso g) (k'.iso g) := ⟨h.1, fun H x cs hs hr => h.2 H _ _ hs hr⟩
theorem Lends.rdS {α : Type} {N H : BM} {kL k : Ty α} (h : Lends N kL k) (hs : Sub N H) {A : Option Addr} {xs : List α} (hr : rdS kL H A xs) : rdS k H A xs := by
  rcases hr with hr | ⟨b, o, hA, hcs⟩
  · exact .inl hr
  · refine .inr ⟨b, o, hA, fun j x hj => ?_⟩
    obtain ⟨cs, h1, h2⟩ := hcs j x hj
    exact ⟨cs, h.2 H x cs hs h1, fun i u hu => by rw [← h.1]; exact h2 i u hu⟩
theorem mk_lent {α : Type} {N : BM} {k : Ty α} {A : Option Addr} {n c : Nat} {xs : List α} (hr : rdS k N A xs) (hn : xs.length = n) (hl : xs.length ≤ c) : Mk (tLent N k) [] xs [.slice A n c] :=
  fun _ _ _ => ⟨A, c, by rw [hn], hl, hr⟩
def RdL {α : Type} (k : Ty α) (H : BM) : List α → List Value → Prop
  | [], cs => cs = []
  | x :: xs, cs => ∃ c1 c2, cs = c1 ++ c2 ∧ k.rd H x c1 ∧ RdL k H xs c2
theorem RdL.get {α : Type} {k : Ty α} {H : BM} : ∀ {xs : List α} {cs : List Value}, RdL k H xs cs → ∀ j x, xs[j]? = some x → ∃ c, k.rd H x c ∧ ∀ i u, c[i]? = some u → cs[j * k.sz + i]? = some u
  | [], _, _, j, x, hj => by simp at hj
  | x0 :: xs, _, ⟨c1, c2, e, h4, h5⟩, j, x, hj => by
    have hl := k.rd_len h4
    cases j with
    | zero =>
      simp only [List.getElem?_cons_zero, Option.some.injEq] at hj
      subst hj
      refine ⟨c1, h4, fun i u hu => ?_⟩
      rw [e, Nat.zero_mul, Nat.zero_add, List.getElem?_append_left (List.getElem?_eq_some_iff.1 hu).1]
      exact hu
    | succ j =>
      obtain ⟨c, hc, hget⟩ := h5.get j x (by simpa using hj)
      refine ⟨c, hc, fun i u hu => ?_⟩
      rw [e, show (j + 1) * k.sz + i = c1.length + (j * k.sz + i) by rw [hl, Nat.add_mul]; omega, List.getElem?_append_right (by omega), Nat.add_sub_cancel_left]
      exact hget i u hu
theorem rd_parts {α : Type} {k : Ty α} {w : World} {b : Nat} {xs : List α} {cs : List Value} (hg : Grp.ok w (b, 0, cs)) (h : RdL k (hp w) xs cs) : rdS k (hp w) (some ⟨b, 0, none⟩) xs := by
  refine .inr ⟨b, 0, rfl, fun j x hj => ?_⟩
  obtain ⟨c, hc, hget⟩ := h.get j x hj
  refine ⟨c, hc, fun i u hu => ?_⟩
  have h1 := hg _ _ (hget i u hu)
  rw [cell_hp] at h1
  rw [show 0 + j * k.sz + i = 0 + (j * k.sz + i) by omega]
  exact h1
theorem rd_flat {α : Type} {k : Ty α} {enc : α → List Value} [Flat k enc] {H : BM} (x : α) (cs : List Value) (h : cs = enc x) : k.rd H x cs := Flat.rd_iff.2 h
theorem rd_slice {α : Type} {k : Ty α} {e : TypeId} {H : BM} {A : Option Addr} {n c : Nat} {xs : List α} (hr : rdS k H A xs) (hn : xs.length = n) (hl : xs.length ≤ c) : (tSlice e k).rd H xs [.slice A n c] := ⟨A, c, by rw [hn], hl, hr⟩
theorem rd_pair {α β : Type} {a : Ty α} {b : Ty β} {H : BM} {x : α × β} {cs c1 c2 : List Value} (e : cs = c1 ++ c2) (h1 : a.rd H x.1 c1) (h2 : b.rd H x.2 c2) : (tPair a b).rd H x cs := ⟨c1, c2, e, h1, h2⟩
theorem rd_iso {α β : Type} {k : Ty α} {g : β → α} {H : BM} {x : β} {cs : List Value} (h : k.rd H (g x) cs) : (k.iso g).rd H x cs := h
theorem findAsking_list {P : Program} {w : World} {kt : TypeId} {κ : Type} {ek : κ → Value} (he : ∀ a b, ∃ r, eq2 P kt (ek a) (ek b) = some r ∧ (r = true ↔ a = b)) (x : κ) : ∀ (es : List MapEntry) (ks : List κ) (i : Nat), es.map (·.key) = ks.map ek →
    ((Instr.findAsking kt (ek x) es i).run P w = .ok none w ∧ ∀ k ∈ ks, k ≠ x) ∨ ∃ j e, (Instr.findAsking kt (ek x) es i).run P w = .ok (some (i + j, e.val)) w ∧ es[j]? = some e ∧ ks[j]? = some x ∧ ∀ i k, i < j → ks[i]? = some k → k ≠ x
  | [], [], _, _ => .inl ⟨rfl, by simp⟩
  | [], _ :: _, _, h => by simp at h
  | _ :: _, [], _, h => by simp at h
  | e :: es, k :: ks, i, h => by
    simp only [List.map_cons, List.cons.injEq] at h
    obtain ⟨hek, h⟩ := h
    obtain ⟨r, hr, hiff⟩ := he x k
    have hrun := eq2zrun (w := w) hr
    rw [← hek] at hrun
    cases r with
    | true =>
      have hx := hiff.1 rfl
      subst hx
      exact .inr ⟨0, e, by simp [Instr.findAsking, Sem.run_bind, hrun, Result.andThen, pure, Sem.run], rfl, rfl, fun i _ hi => by omega⟩
    | false =>
      have hne : k ≠ x := fun q => by subst q; have := hiff.2 rfl; cases this
      rcases findAsking_list (w := w) he x es ks (i + 1) h with ⟨h1, h2⟩ | ⟨j, e', h1, h2, h3, h4⟩
      · exact .inl ⟨by simp [Instr.findAsking, Sem.run_bind, hrun, Result.andThen, h1], fun q hq => by
          cases hq with
          | head => exact hne
          | tail _ hq => exact h2 q hq⟩
      · refine .inr ⟨j + 1, e', by rw [show i + (j + 1) = i + 1 + j by omega]; simp [Instr.findAsking, Sem.run_bind, hrun, Result.andThen, h1], by simpa using h2, by simpa using h3, fun q k' hq hk' => ?_⟩
        cases q with
        | zero => cases hk'; exact hne
        | succ q => exact h4 q k' (by omega) (by simpa using hk')
theorem key_agg {P : Program} {kt : TypeId} {fs : Array Field} (hd : P.underlying kt = some (.struct fs)) {κ : Type} [DecidableEq κ] (ek : κ → Value) (hc : ∀ em x, Sem.pureRun P (Instr.checkKey em 10000 kt (ek x)) = some ())
    (he : ∀ a b, ∃ r, eq2 P kt (ek a) (ek b) = some r ∧ (r = true ↔ a = b)) (hs : ∀ x, Instr.sameBits 10000 (ek x) (ek x) = true) : KeyL P kt ek where
  check := fun w em x => Sem.pureRun_run _ (hc em x) w
  find := fun w x es ks h => by
    have hfind : (Instr.findKey kt (ek x) es).run P w = (match es with | [] => .ok none w | _ => (Instr.findAsking kt (ek x) es 0).run P w) := by
      cases es with
      | nil => simp [Instr.findKey, run_underlying' hd, Instr.findNow, Sem.run_bind, Result.andThen, pure, Sem.run]
      | cons e es => simp [Instr.findKey, run_underlying' hd, Instr.findNow, Instr.sameNow, Sem.run_bind, Result.andThen, pure, Sem.run]
    rw [hfind]
    rcases findAsking_list (P := P) (w := w) he x es ks 0 h with ⟨h1, h2⟩ | ⟨j, e, h1, h2, h3, h4⟩
    · exact .inl ⟨by cases es with | nil => rfl | cons e es => exact h1, h2⟩
    · refine .inr ⟨j, e, ?_, h2, h3, h4⟩
      rw [Nat.zero_add] at h1
      cases es with
      | nil => simp at h2
      | cons e es => exact h1
  stays := fun w x => by simp [Instr.keyThatStays, hs, pure, Sem.run]
def mapO {κ ν : Type} (ek : κ → Value) (kv : Ty ν) (b : Nat) (m : List (κ × ν)) : Asrt :=
  .any (fun H F => F b ∧ ∃ es clock, H b = some (.map es clock) ∧ es.toList.map (·.key) = m.map (fun p => ek p.1) ∧ seqOwn kv H (fun b' => F b' ∧ b' ≠ b) (m.map (·.2)) (es.toList.map (·.val)))
    (fun h hF => ⟨hF _ h.1, by obtain ⟨_, es, clock, h1, h2, h3⟩ := h; exact ⟨es, clock, h1, h2, h3.mono fun b' q => ⟨hF _ q.1, q.2⟩⟩⟩)
    (fun h hF => ⟨h.1, by obtain ⟨h0, es, clock, h1, h2, h3⟩ := h; exact ⟨es, clock, (hF _ h0).trans h1, h2, h3.congr fun b' q => hF _ q.1⟩⟩)
def MapAt {κ : Type} (ek : κ → Value) (H : BM) (b : Nat) (ks : List κ) (k : κ) (v : Value) : Prop :=
  ∃ es clock, H b = some (.map es clock) ∧ es.toList.map (·.key) = ks.map ek ∧
    ((∃ (j : Nat) (e : MapEntry), es.toList[j]? = some e ∧ ks[j]? = some k ∧ (∀ i k', i < j → ks[i]? = some k' → k' ≠ k) ∧ e.val = v) ∨ ((∀ k' ∈ ks, k' ≠ k) ∧ v = .slice none 0 0))
def mhole {κ ν : Type} [DecidableEq κ] : List (κ × ν) → κ → List Value → List (κ × (ν ⊕ List Value))
  | [], _, _ => []
  | p :: m, x, v => if p.1 = x then (p.1, .inr v) :: m.map (fun q => (q.1, .inl q.2)) else (p.1, .inl p.2) :: mhole m x v
theorem mhole_put {κ ν : Type} [DecidableEq κ] {v : List Value} {y : ν} : ∀ {m : List (κ × ν)} {x : κ}, mput (mhole m x v) x (.inl y) = (mput m x y).map (fun q => (q.1, .inl q.2))
  | [], x => rfl
  | p :: m, x => by
    by_cases h : p.1 = x
    · simp [mhole, mput, h]
    · simp [mhole, mput, h, mhole_put (m := m)]
theorem mhole_keys {κ ν : Type} [DecidableEq κ] {v : List Value} : ∀ {m : List (κ × ν)} {x : κ}, (mhole m x v).map (·.1) = m.map (·.1)
  | [], _ => rfl
  | p :: m, x => by
    by_cases h : p.1 = x
    · simp [mhole, h, List.map_map, Function.comp_def]
    · simp [mhole, h, mhole_keys (m := m)]
theorem mhole_some {κ ν : Type} [DecidableEq κ] {v : List Value} : ∀ {m : List (κ × ν)} {x : κ} {j : Nat}, (m.map (·.1))[j]? = some x → (∀ i k, i < j → (m.map (·.1))[i]? = some k → k ≠ x) → (mhole m x v).map (·.2) = ((m.map (·.2)).map Sum.inl).set j (.inr v)
  | p :: m, x, 0, h, _ => by
    simp only [List.map_cons, List.getElem?_cons_zero, Option.some.injEq] at h
    simp [mhole, h, List.map_map, Function.comp_def]
  | p :: m, x, j + 1, h, hn => by
    have h1 : p.1 ≠ x := hn 0 p.1 (by omega) rfl
    simp [mhole, h1, mhole_some (m := m) (j := j) (by simpa using h) (fun i k hi hk => hn (i + 1) k (by omega) (by simpa using hk))]
theorem mhole_none {κ ν : Type} [DecidableEq κ] {v : List Value} : ∀ {m : List (κ × ν)} {x : κ}, (∀ k ∈ m.map (·.1), k ≠ x) → mhole m x v = m.map (fun q => (q.1, .inl q.2))
  | [], _, _ => rfl
  | p :: m, x, h => by
    rw [mhole, if_neg (h p.1 (by simp)), mhole_none (fun k hk => h k (by simp at hk ⊢; exact .inr hk))]
    rfl
section
variable {P : Program} {o : Oper} {ev_ : Operand → Value} {K : Value → World → Prop} {w : World} {M : Mem} {L : List Asrt}
variable {κ ν : Type} [DecidableEq κ] {ek : κ → Value}
theorem e_makemapO (κ ν : Type) (ek : κ → Value) (kv : Ty ν) (t : TypeId) (hop : o.op = .makeMap t none) (hI : Inv M w L) (h : ∀ b w', Inv M w' (L ++ [mapO ek kv b ([] : List (κ × ν))]) → K (.map (some b)) w') : Eff P o ev_ w K := by
  refine eff_val (.map (some w.heap.size)) (w' := w.alloc (.map #[] 0)) ?_ (h _ _ (hI.alloc _ ⟨rfl, #[], 0, hp_alloc_new w _, rfl, rfl⟩))
  simp only [execOp, hop, Option.map_none]
  rfl
theorem keys_map {m : List (κ × ν)} {es : List MapEntry} (h : es.map (·.key) = m.map (fun p => ek p.1)) : es.map (·.key) = (m.map (·.1)).map ek := by
  rw [h, List.map_map]; rfl
theorem Inv.mapAtO {kv : Ty ν} (h : Inv M w L) (li : Nat) {b : Nat} {m : List (κ × ν)} (hL : L[li]? = some (mapO ek kv b m)) :
    ∃ es clock, hp w b = some (.map es clock) ∧ es.toList.map (·.key) = (m.map (·.1)).map ek ∧ ∃ F, seqOwn kv (hp w) F (m.map (·.2)) (es.toList.map (·.val)) := by
  obtain ⟨F1, _, hown⟩ := h.look hL
  obtain ⟨_, es, clock, h1, h2, h3⟩ := hown
  exact ⟨es, clock, h1, keys_map h2, _, h3⟩
theorem mat_at [Inhabited ν] {m : List (κ × ν)} {x : κ} {j : Nat} (h : (m.map (·.1))[j]? = some x) (hn : ∀ i k, i < j → (m.map (·.1))[i]? = some k → k ≠ x) : (m.map (·.2))[j]? = some (mat m x) ∧ mhas m x = true := by
  cases hm : m[j]? with
  | none => rw [List.getElem?_map, hm] at h; cases h
  | some p =>
    obtain ⟨k, y⟩ := p
    rw [List.getElem?_map, hm] at h
    have hk : k = x := Option.some.inj h
    subst hk
    obtain ⟨e1, e2⟩ := mat_some hm hn
    exact ⟨by rw [List.getElem?_map, hm, e1]; rfl, e2⟩
theorem e_lookupO {α : Type} {kt : Ty α} {e : TypeId} (t kty et : TypeId) (a x : Operand) (ok : Bool) (li b : Nat) (m : List (κ × List α)) (k : κ) (hop : o.op = .lookup t a x ok) (ht : P.underlying t = some (.map kty et)) (hK : KeyL P kty ek) (hz : ∀ w : World, (zeroValue et).run P w = .ok (.slice none 0 0) w)
    (ha : ev_ a = .map (some b)) (hx : ev_ x = ek k) (hI : Inv M w L) (hL : L[li]? = some (mapO ek (tSlice e kt) b m))
    (h : ∀ A c, rdS kt (hp w) A (mat m k) → (mat m k).length ≤ c → MapAt ek (hp w) b (m.map (·.1)) k (.slice A (mat m k).length c) → K (bif ok then .tuple #[.slice A (mat m k).length c, .bool (mhas m k)] else .slice A (mat m k).length c) w) : Eff P o ev_ w K := by
  obtain ⟨es, clock, hb, hks, F, hseq⟩ := hI.mapAtO li hL
  have hb' : w.heap[b]? = some (.map es clock) := hb
  rcases hK.find w k es.toList _ hks with ⟨h1, h2⟩ | ⟨j, en, h1, h2, h3, h4⟩
  · obtain ⟨e1, e2⟩ := mat_none h2
    have e1 : mat m k = [] := e1
    refine eff_val _ ?_ (h none 0 (.inl e1) (by rw [e1]; exact Nat.le_refl _) ⟨es, clock, hb, hks, .inr ⟨h2, by rw [e1]; rfl⟩⟩)
    have hrun : (Instr.lookup t (.map (some b)) (ek k) ok).run P w = .ok (bif ok then .tuple #[.slice none 0 0, .bool false] else .slice none 0 0) w := by
      simp only [Instr.lookup, Sem.run_bind, run_underlying' ht, Result.andThen, MapKept.run_getObj_map hb', hK.check, h1, hz, pure, Sem.run]
      cases ok <;> rfl
    simp only [execOp, hop, ha, hx, Sem.run_bind, hrun, Result.andThen, Sem.run, pure, e1, e2]
    rfl
  · obtain ⟨hv, e2⟩ := mat_at h3 h4
    obtain ⟨cs, ⟨A, c, hcs, hl, hrd⟩, hget⟩ := hseq.get j _ hv
    subst hcs
    have hval : en.val = .slice A (mat m k).length c := by
      have := hget 0 _ rfl
      rw [show (tSlice e kt).sz = 1 from rfl, Nat.mul_one, Nat.add_zero, List.getElem?_map, h2] at this
      exact Option.some.inj this
    refine eff_val _ ?_ (h A c hrd hl ⟨es, clock, hb, hks, .inl ⟨j, en, h2, h3, h4, hval⟩⟩)
    have hrun : (Instr.lookup t (.map (some b)) (ek k) ok).run P w = .ok (bif ok then .tuple #[.slice A (mat m k).length c, .bool true] else .slice A (mat m k).length c) w := by
      simp only [Instr.lookup, Sem.run_bind, run_underlying' ht, Result.andThen, MapKept.run_getObj_map hb', hK.check, h1, hval, pure, Sem.run]
      cases ok <;> rfl
    simp only [execOp, hop, ha, hx, Sem.run_bind, hrun, Result.andThen, Sem.run, pure, e2]
theorem map_inl_snd {m : List (κ × ν)} : (m.map (fun q => (q.1, (Sum.inl q.2 : ν ⊕ List Value)))).map (·.2) = (m.map (·.2)).map Sum.inl := by simp [List.map_map, Function.comp_def]
theorem map_inl_fst {m : List (κ × ν)} : (m.map (fun q => (q.1, (Sum.inl q.2 : ν ⊕ List Value)))).map (fun p => ek p.1) = m.map (fun p => ek p.1) := by simp [List.map_map, Function.comp_def]
theorem Inv.takeM {α : Type} {kt : Ty α} {e : TypeId} {b n c : Nat} {A : Option Addr} {m : List (κ × List α)} {k : κ} (h : Inv M w L) (li : Nat) (hL : L[li]? = some (mapO ek (tSlice e kt) b m))
    (hat : MapAt ek (hp w) b (m.map (·.1)) k (.slice A n c)) (hn : n = (mat m k).length) :
    Inv M w (.row kt e A (mat m k).length c (mat m k) :: L.set li (mapO ek (tOpt (tSlice e kt)) b (mhole m k [.slice A (mat m k).length c]))) := by
  subst hn
  refine h.part hL ?_
  rintro F ⟨hFb, es, clock, hb, hks, hseq⟩
  obtain ⟨es', clock', hb', hks', hat⟩ := hat
  have hes : es' = es := by rw [hb] at hb'; cases hb'; rfl
  subst hes
  rcases hat with ⟨j, en, hj, hkj, hfst, hval⟩ | ⟨hno, hv⟩
  · obtain ⟨hvj, _⟩ := mat_at hkj hfst
    obtain ⟨c0, E1, E2, e1, e2, e3, e4, e5, e6, e7⟩ := (seqOwn_inl hseq).at (j := j) (x := Sum.inl (mat m k)) (by rw [List.getElem?_map, hvj]; rfl)
    have e4 : (tSlice e kt).own (hp w) E1 (mat m k) c0 := e4
    obtain ⟨A', cc, hc0, hinner⟩ := e4
    subst hc0
    have hsz1 : (tOpt (tSlice e kt)).sz = 1 := rfl
    have h6 := e6 0 _ rfl
    have h6' := h6
    rw [hsz1, Nat.mul_one, Nat.add_zero, List.getElem?_map, hj] at h6
    have h6 : en.val = _ := Option.some.inj h6
    rw [hval] at h6
    cases h6
    refine ⟨E1, fun b2 => F b2 ∧ ¬ E1 b2, fun b2 h => (e1 b2 h).1, fun b2 h => h.1, fun b2 h h' => h'.2 h, ⟨hinner, rfl⟩, ⟨⟨hFb, fun h => (e1 b h).2 rfl⟩, es', clock, hb, ?_, ?_⟩⟩
    · rw [hks]
      have := mhole_keys (v := [.slice A (mat m k).length c]) (m := m) (x := k)
      have := congrArg (List.map ek) this
      simpa [List.map_map, Function.comp_def] using this.symm
    · rw [mhole_some hkj hfst]
      have h7 := e7 (hp w) (fun _ => False) (fun b2 => (F b2 ∧ ¬ E1 b2) ∧ b2 ≠ b) (Sum.inr [.slice A (mat m k).length c]) [.slice A (mat m k).length c] ⟨rfl, rfl, oneOf rfl⟩
        (fun _ _ => rfl) (fun _ h => h.elim) (fun _ h => h.elim) (fun b2 hE => ⟨⟨(e2 b2 hE).1, fun h => e3 b2 h hE⟩, (e2 b2 hE).2⟩)
      rw [splice_get] at h7
      · exact h7
      · have hlt := (List.getElem?_eq_some_iff.1 h6').1
        rw [hsz1] at hlt ⊢
        simp at hlt ⊢
        omega
      · intro q u hu
        have hq : q = 0 := by
          have := (List.getElem?_eq_some_iff.1 hu).1
          simpa using this
        subst hq
        cases hu
        exact h6'
  · have hm : mat m k = [] := (mat_none hno).1
    have hA : A = none := by injection hv
    have hc : c = 0 := by injection hv
    refine ⟨fun _ => False, F, fun _ h => h.elim, fun _ h => h, fun _ h => h.elim, ⟨.inl ⟨hA, hc, hm⟩, rfl⟩, ⟨hFb, es', clock, hb, ?_, ?_⟩⟩
    · rw [mhole_none hno, map_inl_fst]; exact hks
    · rw [mhole_none hno, map_inl_snd]; exact seqOwn_inl hseq
def mapPin {α : Type} (ek : κ → Value) (kt : Ty α) (e : TypeId) (b : Nat) (m : List (κ × List α)) (k : κ) (A : Option Addr) (c : Nat) : Asrt :=
  .any (fun H F => (mapO ek (tSlice e kt) b m).Own H F ∧ MapAt ek H b (m.map (·.1)) k (.slice A (mat m k).length c))
    (by intro H F F' h hF; exact ⟨h.1.mono hF, h.2⟩)
    (by
      intro H H' F h hF
      refine ⟨h.1.congr hF, ?_⟩
      obtain ⟨⟨hF0, _⟩, es, clock, h1, h2⟩ := h
      exact ⟨es, clock, (hF _ hF0).trans h1, h2⟩)
section
variable {α : Type} {kt : Ty α} {e : TypeId} {b c : Nat} {A : Option Addr} {m : List (κ × List α)} {k : κ}
theorem Inv.pin (h : Inv M w L) (li : Nat) (hL : L[li]? = some (mapO ek (tSlice e kt) b m)) (hat : MapAt ek (hp w) b (m.map (·.1)) k (.slice A (mat m k).length c)) : Inv M w (L.set li (mapPin ek kt e b m k A c)) :=
  h.turn hL (Nat.le_refl _) rfl rfl rfl fun F hF hown => ⟨F, ⟨hown, hat⟩, fun _ _ _ => rfl, fun _ h => .inl h⟩
theorem Inv.unpin (h : Inv M w L) (li : Nat) (hL : L[li]? = some (mapPin ek kt e b m k A c)) : Inv M w (L.set li (mapO ek (tSlice e kt) b m)) :=
  h.turn hL (Nat.le_refl _) rfl rfl rfl fun F hF hown => ⟨F, hown.1, fun _ _ _ => rfl, fun _ h => .inl h⟩
theorem Inv.pinat (h : Inv M w L) (li : Nat) (hL : L[li]? = some (mapPin ek kt e b m k A c)) : MapAt ek (hp w) b (m.map (·.1)) k (.slice A (mat m k).length c) := by
  obtain ⟨F1, _, hown⟩ := h.look hL
  exact hown.2
theorem Inv.pinboth (h : Inv M w L) (li : Nat) (hL : L[li]? = some (mapPin ek kt e b m k A c)) : rdS kt (hp w) A (mat m k) ∧ (mat m k).length ≤ c := by
  obtain ⟨es', clock', hb', hks', hat⟩ := h.pinat li hL
  have hL2 : (L.set li (mapO ek (tSlice e kt) b m))[li]? = some (mapO ek (tSlice e kt) b m) := by
    rw [List.getElem?_set_self (List.getElem?_eq_some_iff.1 hL).1]
  obtain ⟨es, clock, hb, hks, F, hseq⟩ := (h.unpin li hL).mapAtO li hL2
  have hes : es' = es := by rw [hb] at hb'; cases hb'; rfl
  subst hes
  rcases hat with ⟨j, en, hj, hkj, hfst, hval⟩ | ⟨hno, hv⟩
  · obtain ⟨hvj, _⟩ := mat_at hkj hfst
    obtain ⟨cs, ⟨A', c', hcs, hl, hrd⟩, hget⟩ := hseq.get j _ hvj
    subst hcs
    have h6 := hget 0 _ rfl
    rw [show (tSlice e kt).sz = 1 from rfl, Nat.mul_one, Nat.add_zero, List.getElem?_map, hj] at h6
    have h6 : en.val = _ := Option.some.inj h6
    rw [hval] at h6
    injection h6 with h7 h8 h9
    subst h7 h9
    exact ⟨hrd, hl⟩
  · have hm : mat m k = [] := (mat_none hno).1
    exact ⟨.inl hm, by rw [hm]; exact Nat.zero_le _⟩
theorem Inv.pinrd (h : Inv M w L) (li : Nat) (hL : L[li]? = some (mapPin ek kt e b m k A c)) : rdS kt (hp w) A (mat m k) := (h.pinboth li hL).1
theorem Inv.pinle (h : Inv M w L) (li : Nat) (hL : L[li]? = some (mapPin ek kt e b m k A c)) : (mat m k).length ≤ c := (h.pinboth li hL).2
theorem Inv.takeP (h : Inv M w L) (li : Nat) (hL : L[li]? = some (mapPin ek kt e b m k A c)) :
    Inv M w (.row kt e A (mat m k).length c (mat m k) :: L.set li (mapO ek (tOpt (tSlice e kt)) b (mhole m k [.slice A (mat m k).length c]))) := by
  have hL2 : (L.set li (mapO ek (tSlice e kt) b m))[li]? = some (mapO ek (tSlice e kt) b m) := by
    rw [List.getElem?_set_self (List.getElem?_eq_some_iff.1 hL).1]
  have := (h.unpin li hL).takeM li hL2 (h.pinat li hL) rfl
  rwa [List.set_set] at this
end
theorem Inv.mapback {kv : Ty ν} {b : Nat} {ys : List (κ × (ν ⊕ List Value))} (h : Inv M w L) (li : Nat) (m : List (κ × ν)) (hL : L[li]? = some (mapO ek (tOpt kv) b ys)) (hz : ys = m.map (fun q => (q.1, .inl q.2))) :
    Inv M w (L.set li (mapO ek kv b m)) := by
  subst hz
  refine h.turn hL (Nat.le_refl _) rfl rfl rfl ?_
  rintro F hF ⟨h1, es, clock, h2, h3, h4⟩
  rw [map_inl_snd] at h4
  rw [map_inl_fst] at h3
  exact ⟨F, ⟨h1, es, clock, h2, h3, seqOwn_back h4⟩, fun _ _ _ => rfl, fun _ h => .inl h⟩
theorem e_mapputO {kv : Ty ν} (t kty et : TypeId) (a x y : Operand) (li : Nat) (js rest : List Nat) (R L' : List Asrt) (b : Nat) (m : List (κ × ν)) (k : κ) (v : ν) (u : Value) (hop : o.op = .mapUpdate t a x y) (ht : P.underlying t = some (.map kty et)) (hK : KeyL P kty ek)
    (ha : ev_ a = .map (some b)) (hx : ev_ x = ek k) (hy : ev_ y = u) (hk1 : kv.sz = 1) (hI : Inv M w L) (hn : (li :: (js ++ rest)).Nodup) (hL : (li :: (js ++ rest)).map (L[·]?) = (mapO ek kv b m :: (R ++ L')).map some) (hmk : Mk kv R v [u])
    (h : ∀ w', Inv M w' (mapO ek kv b (mput m k v) :: L') → K undef w') : Eff P o ev_ w K := by
  have hI2 := hI.pick _ hn hL
  obtain ⟨F1, F2, h1, h2, h3, ⟨hFb, es, clock, hb, hks, hseq⟩, hsep⟩ := hI2.sep
  obtain ⟨G1, G2, g1, g2, g3, hsR, hsL⟩ := hsep.split
  have hy' := hmk _ _ hsR
  have hb' : w.heap[b]? = some (.map es clock) := hb
  have hbF2 : ¬ F2 b := h3 _ hFb
  have hblt : b < w.heap.size := (h1 _ hFb).2
  have key : ∃ es' clock', (Instr.mapUpdate t (.map (some b)) (ek k) u).run P w = .ok () { w with heap := w.heap.setIfInBounds b (.map es' clock') } ∧ es'.toList.map (·.key) = (mput m k v).map (fun p => ek p.1) ∧
      ∀ H', (∀ b2, b2 ≠ b → H' b2 = hp w b2) → seqOwn kv H' (fun b2 => (F1 b2 ∨ G1 b2) ∧ b2 ≠ b) ((mput m k v).map (·.2)) (es'.toList.map (·.val)) := by
    have hG : ∀ b2, G1 b2 → b2 ≠ b := fun b2 hG e => hbF2 (e ▸ g1 b2 hG)
    rcases hK.find w k es.toList _ (keys_map hks) with ⟨q1, q2⟩ | ⟨j, e, q1, q2, q3, q4⟩
    · refine ⟨es.push { key := ek k, val := u, born := clock }, clock + 1, ?_, ?_, ?_⟩
      · simp only [Instr.mapUpdate, Sem.run_bind, run_underlying' ht, Result.andThen, MapKept.run_getObj_map hb', hK.check, q1, MapKept.run_setObj_map _ hb', pure, Sem.run]
      · rw [mput_none q2, Array.toList_push, List.map_append, hks, List.map_append]; rfl
      · intro H' hH
        rw [mput_none q2, Array.toList_push, List.map_append, List.map_append]
        have := (hseq.congr (H' := H') (fun b2 q => hH b2 q.2)).snoc (G := G1) (kv.own_congr hy' (fun b2 q => hH b2 (hG b2 q))) (fun b2 q q' => h3 b2 q.1 (g1 b2 q'))
        exact this.mono (fun b2 q => q.elim (fun q => ⟨.inl q.1, q.2⟩) (fun q => ⟨.inr q, hG b2 q⟩))
    · have hj : es[j]? = some e := by simpa using q2
      have hvj : ∃ v0, (m.map (·.2))[j]? = some v0 := by
        have hlt := (List.getElem?_eq_some_iff.1 q3).1
        rw [List.length_map] at hlt
        exact ⟨m[j].2, by rw [List.getElem?_map, List.getElem?_eq_getElem hlt]; rfl⟩
      obtain ⟨v0, hv0⟩ := hvj
      have hek : e.key = ek k := by
        have := congrArg (·[j]?) (keys_map hks)
        simp only [List.getElem?_map, q2] at this
        rw [List.getElem?_map] at q3
        cases hm : m[j]? with
        | none => rw [hm] at q3; cases q3
        | some p =>
          rw [hm] at this q3
          have h5 : p.1 = k := Option.some.inj q3
          have h6 : e.key = ek p.1 := Option.some.inj this
          rw [h6, h5]
      refine ⟨es.modify j (fun e => { e with key := ek k, val := u }), clock, ?_, ?_, ?_⟩
      · simp only [Instr.mapUpdate, Sem.run_bind, run_underlying' ht, Result.andThen, MapKept.run_getObj_map hb', hK.check, q1, hj, Option.map_some, Option.getD_some, hek, hK.stays, MapKept.run_setObj_map _ hb', pure, Sem.run]
      · rw [mput_some q3 q4, List.map_set, ← hks]
        apply List.ext_getElem?
        intro i
        have hjl : j < es.toList.length := (List.getElem?_eq_some_iff.1 q2).1
        rw [List.getElem?_map, Array.getElem?_toList, Array.getElem?_modify, List.getElem?_set, List.length_map]
        by_cases e' : j = i
        · subst e'
          rw [if_pos rfl, if_pos rfl, if_pos hjl, hj]
          rfl
        · rw [if_neg e', if_neg e', List.getElem?_map, Array.getElem?_toList]
      · intro H' hH
        rw [mput_some q3 q4, List.map_set]
        obtain ⟨c0, E1, E2, e1, e2, e3, e4, e5, e6, e7⟩ := hseq.at hv0
        have h7 := e7 H' G1 (fun b2 => (F1 b2 ∨ G1 b2) ∧ b2 ≠ b) v [u] (kv.own_congr hy' (fun b2 q => hH b2 (hG b2 q))) (fun b2 q => hH b2 (e2 b2 q).2) (fun b2 q q' => h3 b2 (e2 b2 q').1 (g1 b2 q))
          (fun b2 q => ⟨.inr q, hG b2 q⟩) (fun b2 q => ⟨.inl (e2 b2 q).1, (e2 b2 q).2⟩)
        have hv : (es.modify j (fun e => { e with key := ek k, val := u })).toList.map (·.val) = splice (es.toList.map (·.val)) (j * kv.sz) [u] := by
          have hjl : j < es.toList.length := (List.getElem?_eq_some_iff.1 q2).1
          rw [hk1, Nat.mul_one]
          apply List.ext_getElem?
          intro i
          unfold splice
          rw [List.getElem?_map, Array.getElem?_toList, Array.getElem?_modify]
          have hjl' : j < es.size := by simpa using hjl
          rcases Nat.lt_trichotomy i j with hi | hi | hi
          · rw [if_neg (by omega), List.getElem?_append_left (by simp; omega), List.getElem?_take, if_pos hi, List.getElem?_map, Array.getElem?_toList]
          · subst hi
            rw [if_pos rfl, hj, List.getElem?_append_right (by simp; omega)]
            simp [Nat.min_eq_left (Nat.le_of_lt hjl')]
          · rw [if_neg (by omega), List.getElem?_append_right (by simp; omega), List.length_take, List.length_map, Nat.min_eq_left (by omega), List.singleton_append]
            obtain ⟨d, hd⟩ : ∃ d, i = j + (d + 1) := ⟨i - j - 1, by omega⟩
            subst hd
            rw [Nat.add_sub_cancel_left, List.getElem?_cons_succ, List.getElem?_drop, List.getElem?_map, Array.getElem?_toList]
            simp only [List.length_singleton]
            rw [show j + (d + 1) = j + 1 + d by omega]
        rw [hv]
        exact h7
  obtain ⟨es', clock', hrun, hk', hs'⟩ := key
  have hset := MapKept.heap_set (w := w) (o' := .map es' clock') hb'
  have hother : ∀ b2, b2 ≠ b → hp { w with heap := w.heap.setIfInBounds b (.map es' clock') } b2 = hp w b2 := fun b2 hne => hset.2 b2 hne
  refine eff_unit (w' := { w with heap := w.heap.setIfInBounds b (.map es' clock') }) ?_ (h _ ?_)
  · simp only [execOp, hop, ha, hx, hy, Sem.run_bind, hrun, Result.andThen, Sem.run, pure]
  · refine ⟨fun b2 o2 hb2 => ?_, by simpa using hI2.size, hI2.os, hI2.tape, hI2.output, ?_⟩
    · rw [hother b2 (fun e => by subst e; rw [(h1 _ hFb).1] at hb2; cases hb2)]
      exact hI2.fix b2 o2 hb2
    · have hsz : ({ w with heap := w.heap.setIfInBounds b (.map es' clock') } : World).heap.size = w.heap.size := by simp
      rw [hsz]
      refine ⟨fun b2 => F1 b2 ∨ G1 b2, G2, fun b2 q => q.elim (h1 b2) (fun q => h2 b2 (g1 b2 q)), fun b2 q => h2 b2 (g2 b2 q), ?_, ⟨.inl hFb, es', clock', hset.1, hk', hs' _ hother⟩, hsL.congr (fun b2 q => hother b2 (fun e => hbF2 (e ▸ g2 b2 q)))⟩
      rintro b2 (q | q) q'
      · exact h3 b2 q (g2 b2 q')
      · exact g3 b2 q q'
end
def seqA {α : Type} (k : Ty α) (ys : List α) (cs : List Value) : Asrt := .any (fun H F => seqOwn k H F ys cs) (fun h hF => h.mono hF) (fun h hF => h.congr hF)
section
variable {P : Program} {o : Oper} {ev_ : Operand → Value} {K : Value → World → Prop} {w : World} {M : Mem} {L : List Asrt}
theorem Inv.openseq {α : Type} {kt : Ty α} {e : TypeId} {b n c : Nat} {xs : List α} (hI : Inv M w L) (li : Nat) (hL : L[li]? = some (.row kt e (some ⟨b, 0, none⟩) n c xs)) :
    ∃ cs, Inv M w (seqA kt xs (cs.take (n * kt.sz)) :: L.set li (.blk b e cs)) ∧ cs.length = c * kt.sz ∧ xs.length = n ∧ n ≤ c ∧ c ≤ maxLen := by
  obtain ⟨F1, hF1, hown⟩ := hI.look hL
  obtain ⟨hr, hln⟩ := hown
  subst hln
  rcases hr with ⟨h0, _⟩ | ⟨b', arr, hA, hFb, hb, hlc, hcm, hsz, hseq⟩
  · cases h0
  · cases hA
    refine ⟨arr.toList, ?_, by simpa using hsz, rfl, hlc, hcm⟩
    refine hI.part hL ?_
    rintro F ⟨hr, _⟩
    rcases hr with ⟨h0, _⟩ | ⟨b2, arr2, hA2, hFb2, hb2, _, _, _, hseq2⟩
    · cases h0
    · cases hA2
      have : arr2 = arr := by rw [hb] at hb2; cases hb2; rfl
      subst this
      exact ⟨fun b' => F b' ∧ b' ≠ b, fun b' => b' = b, fun b' q => q.1, fun b' q => q ▸ hFb2, fun b' q q' => q.2 q', hseq2, rfl, by simpa using hb2⟩
theorem e_append_move {α : Type} (kt : Ty α) (t ty e : TypeId) (s x : Operand) (inf : TypeInfo) (z : Value) (A A2 : Option Addr) (n c m c2 : Nat) (xs ys : List α) (li lj : Nat) (rest : List Nat) (L' : List Asrt)
    (hop : o.op = .call { callee := .builtin .append, args := #[s, x], argTypes := #[t, t] })
    (hs : ev_ s = .slice A n c) (hx : ev_ x = .slice A2 m c2)
    (ht : P.underlying t = some (.slice e)) (hi : P.info? e = some inf) (hz : inf.zero = some z) (hsz : inf.size = kt.sz) (hzs : z.cells.size = kt.sz) (hpos : Nat.blt 0 kt.sz = true)
    (hI : Inv M w L) (hn : (li :: lj :: rest).Nodup) (hL : (li :: lj :: rest).map (L[·]?) = (.row kt e A n c xs :: .row kt e A2 m c2 ys :: L').map some)
    (hbytes : ((n + m) + (n + m) / 4 + 192) * inf.bytes ≤ 281474976710656 ∧ n + m ≤ 9223372036854775807)
    (h : ∀ A' c' w', Inv M w' (.row kt e A' (xs ++ ys).length c' (xs ++ ys) :: L') → K (.slice A' (xs ++ ys).length c') w') : Eff P o ev_ w K := by
  have hI2 := hI.pick _ hn hL
  have hlx := hI2.rowlen 0 rfl
  have hly := hI2.rowlen 1 rfl
  cases A2 with
  | none =>
    have hy : ys = [] := by
      obtain ⟨F1, _, hown⟩ := hI2.look (i := 1) rfl
      rcases hown.1 with ⟨_, _, h0⟩ | ⟨b, arr, h0, _⟩
      · exact h0
      · cases h0
    subst hy
    have hm : m = 0 := by rw [← hly]; rfl
    subst hm
    have hle := hI2.rowle 0 rfl
    have hrun : (Builtin.append_ #[t, t] o.type #[.slice A n c, .slice none 0 c2]).run P w = .ok (.slice A n c) w := by
      cases A <;> simp [Builtin.append_, run_underlying ht, sizeOf, typeInfo, hi, Builtin.lenOf, Builtin.firstCells, storeCells, show n ≤ c by omega]
    refine eff_val (.slice A n c) (w' := w) ?_ ?_
    · simp only [execOp, hop, resolve, invoke, builtin, Sem.run_bind, Sem.run_pure, Result.andThen_ok, List.map_toArray, List.map_cons, List.map_nil, hs, hx, hrun]
    · have hI3 := hI2.pick (L' := .row kt e A n c xs :: L') (0 :: (List.range L'.length).map (· + 2)) (by
        rw [List.nodup_cons]
        refine ⟨by simp, ?_⟩
        rw [List.nodup_iff_pairwise_ne, List.pairwise_map]
        exact (List.nodup_range (n := L'.length)).imp (fun h e => h (by omega))) (by
        simp only [List.map_cons, List.getElem?_cons_zero, List.map_map]
        congr 1
        apply List.ext_getElem?
        intro i
        simp only [List.getElem?_map, Function.comp_def]
        rcases Nat.lt_or_ge i L'.length with hi | hi
        · simp [List.getElem?_range hi, List.getElem?_eq_getElem hi]
        · simp [List.getElem?_eq_none hi, List.getElem?_eq_none (show (List.range L'.length).length ≤ i by simpa using hi)])
      have := h A c w (by rw [List.append_nil, hlx]; exact hI3)
      rw [List.append_nil, hlx] at this
      exact this
  | some a2 =>
    obtain ⟨b2, hb2⟩ : ∃ b2, a2 = ⟨b2, 0, none⟩ := by
      obtain ⟨F1, _, hown⟩ := hI2.look (i := 1) rfl
      rcases hown.1 with ⟨h0, _⟩ | ⟨b, arr, h0, _⟩
      · cases h0
      · exact ⟨b, Option.some.inj h0⟩
    subst hb2
    obtain ⟨cs, hI3, hcl, hyl, hmc, hcm⟩ := hI2.openseq 1 rfl
    have hfit : m * kt.sz ≤ c2 * kt.sz := Nat.mul_le_mul_right _ hmc
    have hg : Grp.ok w (b2, 0, cs.take (m * kt.sz)) := by
      intro j u hu
      refine hI3.grp 2 rfl j u ?_
      rw [List.getElem?_take] at hu
      split at hu
      · exact hu
      · cases hu
    refine e_append kt t ty e s x inf z A n c xs ys b2 0 m c2 (cs.take (m * kt.sz)) 1 [0] (2 :: (List.range L'.length).map (· + 3)) [seqA kt ys (cs.take (m * kt.sz))] (.blk b2 e cs :: L') hop hs hx ht hi hz hsz hzs hpos hI3 ?_ ?_ (by rw [List.length_take]; omega) hyl hg hbytes ?_ ?_
    · rw [List.singleton_append, List.nodup_cons, List.nodup_cons, List.nodup_cons]
      refine ⟨by simp, by simp, by simp, ?_⟩
      rw [List.nodup_iff_pairwise_ne, List.pairwise_map]
      exact (List.nodup_range (n := L'.length)).imp (fun h e => h (by omega))
    · simp only [List.singleton_append, List.map_cons, List.map_map]
      congr 1; congr 1; congr 1
      apply List.ext_getElem?
      intro i
      simp only [List.getElem?_map, Function.comp_def]
      rcases Nat.lt_or_ge i L'.length with hi | hi
      · simp [List.getElem?_range hi, List.getElem?_eq_getElem hi]
      · simp [List.getElem?_eq_none hi, List.getElem?_eq_none (show (List.range L'.length).length ≤ i by simpa using hi)]
    · rintro H F ⟨G1, G2, g1, g2, g3, hseq, _⟩
      exact hseq.mono g1
    · intro A' c' w' hI4
      refine h A' c' w' (hI4.pick (0 :: (List.range L'.length).map (· + 2)) ?_ ?_)
      · rw [List.nodup_cons]
        refine ⟨by simp, ?_⟩
        rw [List.nodup_iff_pairwise_ne, List.pairwise_map]
        exact (List.nodup_range (n := L'.length)).imp (fun h e => h (by omega))
      · simp only [List.map_cons, List.getElem?_cons_zero, List.map_map]
        congr 1
        apply List.ext_getElem?
        intro i
        simp only [List.getElem?_map, Function.comp_def]
        rcases Nat.lt_or_ge i L'.length with hi | hi
        · simp [List.getElem?_range hi, List.getElem?_eq_getElem hi]
        · simp [List.getElem?_eq_none hi, List.getElem?_eq_none (show (List.range L'.length).length ≤ i by simpa using hi)]
end
section
variable {P : Program} {o : Oper} {ev_ : Operand → Value} {K : Value → World → Prop} {w : World} {M : Mem} {L : List Asrt}
theorem Inv.tail {a : Asrt} (h : Inv M w (a :: L)) : Inv M w L := by
  obtain ⟨F1, F2, h1, h2, h3, h4, h5⟩ := h.sep
  exact ⟨h.fix, h.size, h.os, h.tape, h.output, h5.mono h2⟩
def noM : BM := fun _ => none
theorem noM_sub {H : BM} : Sub noM H := fun _ _ h => nomatch h
def orA {α : Type} (N : BM) (k : Ty α) (e : TypeId) (A : Option Addr) (n c : Nat) (xs : List α) : Asrt :=
  .any (fun H F => (∃ N' : BM, (∀ b o, N' b = some o → N b = some o ∨ (F b ∧ H b = some o)) ∧ rdS k N' A xs ∧ xs.length ≤ c) ∧ xs.length = n)
    (fun ⟨⟨N', h1, h2⟩, hn⟩ hF => ⟨⟨N', fun b o h => (h1 b o h).imp id fun h => ⟨hF b h.1, h.2⟩, h2⟩, hn⟩)
    (fun ⟨⟨N', h1, h2⟩, hn⟩ hF => ⟨⟨N', fun b o h => (h1 b o h).imp id fun h => ⟨h.1, (hF b h.1).trans h.2⟩, h2⟩, hn⟩)
section
variable {α : Type} {k : Ty α} {e : TypeId} {A A' : Option Addr} {n c c' : Nat} {xs ys : List α} {N N' : BM}
theorem Inv.addOr (h : Inv M w L) (e : TypeId) (hr : rdS k N A xs) (hl : xs.length ≤ c) (hn : xs.length = n) : Inv M w (L ++ [orA N k e A n c xs]) := by
  refine ⟨h.fix, h.size, h.os, h.tape, h.output, ?_⟩
  have ho : (orA N k e A n c xs).Own (hp w) (fun _ => False) := ⟨⟨N, fun _ _ h => .inl h, hr, hl⟩, hn⟩
  exact (h.sep.append (G := fun _ => False) (m := [orA N k e A n c xs]) ⟨fun _ => False, fun _ => False, fun _ h => h, fun _ h => h, fun _ h => h.elim, ho, trivial⟩ (fun _ _ h => h)).mono fun b hb => hb.elim id False.elim
open Classical in
theorem rowOwn.part {H : BM} {F : Nat → Prop} (h : rowOwn k e H F A c xs) : ∃ N' : BM, (∀ b o, N' b = some o → F b ∧ H b = some o) ∧ rdS k N' A xs := by
  refine ⟨fun b => if F b then H b else none, fun b o hb => ?_, rowOwn.rd (h.congr (H' := fun b => if F b then H b else none) fun b hb => if_pos hb)⟩
  by_cases hF : F b
  · exact ⟨hF, by simpa only [hF, if_true] using hb⟩
  · simp only [hF, if_false] at hb
    cases hb
theorem Inv.toOr (h : Inv M w L) (i : Nat) (N : BM) (hL : L[i]? = some (.row k e A n c xs)) : Inv M w (L.set i (orA N k e A n c xs)) :=
  h.turn hL (Nat.le_refl _) rfl rfl rfl fun F hF hown => ⟨F, ⟨let ⟨N', h1, h2⟩ := rowOwn.part hown.1; ⟨N', fun b o hb => .inr (h1 b o hb), h2, hown.1.le⟩, hown.2⟩, fun _ _ _ => rfl, fun _ h => .inl h⟩
theorem Inv.orsub (h : Inv M w L) (i : Nat) (hL : L[i]? = some (orA N k e A n c xs)) (hs : ∀ H, rdS k H A xs → rdS k H A' ys) (hl : ys.length ≤ c') : Inv M w (L.set i (orA N k e A' ys.length c' ys)) :=
  h.turn hL (Nat.le_refl _) rfl rfl rfl fun F hF ⟨⟨N', h1, h2, _⟩, _⟩ => ⟨F, ⟨⟨N', h1, hs _ h2, hl⟩, rfl⟩, fun _ _ _ => rfl, fun _ h => .inl h⟩
theorem Inv.orrd (h : Inv M w L) (i : Nat) (hs : Sub N (hp w)) (hL : L[i]? = some (orA N k e A n c xs)) : rdS k (hp w) A xs := by
  obtain ⟨F1, _, ⟨N', h1, h2, _⟩, _⟩ := h.look hL
  exact h2.mono fun b o hb => (h1 b o hb).elim (hs b o) (·.2)
theorem Inv.orle (h : Inv M w L) (i : Nat) (hL : L[i]? = some (orA N k e A n c xs)) : xs.length ≤ c := by
  obtain ⟨F1, _, ⟨N', h1, h2, h3⟩, _⟩ := h.look hL
  exact h3
theorem Inv.orlen (h : Inv M w L) (i : Nat) (hL : L[i]? = some (orA N k e A n c xs)) : xs.length = n := by
  obtain ⟨F1, _, hown⟩ := h.look hL
  exact hown.2
end
theorem e_partsS (t e : TypeId) (n : Nat) (ps : Array (Nat × Operand)) (inf : TypeInfo) (z : Value) (arr : Array Value) (cs : List Value) (hop : o.op = .buildSlice t n ps)
    (ht : P.underlying t = some (.slice e)) (hi : P.info? e = some inf) (hz : inf.zero = some z) (hn : Nat.ble (n * inf.size) 1024 = true) (hpos : Nat.blt 0 (n * inf.size) = true)
    (hfill : Instr.fill (fun i => some (i * inf.size, inf.size)) ((Array.range (n * inf.size)).map (z.cells[· % z.cells.size]!)) (ps.map fun p => (p.1, ev_ p.2)).toList = some arr) (hcs : arr.toList = cs) (hI : Inv M w L)
    (h : ∀ b w', Sub (hp w) (hp w') → Inv M w' (L ++ [.blk b e cs]) → K (.slice (some ⟨b, 0, none⟩) n n) w') : Eff P o ev_ w K := by
  subst hcs
  have h1 := Nat.le_of_ble_eq_true hn
  have h2 : 0 < n * inf.size := Nat.le_of_ble_eq_true hpos
  refine eff_val (.slice (some ⟨w.heap.size, 0, none⟩) n n) (w' := w.alloc (.cells arr e)) ?_ ?_
  · have h3 : ¬ n * inf.size > 2 ^ 24 := by omega
    have h4 : ¬ n * inf.size = 0 := by omega
    simp only [execOp, hop, Instr.buildSlice, Sem.run_bind, run_underlying' ht, Result.andThen, run_sizeOf hi, h3, h4, if_false, Sem.run, pure]
    simp only [zeroValue, typeInfo, program, Sem.run_bind, Sem.run, hi, hz, Result.andThen, pure, hfill, newRow, newObj]
    rfl
  · have := hI.alloc_blk e arr.toList
    rw [Array.toArray_toList] at this
    refine h _ _ (fun b o hb => ?_) this
    have hlt : b < w.heap.size := (Array.getElem?_eq_some_iff.1 hb).1
    exact (hp_alloc_old w _ hlt).trans hb
end
end Go.Proofs.YtnlkggppokcmfaaE
